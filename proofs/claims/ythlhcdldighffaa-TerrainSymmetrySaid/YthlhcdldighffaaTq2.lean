/- Terrains with another cell: the program's and the reference's, and the law. A lemma for the statement. -/
import Derived.Test.YthlhcdldighffaaFla3
namespace Go.Proofs.Ythlhcdldighffaa.Tab
open Go Go.IM Go.RowKit
set_option maxRecDepth 100000
set_option linter.unusedSimpArgs false
set_option linter.unusedVariables false
set_option maxHeartbeats 4000000

variable {hook : CallFn} {R : IEnd → Heap → Prop} {H : Heap}

theorem idx_bound {t : Ter} {gl pl : List Int} {x y : Int} (h : THas t gl pl x y) : 0 ≤ y * t.w ∧ y * t.w ≤ 4096 ∧ 0 ≤ y * t.w + x ∧ y * t.w + x < gl.length ∧ y * t.w + x < pl.length ∧ t.w ≤ 64 ∧ 1 ≤ t.w := by
  obtain ⟨hv, h1, h2, h3, h4⟩ := h
  have hw := hv.w
  have hh := hv.h
  have hg := hv.gn
  have hp := hv.pn
  have a := Int.mul_le_mul_of_nonneg_right (show y ≤ t.h - 1 by omega) (show 0 ≤ t.w by omega)
  have b : (t.h - 1) * t.w = t.w * t.h - t.w := by rw [Int.sub_mul, Int.one_mul, Int.mul_comm]
  have c := Int.mul_nonneg h3 (show 0 ≤ t.w by omega)
  have d : y * t.w ≤ 63 * 64 := Int.mul_le_mul (by omega) hw.2 (by omega) (by decide)
  omega

theorem big_is {t : Ter} {gl pl : List Int} (ht : TerIn H t gl pl) (R : IEnd → Heap → Prop) :
    WF tab hook 16 [.agg t.cs.toArray] H R = R (.ret (.bool (decide (300 < gl.length ∨ 300 < pl.length)))) H := by
  refine WF_eq (WF_def (tab := tab) (F := 16) rfl rfl ?_) R
  obtain ⟨tw, th, tg, tp⟩ := t
  obtain ⟨sg, sp⟩ := ht
  simp only at sg sp
  obtain ⟨oa0, c0, rfl⟩ := sg.form
  obtain ⟨oa1, c1, rfl⟩ := sp.form
  simp -implicitDefEqProofs (disch := first | omega | (simp only [List.length_append, List.length_cons, List.length_nil, List.length_set] <;> omega) | (repeat' (first | assumption | exact Pre.refl _ | refine Pre.push ?_ rfl | refine Pre.app ?_ (by assumption) | refine Pre.set ?_ ?_ rfl | omega | (simp only [List.length_append, List.length_cons, List.length_nil, List.length_set] <;> omega) | fail)) | fail) only [↓reduceIte, go_sem, Nat.sub_zero, List.length_replicate, Nat.reduceLT, Nat.reduceLeDiff, Nat.reduceEqDiff, Nat.reduceAdd, Nat.reduceMul, reduceCtorEq, Int.reduceToNat, Int.reduceLT, Int.reduceLE, Int.reduceAdd, Int.reduceSub, Int.reduceEq, Int.reduceBEq, Int.reduceBNe, Nat.reduceBEq, Nat.reduceBNe, Int.reduceMul, Int.reduceNeg, Ter.cs]
  (repeat' (first | (((first | refine wguard_split (fun hbr => ?_) (fun hbr => ?_) | refine wcond_split (fun hbr => ?_) (fun hbr => ?_) | refine wguard0_split (fun hbr => ?_) (fun hbr => ?_)) <;> (have hq := hbr; (try simp only [Bool.not_eq_true', Bool.not_eq_false', Bool.and_eq_true, Bool.and_eq_false_iff, Bool.or_eq_true, Bool.or_eq_false_iff, decide_eq_true_eq, decide_eq_false_iff_not, bne_iff_ne, beq_iff_eq, beq_eq_false_iff_ne, bne_eq_false_iff_eq, ne_eq, Int.not_lt, Int.not_le, Int.ofNat_inj, Bool.not_eq_true, Bool.not_eq_false] at hq))) <;> first | (exfalso; omega) | simp -implicitDefEqProofs (disch := first | omega | (simp only [List.length_append, List.length_cons, List.length_nil, List.length_set] <;> omega) | (repeat' (first | assumption | exact Pre.refl _ | refine Pre.push ?_ rfl | refine Pre.app ?_ (by assumption) | refine Pre.set ?_ ?_ rfl | omega | (simp only [List.length_append, List.length_cons, List.length_nil, List.length_set] <;> omega) | fail)) | fail) only [↓reduceIte, go_sem, Nat.sub_zero, List.length_replicate, Nat.reduceLT, Nat.reduceLeDiff, Nat.reduceEqDiff, Nat.reduceAdd, Nat.reduceMul, reduceCtorEq, Int.reduceToNat, Int.reduceLT, Int.reduceLE, Int.reduceAdd, Int.reduceSub, Int.reduceEq, Int.reduceBEq, Int.reduceBNe, Nat.reduceBEq, Nat.reduceBNe, Int.reduceMul, Int.reduceNeg, *] | skip) | (apply And.intro; omega; try simp -implicitDefEqProofs (disch := first | omega | (simp only [List.length_append, List.length_cons, List.length_nil, List.length_set] <;> omega) | (repeat' (first | assumption | exact Pre.refl _ | refine Pre.push ?_ rfl | refine Pre.app ?_ (by assumption) | refine Pre.set ?_ ?_ rfl | omega | (simp only [List.length_append, List.length_cons, List.length_nil, List.length_set] <;> omega) | fail)) | fail) only [↓reduceIte, go_sem, Nat.sub_zero, List.length_replicate, Nat.reduceLT, Nat.reduceLeDiff, Nat.reduceEqDiff, Nat.reduceAdd, Nat.reduceMul, reduceCtorEq, Int.reduceToNat, Int.reduceLT, Int.reduceLE, Int.reduceAdd, Int.reduceSub, Int.reduceEq, Int.reduceBEq, Int.reduceBNe, Nat.reduceBEq, Nat.reduceBNe, Int.reduceMul, Int.reduceNeg, *])))
  all_goals ((first | refine dec_ret (hR _ (by (repeat' (first | assumption | exact Pre.refl _ | refine Pre.push ?_ rfl | refine Pre.app ?_ (by assumption) | refine Pre.set ?_ ?_ rfl | omega | (simp only [List.length_append, List.length_cons, List.length_nil, List.length_set] <;> omega) | fail)))) ?_ | refine dec_eq ?_); simp; omega)

theorem tindex_is {t : Ter} {gl pl : List Int} {x y : Int} (h : THas t gl pl x y) (R : IEnd → Heap → Prop) :
    WF tab hook 44 [.agg t.cs.toArray, .agg #[.int .i64 x, .int .i64 y]] H R = R (.ret (.int .i64 (y * t.w + x))) H := by
  refine WF_eq (WF_def (tab := tab) (F := 44) rfl rfl ?_) R
  have hb := idx_bound h
  have hx := h.2
  simp -implicitDefEqProofs (disch := first | omega | (simp only [List.length_append, List.length_cons, List.length_nil, List.length_set] <;> omega) | (repeat' (first | assumption | exact Pre.refl _ | refine Pre.push ?_ rfl | refine Pre.app ?_ (by assumption) | refine Pre.set ?_ ?_ rfl | omega | (simp only [List.length_append, List.length_cons, List.length_nil, List.length_set] <;> omega) | fail)) | fail) only [↓reduceIte, go_sem, Nat.sub_zero, List.length_replicate, Nat.reduceLT, Nat.reduceLeDiff, Nat.reduceEqDiff, Nat.reduceAdd, Nat.reduceMul, reduceCtorEq, Int.reduceToNat, Int.reduceLT, Int.reduceLE, Int.reduceAdd, Int.reduceSub, Int.reduceEq, Int.reduceBEq, Int.reduceBNe, Nat.reduceBEq, Nat.reduceBNe, Int.reduceMul, Int.reduceNeg, Ter.cs]

theorem rindex_is {t : Ter} {gl pl : List Int} {x y : Int} (h : THas t gl pl x y) (R : IEnd → Heap → Prop) :
    WF tab hook 37 [.agg t.cs.toArray, .agg #[.int .i64 x, .int .i64 y]] H R = R (.ret (.int .i64 (y * t.w + x))) H := by
  refine WF_eq (WF_def (tab := tab) (F := 37) rfl rfl ?_) R
  have hb := idx_bound h
  have hx := h.2
  simp -implicitDefEqProofs (disch := first | omega | (simp only [List.length_append, List.length_cons, List.length_nil, List.length_set] <;> omega) | (repeat' (first | assumption | exact Pre.refl _ | refine Pre.push ?_ rfl | refine Pre.app ?_ (by assumption) | refine Pre.set ?_ ?_ rfl | omega | (simp only [List.length_append, List.length_cons, List.length_nil, List.length_set] <;> omega) | fail)) | fail) only [↓reduceIte, go_sem, Nat.sub_zero, List.length_replicate, Nat.reduceLT, Nat.reduceLeDiff, Nat.reduceEqDiff, Nat.reduceAdd, Nat.reduceMul, reduceCtorEq, Int.reduceToNat, Int.reduceLT, Int.reduceLE, Int.reduceAdd, Int.reduceSub, Int.reduceEq, Int.reduceBEq, Int.reduceBNe, Nat.reduceBEq, Nat.reduceBNe, Int.reduceMul, Int.reduceNeg, Ter.cs]

theorem copy_is {t : Ter} {gl pl : List Int} (ht : TerIn H t gl pl) (hg : gl.length ≤ 1000000) (hp : pl.length ≤ 1000000)
    (hR : ∀ G1 G2 v1 v2, NR G1 → NR G2 → Ow (Lay.int .i64) H (H ++ G1) v1 gl → Ow (Lay.int .i64) (H ++ G1) (H ++ G1 ++ G2) v2 pl → R (.ret (.agg #[.int .i64 t.w, .int .i64 t.h, v1, v2])) (H ++ G1 ++ G2)) :
    WF tab hook 40 [.agg t.cs.toArray] H R := by
  refine WF_def (tab := tab) (F := 40) rfl rfl ?_
  simp -implicitDefEqProofs (disch := first | omega | (simp only [List.length_append, List.length_cons, List.length_nil, List.length_set] <;> omega) | (repeat' (first | assumption | exact Pre.refl _ | refine Pre.push ?_ rfl | refine Pre.app ?_ (by assumption) | refine Pre.set ?_ ?_ rfl | omega | (simp only [List.length_append, List.length_cons, List.length_nil, List.length_set] <;> omega) | fail)) | fail) only [↓reduceIte, go_sem, Nat.sub_zero, List.length_replicate, Nat.reduceLT, Nat.reduceLeDiff, Nat.reduceEqDiff, Nat.reduceAdd, Nat.reduceMul, reduceCtorEq, Int.reduceToNat, Int.reduceLT, Int.reduceLE, Int.reduceAdd, Int.reduceSub, Int.reduceEq, Int.reduceBEq, Int.reduceBNe, Nat.reduceBEq, Nat.reduceBNe, Int.reduceMul, Int.reduceNeg, Ter.cs]
  refine clone_is ht.g hg fun H1 v1 ow1 => ?_
  have p1 := ow1.pre
  (obtain ⟨G1, rfl, nG1⟩ := p1.ex; clear p1)
  obtain ⟨o1, c1, rfl⟩ := ow1.sl.form
  simp -implicitDefEqProofs (disch := first | omega | (simp only [List.length_append, List.length_cons, List.length_nil, List.length_set] <;> omega) | (repeat' (first | assumption | exact Pre.refl _ | refine Pre.push ?_ rfl | refine Pre.app ?_ (by assumption) | refine Pre.set ?_ ?_ rfl | omega | (simp only [List.length_append, List.length_cons, List.length_nil, List.length_set] <;> omega) | fail)) | fail) only [↓reduceIte, go_sem, Nat.sub_zero, List.length_replicate, Nat.reduceLT, Nat.reduceLeDiff, Nat.reduceEqDiff, Nat.reduceAdd, Nat.reduceMul, reduceCtorEq, Int.reduceToNat, Int.reduceLT, Int.reduceLE, Int.reduceAdd, Int.reduceSub, Int.reduceEq, Int.reduceBEq, Int.reduceBNe, Nat.reduceBEq, Nat.reduceBNe, Int.reduceMul, Int.reduceNeg, *]
  refine clone_is ht.p.app hp fun H2 v2 ow2 => ?_
  have p2 := ow2.pre
  (obtain ⟨G2, rfl, nG2⟩ := p2.ex; clear p2)
  obtain ⟨o2, c2, rfl⟩ := ow2.sl.form
  simp -implicitDefEqProofs (disch := first | omega | (simp only [List.length_append, List.length_cons, List.length_nil, List.length_set] <;> omega) | (repeat' (first | assumption | exact Pre.refl _ | refine Pre.push ?_ rfl | refine Pre.app ?_ (by assumption) | refine Pre.set ?_ ?_ rfl | omega | (simp only [List.length_append, List.length_cons, List.length_nil, List.length_set] <;> omega) | fail)) | fail) only [↓reduceIte, go_sem, Nat.sub_zero, List.length_replicate, Nat.reduceLT, Nat.reduceLeDiff, Nat.reduceEqDiff, Nat.reduceAdd, Nat.reduceMul, reduceCtorEq, Int.reduceToNat, Int.reduceLT, Int.reduceLE, Int.reduceAdd, Int.reduceSub, Int.reduceEq, Int.reduceBEq, Int.reduceBNe, Nat.reduceBEq, Nat.reduceBNe, Int.reduceMul, Int.reduceNeg, *]
  all_goals exact hR _ _ _ _ nG1 nG2 ow1 ow2

/-- Two new lists with other elements at one place. -/
structure Pair (H H' : Heap) (v1 v2 : Value) (gl pl : List Int) (b1 b2 : Nat) : Prop where
  pre : Pre H H'
  g : Mine (Lay.int .i64) H.length H' v1 gl b1
  p : Mine (Lay.int .i64) H.length H' v2 pl b2
  ne : b1 ≠ b2

theorem Pair.of {G1 G2 : Heap} {v1 v2 : Value} {gl pl : List Int} (n1 : NR G1) (n2 : NR G2) (h1 : Ow (Lay.int .i64) H (H ++ G1) v1 gl) (h2 : Ow (Lay.int .i64) (H ++ G1) (H ++ G1 ++ G2) v2 pl) : ∃ b1 b2, Pair H (H ++ G1 ++ G2) v1 v2 gl pl b1 b2 := by
  obtain ⟨b1, m1, l1⟩ := Mine.of h1
  obtain ⟨b2, m2, l2⟩ := Mine.of h2
  have hp : Pre H (H ++ G1 ++ G2) := ((Pre.refl H).app n1).app n2
  by_cases e1 : 0 < gl.length
  · by_cases e2 : 0 < pl.length
    · have a1 := l1 e1
      have a2 := (m2.is e2).2.1
      exact ⟨b1, b2, hp, m1.app, ⟨fun e => by have := m2.is e; exact ⟨this.1, by have := this.2.1; simp at this; omega, this.2.2⟩, m2.nil⟩, by omega⟩
    · exact ⟨b1, b1 + 1, hp, m1.app, ⟨fun e => absurd e e2, m2.nil⟩, by omega⟩
  · exact ⟨b2 + 1, b2, hp, ⟨fun e => absurd e e1, m1.nil⟩, ⟨fun e => by have := m2.is e; exact ⟨this.1, by have := this.2.1; simp at this; omega, this.2.2⟩, m2.nil⟩, by omega⟩

/-- An element of each is written. -/
theorem Pair.put {H' : Heap} {v1 v2 : Value} {gl pl : List Int} {b1 b2 i : Nat} (h : Pair H H' v1 v2 gl pl b1 b2) (h1 : i < gl.length) (h2 : i < pl.length) (x y : Int) :
    ∃ c1 c2 c d, v1 = .slice (some ⟨b1, 0, none⟩) gl.length c ∧ v2 = .slice (some ⟨b2, 0, none⟩) pl.length d ∧ H'.wrow b1 = some (c1, 1) ∧ H'.wrow b2 = some (c2, 1) ∧ b1 < H'.length ∧ b2 < H'.length ∧ c1.length = gl.length ∧ c2.length = pl.length ∧ c1[i]? = some (.int .i64 gl[i]) ∧ c2[i]? = some (.int .i64 pl[i]) ∧
      Pair H ((H'.set b1 (.cells (lay c1 i [.int .i64 x]) false 1)).set b2 (.cells (lay c2 i [.int .i64 y]) false 1)) v1 v2 (gl.set i x) (pl.set i y) b1 b2 := by
  obtain ⟨a1, a2, a3, a4, a5⟩ := h.g.at (by omega)
  obtain ⟨d1, d2, d3, d4, d5⟩ := h.p.at (by omega)
  have hne := h.ne
  have g1 := h.g.set h1 x
  have g2 := (h.p.other (x := IObj.cells (lay (gl.flatMap (Lay.int .i64).c) (i * (Lay.int .i64).m) ((Lay.int .i64).c x)) false (Lay.int .i64).m) fun _ => hne).set h2 y
  have f1 := a5.int i h1
  have f2 := d5.int i h2
  simp only [Nat.zero_add] at f1 f2
  refine ⟨_, _, _, _, a1, d1, a4, d4, a3, d3, by rw [flatMap_len]; simp [Lay.int], by rw [flatMap_len]; simp [Lay.int], f1, f2, ?_⟩
  have e1 : i * (Lay.int .i64).m = i := by simp [Lay.int]
  rw [e1] at g1 g2
  exact ⟨(h.pre.set a2 rfl).set d2 rfl, g1.other fun _ => hne.symm, g2, hne⟩

theorem Pair.low {H0 H' : Heap} {v1 v2 : Value} {gl pl : List Int} {b1 b2 : Nat} (h : Pair H H' v1 v2 gl pl b1 b2) (hp : Pre H0 H) : Pair H0 H' v1 v2 gl pl b1 b2 :=
  ⟨hp.trans h.pre, h.g.mono (Pre.refl _) hp.len, h.p.mono (Pre.refl _) hp.len, h.ne⟩

theorem Pair.mono {H' H2 : Heap} {v1 v2 : Value} {gl pl : List Int} {b1 b2 : Nat} (h : Pair H H' v1 v2 gl pl b1 b2) (hp : Pre H' H2) : Pair H H2 v1 v2 gl pl b1 b2 :=
  ⟨h.pre.trans hp, h.g.mono hp (Nat.le_refl _), h.p.mono hp (Nat.le_refl _), h.ne⟩

theorem Pair.ter {H' : Heap} {v1 v2 : Value} {gl pl : List Int} {b1 b2 : Nat} {w h : Int} (k : Pair H H' v1 v2 gl pl b1 b2) : TerIn H' ⟨w, h, v1, v2⟩ gl pl := ⟨k.g.sl, k.p.sl⟩

def ErrT : Value := .tuple #[.agg #[.int .i64 0, .int .i64 0, .slice none 0 0, .slice none 0 0], .int .i64 2]

theorem set_is {t : Ter} {gl pl : List Int} {x y g p : Int} (ht : TerIn H t gl pl) (hg : gl.length ≤ 1000000) (hp : pl.length ≤ 1000000)
    (hno : ¬ (THas t gl pl x y ∧ (0 ≤ g ∧ g ≤ 9000) ∧ 0 ≤ p ∧ p ≤ 1000000) → ∀ H', Pre H H' → R (.ret ErrT) H')
    (hR : THas t gl pl x y ∧ (0 ≤ g ∧ g ≤ 9000) ∧ 0 ≤ p ∧ p ≤ 1000000 → ∀ H' v1 v2 b1 b2, Pair H H' v1 v2 (gl.set (y * t.w + x).toNat g) (pl.set (y * t.w + x).toNat p) b1 b2 → R (.ret (.tuple #[.agg #[.int .i64 t.w, .int .i64 t.h, v1, v2], .int .i64 0])) H') :
    WF tab hook 17 [.agg t.cs.toArray, .agg #[.int .i64 x, .int .i64 y], .int .i64 g, .int .i64 p] H R := by
  unfold ErrT at hno
  refine WF_def (tab := tab) (F := 17) rfl rfl ?_
  simp -implicitDefEqProofs (disch := first | omega | (simp only [List.length_append, List.length_cons, List.length_nil, List.length_set] <;> omega) | (repeat' (first | assumption | exact Pre.refl _ | refine Pre.push ?_ rfl | refine Pre.app ?_ (by assumption) | refine Pre.set ?_ ?_ rfl | omega | (simp only [List.length_append, List.length_cons, List.length_nil, List.length_set] <;> omega) | fail)) | fail) only [↓reduceIte, go_sem, Nat.sub_zero, List.length_replicate, Nat.reduceLT, Nat.reduceLeDiff, Nat.reduceEqDiff, Nat.reduceAdd, Nat.reduceMul, reduceCtorEq, Int.reduceToNat, Int.reduceLT, Int.reduceLE, Int.reduceAdd, Int.reduceSub, Int.reduceEq, Int.reduceBEq, Int.reduceBNe, Nat.reduceBEq, Nat.reduceBNe, Int.reduceMul, Int.reduceNeg, Ter.cs]
  refine has_is (t := t) ht hg hp fun H1 p1 => ?_
  (obtain ⟨G1, rfl, nG1⟩ := p1.ex; clear p1)
  by_cases hh : THas t gl pl x y
  · rw [decide_eq_true hh]
    simp -implicitDefEqProofs (disch := first | omega | (simp only [List.length_append, List.length_cons, List.length_nil, List.length_set] <;> omega) | (repeat' (first | assumption | exact Pre.refl _ | refine Pre.push ?_ rfl | refine Pre.app ?_ (by assumption) | refine Pre.set ?_ ?_ rfl | omega | (simp only [List.length_append, List.length_cons, List.length_nil, List.length_set] <;> omega) | fail)) | fail) only [↓reduceIte, go_sem, Nat.sub_zero, List.length_replicate, Nat.reduceLT, Nat.reduceLeDiff, Nat.reduceEqDiff, Nat.reduceAdd, Nat.reduceMul, reduceCtorEq, Int.reduceToNat, Int.reduceLT, Int.reduceLE, Int.reduceAdd, Int.reduceSub, Int.reduceEq, Int.reduceBEq, Int.reduceBNe, Nat.reduceBEq, Nat.reduceBNe, Int.reduceMul, Int.reduceNeg, within_is]
    (repeat' (first | (((first | refine wguard_split (fun hbr => ?_) (fun hbr => ?_) | refine wcond_split (fun hbr => ?_) (fun hbr => ?_) | refine wguard0_split (fun hbr => ?_) (fun hbr => ?_)) <;> (have hq := hbr; (try simp only [Bool.not_eq_true', Bool.not_eq_false', Bool.and_eq_true, Bool.and_eq_false_iff, Bool.or_eq_true, Bool.or_eq_false_iff, decide_eq_true_eq, decide_eq_false_iff_not, bne_iff_ne, beq_iff_eq, beq_eq_false_iff_ne, bne_eq_false_iff_eq, ne_eq, Int.not_lt, Int.not_le, Int.ofNat_inj, Bool.not_eq_true, Bool.not_eq_false] at hq))) <;> first | (exfalso; omega) | simp -implicitDefEqProofs (disch := first | omega | (simp only [List.length_append, List.length_cons, List.length_nil, List.length_set] <;> omega) | (repeat' (first | assumption | exact Pre.refl _ | refine Pre.push ?_ rfl | refine Pre.app ?_ (by assumption) | refine Pre.set ?_ ?_ rfl | omega | (simp only [List.length_append, List.length_cons, List.length_nil, List.length_set] <;> omega) | fail)) | fail) only [↓reduceIte, go_sem, Nat.sub_zero, List.length_replicate, Nat.reduceLT, Nat.reduceLeDiff, Nat.reduceEqDiff, Nat.reduceAdd, Nat.reduceMul, reduceCtorEq, Int.reduceToNat, Int.reduceLT, Int.reduceLE, Int.reduceAdd, Int.reduceSub, Int.reduceEq, Int.reduceBEq, Int.reduceBNe, Nat.reduceBEq, Nat.reduceBNe, Int.reduceMul, Int.reduceNeg, *, within_is] | skip) | (apply And.intro; omega; try simp -implicitDefEqProofs (disch := first | omega | (simp only [List.length_append, List.length_cons, List.length_nil, List.length_set] <;> omega) | (repeat' (first | assumption | exact Pre.refl _ | refine Pre.push ?_ rfl | refine Pre.app ?_ (by assumption) | refine Pre.set ?_ ?_ rfl | omega | (simp only [List.length_append, List.length_cons, List.length_nil, List.length_set] <;> omega) | fail)) | fail) only [↓reduceIte, go_sem, Nat.sub_zero, List.length_replicate, Nat.reduceLT, Nat.reduceLeDiff, Nat.reduceEqDiff, Nat.reduceAdd, Nat.reduceMul, reduceCtorEq, Int.reduceToNat, Int.reduceLT, Int.reduceLE, Int.reduceAdd, Int.reduceSub, Int.reduceEq, Int.reduceBEq, Int.reduceBNe, Nat.reduceBEq, Nat.reduceBNe, Int.reduceMul, Int.reduceNeg, *, within_is])))
    try any_goals (exact hno (fun h => by have := h.2; omega) _ (by (repeat' (first | assumption | exact Pre.refl _ | refine Pre.push ?_ rfl | refine Pre.app ?_ (by assumption) | refine Pre.set ?_ ?_ rfl | omega | (simp only [List.length_append, List.length_cons, List.length_nil, List.length_set] <;> omega) | fail))))
    have hgp : THas t gl pl x y ∧ (0 ≤ g ∧ g ≤ 9000) ∧ 0 ≤ p ∧ p ≤ 1000000 := ⟨hh, by omega⟩
    have hb := idx_bound hh
    have ei := fun H R => tindex_is (hook := hook) (H := H) hh R
    unfold Ter.cs at ei
    refine copy_is (t := t) ⟨ht.g.app, ht.p.app⟩ hg hp fun G2 G3 v1 v2 n2 n3 ow1 ow2 => ?_
    obtain ⟨b1, b2, pr⟩ := Pair.of n2 n3 ow1 ow2
    obtain ⟨k, hk⟩ := Int.eq_ofNat_of_zero_le hb.2.2.1
    obtain ⟨w1, w2, d1, d2, rfl, rfl, e1, e2, e3, e4, e5, e6, -, -, pr2⟩ := pr.put (i := k) (by omega) (by omega) g p
    have hne := pr.ne
    rw [hk] at ei
    have k1 : k < gl.length := by omega
    have k2 : k < pl.length := by omega
    have k3 : k + 1 ≤ w1.length := by omega
    have k4 : k + 1 ≤ w2.length := by omega
    have hR' := hR hgp
    rw [hk] at hR'
    simp only [Int.toNat_natCast] at hR'
    generalize H ++ G1 ++ G2 ++ G3 = H4 at *
    simp -implicitDefEqProofs (disch := first | omega | (simp only [List.length_append, List.length_cons, List.length_nil, List.length_set] <;> omega) | (repeat' (first | assumption | exact Pre.refl _ | refine Pre.push ?_ rfl | refine Pre.app ?_ (by assumption) | refine Pre.set ?_ ?_ rfl | omega | (simp only [List.length_append, List.length_cons, List.length_nil, List.length_set] <;> omega) | fail)) | fail) only [↓reduceIte, go_sem, Nat.sub_zero, List.length_replicate, Nat.reduceLT, Nat.reduceLeDiff, Nat.reduceEqDiff, Nat.reduceAdd, Nat.reduceMul, reduceCtorEq, Int.reduceToNat, Int.reduceLT, Int.reduceLE, Int.reduceAdd, Int.reduceSub, Int.reduceEq, Int.reduceBEq, Int.reduceBNe, Nat.reduceBEq, Nat.reduceBNe, Int.reduceMul, Int.reduceNeg, ei, *]
    exact ⟨by omega, by omega, hR' _ _ _ _ _ (pr2.low ((Pre.refl H).app nG1))⟩
  · rw [decide_eq_false hh]
    simp -implicitDefEqProofs (disch := first | omega | (simp only [List.length_append, List.length_cons, List.length_nil, List.length_set] <;> omega) | (repeat' (first | assumption | exact Pre.refl _ | refine Pre.push ?_ rfl | refine Pre.app ?_ (by assumption) | refine Pre.set ?_ ?_ rfl | omega | (simp only [List.length_append, List.length_cons, List.length_nil, List.length_set] <;> omega) | fail)) | fail) only [↓reduceIte, go_sem, Nat.sub_zero, List.length_replicate, Nat.reduceLT, Nat.reduceLeDiff, Nat.reduceEqDiff, Nat.reduceAdd, Nat.reduceMul, reduceCtorEq, Int.reduceToNat, Int.reduceLT, Int.reduceLE, Int.reduceAdd, Int.reduceSub, Int.reduceEq, Int.reduceBEq, Int.reduceBNe, Nat.reduceBEq, Nat.reduceBNe, Int.reduceMul, Int.reduceNeg]
    all_goals exact hno (fun h => hh h.1) _ (by (repeat' (first | assumption | exact Pre.refl _ | refine Pre.push ?_ rfl | refine Pre.app ?_ (by assumption) | refine Pre.set ?_ ?_ rfl | omega | (simp only [List.length_append, List.length_cons, List.length_nil, List.length_set] <;> omega) | fail)))


theorem clone2 {v1 v2 : Value} {gl pl : List Int} (s1 : Sl (Lay.int .i64) H v1 gl) (s2 : Sl (Lay.int .i64) H v2 pl) (hg : gl.length ≤ 1000000) (hp : pl.length ≤ 1000000) :
    ∃ w1 w2 G1 G2 b1 b2, elems (H ++ [.cells [] false 0]) 1 v1 = some (gl.length, gl.flatMap (Lay.int .i64).c) ∧
      iapp 1 8 (.slice (some ⟨H.length, 0, none⟩) 0 0) gl.length (gl.flatMap (Lay.int .i64).c) (H ++ [.cells [] false 0]) = some (w1, H ++ [.cells [] false 0] ++ G1) ∧
      elems (H ++ [.cells [] false 0] ++ G1 ++ [.cells [] false 0]) 1 v2 = some (pl.length, pl.flatMap (Lay.int .i64).c) ∧
      iapp 1 8 (.slice (some ⟨(H ++ [IObj.cells [] false 0] ++ G1).length, 0, none⟩) 0 0) pl.length (pl.flatMap (Lay.int .i64).c) (H ++ [.cells [] false 0] ++ G1 ++ [.cells [] false 0]) = some (w2, H ++ [.cells [] false 0] ++ G1 ++ [.cells [] false 0] ++ G2) ∧
      NR G1 ∧ NR G2 ∧ Pair H (H ++ [.cells [] false 0] ++ G1 ++ [.cells [] false 0] ++ G2) w1 w2 gl pl b1 b2 := by
  obtain ⟨w1, G1, e1, n1, o1⟩ := clone_app (H0 := H) (n := gl.length) (bytes := 8) s1 (Pre.refl H) rfl (by omega) (by omega)
  obtain ⟨w2, G2, e2, n2, o2⟩ := clone_app (H := H ++ [IObj.cells [] false 0] ++ G1) (H0 := H ++ [IObj.cells [] false 0] ++ G1) (n := pl.length) (bytes := 8) s2.app.app (Pre.refl _) rfl (by omega) (by omega)
  have o1' : Ow (Lay.int .i64) H (H ++ ([IObj.cells [] false 0] ++ G1)) w1 gl := by simpa using o1
  have o2' : Ow (Lay.int .i64) (H ++ ([IObj.cells [] false 0] ++ G1)) (H ++ ([.cells [] false 0] ++ G1) ++ ([.cells [] false 0] ++ G2)) w2 pl := by simpa using o2
  have hn : NR [IObj.cells [] false 0] := by simp [NR, nro]
  have ha : ∀ {A B : Heap}, NR A → NR B → NR (A ++ B) := fun h k o ho => by rcases List.mem_append.1 ho with ho | ho; exact h o ho; exact k o ho
  obtain ⟨b1, b2, pr⟩ := Pair.of (ha hn n1) (ha hn n2) o1' o2'
  exact ⟨w1, w2, G1, G2, b1, b2, s1.app.elems, e1, s2.app.app.app.elems, e2, n1, n2, by simpa using pr⟩

theorem rset_is {t : Ter} {gl pl : List Int} {x y g p : Int} (ht : TerIn H t gl pl) (hg : gl.length ≤ 1000000) (hp : pl.length ≤ 1000000) (hh : THas t gl pl x y)
    (hR : ∀ H' v1 v2 b1 b2, Pair H H' v1 v2 (gl.set (y * t.w + x).toNat g) (pl.set (y * t.w + x).toNat p) b1 b2 → R (.ret (.agg #[.int .i64 t.w, .int .i64 t.h, v1, v2])) H') :
    WF tab hook 19 [.agg t.cs.toArray, .agg #[.int .i64 x, .int .i64 y], .int .i64 g, .int .i64 p] H R := by
  refine WF_def (tab := tab) (F := 19) rfl rfl ?_
  have hb := idx_bound hh
  have ei := fun H R => rindex_is (hook := hook) (H := H) hh R
  unfold Ter.cs at ei
  obtain ⟨v1, v2, G1, G2, b1, b2, a1, a2, a3, a4, n1, n2, pr⟩ := clone2 ht.g ht.p hg hp
  obtain ⟨k, hk⟩ := Int.eq_ofNat_of_zero_le hb.2.2.1
  obtain ⟨w1, w2, d1, d2, rfl, rfl, e1, e2, e3, e4, e5, e6, -, -, pr2⟩ := pr.put (i := k) (by omega) (by omega) g p
  have hne := pr.ne
  rw [hk] at ei hR
  simp only [Int.toNat_natCast] at hR
  have k1 : k < gl.length := by omega
  have k2 : k < pl.length := by omega
  have hR' := hR _ _ _ _ _ pr2
  clear hR pr pr2
  simp -implicitDefEqProofs (disch := first | omega | (simp only [List.length_append, List.length_cons, List.length_nil, List.length_set] <;> omega) | (repeat' (first | assumption | exact Pre.refl _ | refine Pre.push ?_ rfl | refine Pre.app ?_ (by assumption) | refine Pre.set ?_ ?_ rfl | omega | (simp only [List.length_append, List.length_cons, List.length_nil, List.length_set] <;> omega) | fail)) | fail) only [↓reduceIte, go_sem, Nat.sub_zero, List.length_replicate, Nat.reduceLT, Nat.reduceLeDiff, Nat.reduceEqDiff, Nat.reduceAdd, Nat.reduceMul, reduceCtorEq, Int.reduceToNat, Int.reduceLT, Int.reduceLE, Int.reduceAdd, Int.reduceSub, Int.reduceEq, Int.reduceBEq, Int.reduceBNe, Nat.reduceBEq, Nat.reduceBNe, Int.reduceMul, Int.reduceNeg, Ter.cs, *]
  all_goals first | exact ⟨by omega, by omega, hR'⟩ | omega

theorem lawSets_is {t : Ter} {gl pl : List Int} {x y g p : Int} (ht : TerIn H t gl pl) (hR : ∀ H', R (.ret (.bool true)) H') :
    WF tab kHook 4 [.agg t.cs.toArray, .agg #[.int .i64 x, .int .i64 y], .int .i64 g, .int .i64 p] H R := by
  refine WF_def (tab := tab) (F := 4) rfl rfl ?_
  have eb := fun R => big_is (hook := kHook) ht R
  unfold Ter.cs at eb
  by_cases hbig : 300 < gl.length ∨ 300 < pl.length
  · simp -implicitDefEqProofs (disch := first | omega | (simp only [List.length_append, List.length_cons, List.length_nil, List.length_set] <;> omega) | (repeat' (first | assumption | exact Pre.refl _ | refine Pre.push ?_ rfl | refine Pre.app ?_ (by assumption) | refine Pre.set ?_ ?_ rfl | omega | (simp only [List.length_append, List.length_cons, List.length_nil, List.length_set] <;> omega) | fail)) | fail) only [↓reduceIte, go_sem, Nat.sub_zero, List.length_replicate, Nat.reduceLT, Nat.reduceLeDiff, Nat.reduceEqDiff, Nat.reduceAdd, Nat.reduceMul, reduceCtorEq, Int.reduceToNat, Int.reduceLT, Int.reduceLE, Int.reduceAdd, Int.reduceSub, Int.reduceEq, Int.reduceBEq, Int.reduceBNe, Nat.reduceBEq, Nat.reduceBNe, Int.reduceMul, Int.reduceNeg, Ter.cs, eb, decide_eq_true hbig, known_is, hR]
  obtain ⟨hg, hp⟩ : gl.length ≤ 300 ∧ pl.length ≤ 300 := by omega
  obtain ⟨v1, v2, G1, G2, b1, b2, a1, a2, a3, a4, n1, n2, pr⟩ := clone2 ht.g ht.p (by omega) (by omega)
  have er := fun R => rhas_is (hook := kHook) (x := x) (y := y) ht (by omega) (by omega) R
  have s1 := pr.g.sl
  have s2 := pr.p.sl
  obtain ⟨o1, c1, rfl⟩ := s1.form
  obtain ⟨o2, c2, rfl⟩ := s2.form
  simp -implicitDefEqProofs (disch := first | omega | (simp only [List.length_append, List.length_cons, List.length_nil, List.length_set] <;> omega) | (repeat' (first | assumption | exact Pre.refl _ | refine Pre.push ?_ rfl | refine Pre.app ?_ (by assumption) | refine Pre.set ?_ ?_ rfl | omega | (simp only [List.length_append, List.length_cons, List.length_nil, List.length_set] <;> omega) | fail)) | fail) only [↓reduceIte, go_sem, Nat.sub_zero, List.length_replicate, Nat.reduceLT, Nat.reduceLeDiff, Nat.reduceEqDiff, Nat.reduceAdd, Nat.reduceMul, reduceCtorEq, Int.reduceToNat, Int.reduceLT, Int.reduceLE, Int.reduceAdd, Int.reduceSub, Int.reduceEq, Int.reduceBEq, Int.reduceBNe, Nat.reduceBEq, Nat.reduceBNe, Int.reduceMul, Int.reduceNeg, Ter.cs, eb, decide_eq_false hbig, a1, a2, a3, a4, n1, n2]
  have z0 : ∀ H : Heap, TerIn H ⟨0, 0, .slice none 0 0, .slice none 0 0⟩ [] [] := fun H => ⟨⟨.inl ⟨rfl, rfl⟩⟩, ⟨.inl ⟨rfl, rfl⟩⟩⟩
  have ez : ∀ H R, WF tab kHook 12 [.agg #[.int .i64 0, .int .i64 0, .slice none 0 0, .slice none 0 0], .agg #[.int .i64 0, .int .i64 0, .slice none 0 0, .slice none 0 0]] H R = R (.ret (.bool true)) H := fun H R => by
    have := requal_is (hook := kHook) (z0 H) (z0 H) (by simp) (by simp) R
    simpa [TEq, Ter.cs] using this
  -- the terrain and what it was
  have same : ∀ H', Pre (H ++ [IObj.cells [] false 0] ++ G1 ++ [IObj.cells [] false 0] ++ G2) H' → ∀ R, WF tab kHook 12 [.agg #[.int .i64 t.w, .int .i64 t.h, t.g, t.p], .agg #[.int .i64 t.w, .int .i64 t.h, .slice o1 gl.length c1, .slice o2 pl.length c2]] H' R = R (.ret (.bool true)) H' := fun H' hp R => by
    have := requal_is (hook := kHook) (H := H') (a := t) (b := ⟨t.w, t.h, .slice o1 gl.length c1, .slice o2 pl.length c2⟩) (ht.mono (Pre.trans (by (repeat' (first | assumption | exact Pre.refl _ | refine Pre.push ?_ rfl | refine Pre.app ?_ (by assumption) | refine Pre.set ?_ ?_ rfl | omega | (simp only [List.length_append, List.length_cons, List.length_nil, List.length_set] <;> omega) | fail))) hp)) ⟨s1.mono hp, s2.mono hp⟩ (by omega) (by omega) R
    simpa [TEq, Ter.cs] using this
  have er : ∀ H', Pre H H' → ∀ R, WF tab kHook 18 [.agg #[.int .i64 t.w, .int .i64 t.h, t.g, t.p], .agg #[.int .i64 x, .int .i64 y]] H' R = R (.ret (.bool (decide (THas t gl pl x y)))) H' := fun H' hp R => rhas_is (hook := kHook) (x := x) (y := y) (ht.mono hp) (by omega) (by omega) R
  refine set_is (t := t) (gl := gl) (pl := pl) ((by repeat (first | exact ht | refine Sl.app ?_ | refine Mine.app ?_ | refine TerIn.app ?_ | fail))) (by omega) (by omega) (fun hno H1 p1 => ?_) (fun hyes H1 w1 w2 b3 b4 pq => ?_)
  · have p0 : Pre H H1 := Pre.trans (by (repeat' (first | assumption | exact Pre.refl _ | refine Pre.push ?_ rfl | refine Pre.app ?_ (by assumption) | refine Pre.set ?_ ?_ rfl | omega | (simp only [List.length_append, List.length_cons, List.length_nil, List.length_set] <;> omega) | fail))) p1
    simp -implicitDefEqProofs (disch := first | omega | (simp only [List.length_append, List.length_cons, List.length_nil, List.length_set] <;> omega) | (repeat' (first | assumption | exact Pre.refl _ | refine Pre.push ?_ rfl | refine Pre.app ?_ (by assumption) | refine Pre.set ?_ ?_ rfl | omega | (simp only [List.length_append, List.length_cons, List.length_nil, List.length_set] <;> omega) | fail)) | fail) only [↓reduceIte, go_sem, Nat.sub_zero, List.length_replicate, Nat.reduceLT, Nat.reduceLeDiff, Nat.reduceEqDiff, Nat.reduceAdd, Nat.reduceMul, reduceCtorEq, Int.reduceToNat, Int.reduceLT, Int.reduceLE, Int.reduceAdd, Int.reduceSub, Int.reduceEq, Int.reduceBEq, Int.reduceBNe, Nat.reduceBEq, Nat.reduceBNe, Int.reduceMul, Int.reduceNeg, ErrT, er _ p0]
    by_cases hh : THas t gl pl x y
    · simp -implicitDefEqProofs (disch := first | omega | (simp only [List.length_append, List.length_cons, List.length_nil, List.length_set] <;> omega) | (repeat' (first | assumption | exact Pre.refl _ | refine Pre.push ?_ rfl | refine Pre.app ?_ (by assumption) | refine Pre.set ?_ ?_ rfl | omega | (simp only [List.length_append, List.length_cons, List.length_nil, List.length_set] <;> omega) | fail)) | fail) only [↓reduceIte, go_sem, Nat.sub_zero, List.length_replicate, Nat.reduceLT, Nat.reduceLeDiff, Nat.reduceEqDiff, Nat.reduceAdd, Nat.reduceMul, reduceCtorEq, Int.reduceToNat, Int.reduceLT, Int.reduceLE, Int.reduceAdd, Int.reduceSub, Int.reduceEq, Int.reduceBEq, Int.reduceBNe, Nat.reduceBEq, Nat.reduceBNe, Int.reduceMul, Int.reduceNeg, decide_eq_true hh]
      have : ¬ ((0 ≤ g ∧ g ≤ 9000) ∧ 0 ≤ p ∧ p ≤ 1000000) := fun h => hno ⟨hh, h⟩
      (repeat' (first | (((first | refine wguard_split (fun hbr => ?_) (fun hbr => ?_) | refine wcond_split (fun hbr => ?_) (fun hbr => ?_) | refine wguard0_split (fun hbr => ?_) (fun hbr => ?_)) <;> (have hq := hbr; (try simp only [Bool.not_eq_true', Bool.not_eq_false', Bool.and_eq_true, Bool.and_eq_false_iff, Bool.or_eq_true, Bool.or_eq_false_iff, decide_eq_true_eq, decide_eq_false_iff_not, bne_iff_ne, beq_iff_eq, beq_eq_false_iff_ne, bne_eq_false_iff_eq, ne_eq, Int.not_lt, Int.not_le, Int.ofNat_inj, Bool.not_eq_true, Bool.not_eq_false] at hq))) <;> first | (exfalso; omega) | simp -implicitDefEqProofs (disch := first | omega | (simp only [List.length_append, List.length_cons, List.length_nil, List.length_set] <;> omega) | (repeat' (first | assumption | exact Pre.refl _ | refine Pre.push ?_ rfl | refine Pre.app ?_ (by assumption) | refine Pre.set ?_ ?_ rfl | omega | (simp only [List.length_append, List.length_cons, List.length_nil, List.length_set] <;> omega) | fail)) | fail) only [↓reduceIte, go_sem, Nat.sub_zero, List.length_replicate, Nat.reduceLT, Nat.reduceLeDiff, Nat.reduceEqDiff, Nat.reduceAdd, Nat.reduceMul, reduceCtorEq, Int.reduceToNat, Int.reduceLT, Int.reduceLE, Int.reduceAdd, Int.reduceSub, Int.reduceEq, Int.reduceBEq, Int.reduceBNe, Nat.reduceBEq, Nat.reduceBNe, Int.reduceMul, Int.reduceNeg, *, ez, same _ p1, known_is] | skip) | (apply And.intro; omega; try simp -implicitDefEqProofs (disch := first | omega | (simp only [List.length_append, List.length_cons, List.length_nil, List.length_set] <;> omega) | (repeat' (first | assumption | exact Pre.refl _ | refine Pre.push ?_ rfl | refine Pre.app ?_ (by assumption) | refine Pre.set ?_ ?_ rfl | omega | (simp only [List.length_append, List.length_cons, List.length_nil, List.length_set] <;> omega) | fail)) | fail) only [↓reduceIte, go_sem, Nat.sub_zero, List.length_replicate, Nat.reduceLT, Nat.reduceLeDiff, Nat.reduceEqDiff, Nat.reduceAdd, Nat.reduceMul, reduceCtorEq, Int.reduceToNat, Int.reduceLT, Int.reduceLE, Int.reduceAdd, Int.reduceSub, Int.reduceEq, Int.reduceBEq, Int.reduceBNe, Nat.reduceBEq, Nat.reduceBNe, Int.reduceMul, Int.reduceNeg, *, ez, same _ p1, known_is])))
      all_goals first | omega | exact hR _
    · simp -implicitDefEqProofs (disch := first | omega | (simp only [List.length_append, List.length_cons, List.length_nil, List.length_set] <;> omega) | (repeat' (first | assumption | exact Pre.refl _ | refine Pre.push ?_ rfl | refine Pre.app ?_ (by assumption) | refine Pre.set ?_ ?_ rfl | omega | (simp only [List.length_append, List.length_cons, List.length_nil, List.length_set] <;> omega) | fail)) | fail) only [↓reduceIte, go_sem, Nat.sub_zero, List.length_replicate, Nat.reduceLT, Nat.reduceLeDiff, Nat.reduceEqDiff, Nat.reduceAdd, Nat.reduceMul, reduceCtorEq, Int.reduceToNat, Int.reduceLT, Int.reduceLE, Int.reduceAdd, Int.reduceSub, Int.reduceEq, Int.reduceBEq, Int.reduceBNe, Nat.reduceBEq, Nat.reduceBNe, Int.reduceMul, Int.reduceNeg, decide_eq_false hh, ez, same _ p1, known_is, hR]
  · have p1 := pq.pre
    have p0 : Pre H H1 := Pre.trans (by (repeat' (first | assumption | exact Pre.refl _ | refine Pre.push ?_ rfl | refine Pre.app ?_ (by assumption) | refine Pre.set ?_ ?_ rfl | omega | (simp only [List.length_append, List.length_cons, List.length_nil, List.length_set] <;> omega) | fail))) p1
    have hh := hyes.1
    have hgp := hyes.2
    simp -implicitDefEqProofs (disch := first | omega | (simp only [List.length_append, List.length_cons, List.length_nil, List.length_set] <;> omega) | (repeat' (first | assumption | exact Pre.refl _ | refine Pre.push ?_ rfl | refine Pre.app ?_ (by assumption) | refine Pre.set ?_ ?_ rfl | omega | (simp only [List.length_append, List.length_cons, List.length_nil, List.length_set] <;> omega) | fail)) | fail) only [↓reduceIte, go_sem, Nat.sub_zero, List.length_replicate, Nat.reduceLT, Nat.reduceLeDiff, Nat.reduceEqDiff, Nat.reduceAdd, Nat.reduceMul, reduceCtorEq, Int.reduceToNat, Int.reduceLT, Int.reduceLE, Int.reduceAdd, Int.reduceSub, Int.reduceEq, Int.reduceBEq, Int.reduceBNe, Nat.reduceBEq, Nat.reduceBNe, Int.reduceMul, Int.reduceNeg, er _ p0, decide_eq_true hh]
    (repeat' (first | (((first | refine wguard_split (fun hbr => ?_) (fun hbr => ?_) | refine wcond_split (fun hbr => ?_) (fun hbr => ?_) | refine wguard0_split (fun hbr => ?_) (fun hbr => ?_)) <;> (have hq := hbr; (try simp only [Bool.not_eq_true', Bool.not_eq_false', Bool.and_eq_true, Bool.and_eq_false_iff, Bool.or_eq_true, Bool.or_eq_false_iff, decide_eq_true_eq, decide_eq_false_iff_not, bne_iff_ne, beq_iff_eq, beq_eq_false_iff_ne, bne_eq_false_iff_eq, ne_eq, Int.not_lt, Int.not_le, Int.ofNat_inj, Bool.not_eq_true, Bool.not_eq_false] at hq))) <;> first | (exfalso; omega) | simp -implicitDefEqProofs (disch := first | omega | (simp only [List.length_append, List.length_cons, List.length_nil, List.length_set] <;> omega) | (repeat' (first | assumption | exact Pre.refl _ | refine Pre.push ?_ rfl | refine Pre.app ?_ (by assumption) | refine Pre.set ?_ ?_ rfl | omega | (simp only [List.length_append, List.length_cons, List.length_nil, List.length_set] <;> omega) | fail)) | fail) only [↓reduceIte, go_sem, Nat.sub_zero, List.length_replicate, Nat.reduceLT, Nat.reduceLeDiff, Nat.reduceEqDiff, Nat.reduceAdd, Nat.reduceMul, reduceCtorEq, Int.reduceToNat, Int.reduceLT, Int.reduceLE, Int.reduceAdd, Int.reduceSub, Int.reduceEq, Int.reduceBEq, Int.reduceBNe, Nat.reduceBEq, Nat.reduceBNe, Int.reduceMul, Int.reduceNeg, *] | skip) | (apply And.intro; omega; try simp -implicitDefEqProofs (disch := first | omega | (simp only [List.length_append, List.length_cons, List.length_nil, List.length_set] <;> omega) | (repeat' (first | assumption | exact Pre.refl _ | refine Pre.push ?_ rfl | refine Pre.app ?_ (by assumption) | refine Pre.set ?_ ?_ rfl | omega | (simp only [List.length_append, List.length_cons, List.length_nil, List.length_set] <;> omega) | fail)) | fail) only [↓reduceIte, go_sem, Nat.sub_zero, List.length_replicate, Nat.reduceLT, Nat.reduceLeDiff, Nat.reduceEqDiff, Nat.reduceAdd, Nat.reduceMul, reduceCtorEq, Int.reduceToNat, Int.reduceLT, Int.reduceLE, Int.reduceAdd, Int.reduceSub, Int.reduceEq, Int.reduceBEq, Int.reduceBNe, Nat.reduceBEq, Nat.reduceBNe, Int.reduceMul, Int.reduceNeg, *])))
    refine rset_is (t := t) (gl := gl) (pl := pl) (ht.mono p0) (by omega) (by omega) hh fun H2 x1 x2 b5 b6 pq2 => ?_
    have p2 := pq2.pre
    have eq1 := requal_is (hook := kHook) (H := H2) (a := ⟨t.w, t.h, w1, w2⟩) (b := ⟨t.w, t.h, x1, x2⟩) ((pq.ter).mono p2) pq2.ter (by simp; omega) (by simp; omega)
    simp only [Ter.cs, TEq, and_self, decide_true] at eq1
    simp -implicitDefEqProofs (disch := first | omega | (simp only [List.length_append, List.length_cons, List.length_nil, List.length_set] <;> omega) | (repeat' (first | assumption | exact Pre.refl _ | refine Pre.push ?_ rfl | refine Pre.app ?_ (by assumption) | refine Pre.set ?_ ?_ rfl | omega | (simp only [List.length_append, List.length_cons, List.length_nil, List.length_set] <;> omega) | fail)) | fail) only [↓reduceIte, go_sem, Nat.sub_zero, List.length_replicate, Nat.reduceLT, Nat.reduceLeDiff, Nat.reduceEqDiff, Nat.reduceAdd, Nat.reduceMul, reduceCtorEq, Int.reduceToNat, Int.reduceLT, Int.reduceLE, Int.reduceAdd, Int.reduceSub, Int.reduceEq, Int.reduceBEq, Int.reduceBNe, Nat.reduceBEq, Nat.reduceBNe, Int.reduceMul, Int.reduceNeg, eq1, same _ (p1.trans p2), p2]
    have s3 := pq.g.sl
    have s4 := pq.p.sl
    obtain ⟨o3, c3, rfl⟩ := s3.form
    obtain ⟨o4, c4, rfl⟩ := s4.form
    have pr3 := pq.mono p2
    have hl : gl.length = pl.length := by have := hh.1.gn; have := hh.1.pn; omega
    generalize hgl : gl.set (y * t.w + x).toNat g = gl2 at *
    generalize hpl : pl.set (y * t.w + x).toNat p = pl2 at *
    have l1 : gl2.length = pl.length := by rw [← hgl, List.length_set, hl]
    have l2 : pl2.length = pl.length := by rw [← hpl, List.length_set]
    rw [l1] at pr3 ⊢
    rw [l2] at pr3 ⊢
    clear pq pq2 eq1 s3 s4 hgl hpl
    refine wp_for [4, 8, 9, 10, 111, 112, 113, 114, 115, 116] pl.length (fun i r H' => r 12 = .int .i64 (i : Int) ∧ ∃ gl' pl' : List Int, gl'.length = pl.length ∧ pl'.length = pl.length ∧ Pair (H ++ [IObj.cells [] false 0] ++ G1 ++ [IObj.cells [] false 0] ++ G2) H' (.slice o3 pl.length c3) (.slice o4 pl.length c4) gl' pl' b3 b4) ?_ 0 _ (by omega) ?_
    · rintro i r H4 hi hk ⟨e7, gl', pl', m1, m2, pr4⟩
      simp -implicitDefEqProofs (disch := first | omega | (simp only [List.length_append, List.length_cons, List.length_nil, List.length_set] <;> omega) | (repeat' (first | assumption | exact Pre.refl _ | refine Pre.push ?_ rfl | refine Pre.app ?_ (by assumption) | refine Pre.set ?_ ?_ rfl | omega | (simp only [List.length_append, List.length_cons, List.length_nil, List.length_set] <;> omega) | fail)) | fail) only [↓reduceIte, go_sem, Nat.sub_zero, List.length_replicate, Nat.reduceLT, Nat.reduceLeDiff, Nat.reduceEqDiff, Nat.reduceAdd, Nat.reduceMul, reduceCtorEq, Int.reduceToNat, Int.reduceLT, Int.reduceLE, Int.reduceAdd, Int.reduceSub, Int.reduceEq, Int.reduceBEq, Int.reduceBNe, Nat.reduceBEq, Nat.reduceBNe, Int.reduceMul, Int.reduceNeg] at hk
      simp -implicitDefEqProofs (disch := first | omega | (simp only [List.length_append, List.length_cons, List.length_nil, List.length_set] <;> omega) | (repeat' (first | assumption | exact Pre.refl _ | refine Pre.push ?_ rfl | refine Pre.app ?_ (by assumption) | refine Pre.set ?_ ?_ rfl | omega | (simp only [List.length_append, List.length_cons, List.length_nil, List.length_set] <;> omega) | fail)) | fail) only [↓reduceIte, go_sem, Nat.sub_zero, List.length_replicate, Nat.reduceLT, Nat.reduceLeDiff, Nat.reduceEqDiff, Nat.reduceAdd, Nat.reduceMul, reduceCtorEq, Int.reduceToNat, Int.reduceLT, Int.reduceLE, Int.reduceAdd, Int.reduceSub, Int.reduceEq, Int.reduceBEq, Int.reduceBNe, Nat.reduceBEq, Nat.reduceBNe, Int.reduceMul, Int.reduceNeg, *]
      ((first | refine wguard_split (fun hbr => ?_) (fun hbr => ?_) | refine wcond_split (fun hbr => ?_) (fun hbr => ?_) | refine wguard0_split (fun hbr => ?_) (fun hbr => ?_)) <;> (have hq := hbr; (try simp only [Bool.not_eq_true', Bool.not_eq_false', Bool.and_eq_true, Bool.and_eq_false_iff, Bool.or_eq_true, Bool.or_eq_false_iff, decide_eq_true_eq, decide_eq_false_iff_not, bne_iff_ne, beq_iff_eq, beq_eq_false_iff_ne, bne_eq_false_iff_eq, ne_eq, Int.not_lt, Int.not_le, Int.ofNat_inj, Bool.not_eq_true, Bool.not_eq_false] at hq)))
      · (try simp only [Bool.not_eq_true', Bool.not_eq_false', Bool.and_eq_true, Bool.and_eq_false_iff, Bool.or_eq_true, Bool.or_eq_false_iff, decide_eq_true_eq, decide_eq_false_iff_not, bne_iff_ne, beq_iff_eq, beq_eq_false_iff_ne, bne_eq_false_iff_eq, ne_eq, Int.not_lt, Int.not_le, Int.ofNat_inj, Bool.not_eq_true, Bool.not_eq_false] at *)
        obtain ⟨q1, q2, d1, d2, f1, f2, f3, f4, f5, f6, f7, f8, f9, f10, f11⟩ := pr4.put (i := i) (by omega) (by omega) (IntKind.i64.wrap (gl'[i] + 1)) (IntKind.i64.wrap (pl'[i] + 1))
        have hne := pr4.ne
        injection f1 with z1 z2 z3
        injection f2 with y1 y2 y3
        subst z1 y1
        have k1 : i + 1 ≤ q1.length := by omega
        have k2 : i + 1 ≤ q2.length := by omega
        have rr1 := row_wrow f3
        have rr2 := row_wrow f4
        simp -implicitDefEqProofs (disch := first | omega | (simp only [List.length_append, List.length_cons, List.length_nil, List.length_set] <;> omega) | (repeat' (first | assumption | exact Pre.refl _ | refine Pre.push ?_ rfl | refine Pre.app ?_ (by assumption) | refine Pre.set ?_ ?_ rfl | omega | (simp only [List.length_append, List.length_cons, List.length_nil, List.length_set] <;> omega) | fail)) | fail) only [↓reduceIte, go_sem, Nat.sub_zero, List.length_replicate, Nat.reduceLT, Nat.reduceLeDiff, Nat.reduceEqDiff, Nat.reduceAdd, Nat.reduceMul, reduceCtorEq, Int.reduceToNat, Int.reduceLT, Int.reduceLE, Int.reduceAdd, Int.reduceSub, Int.reduceEq, Int.reduceBEq, Int.reduceBNe, Nat.reduceBEq, Nat.reduceBNe, Int.reduceMul, Int.reduceNeg, hk, e7, rr1, rr2, f3, f4, f5, f6, k1, k2, f9, f10, hne, hne.symm, Nat.lt_irrefl, hbr]
        exact ⟨by rw [hl], _, _, by rw [List.length_set]; exact m1, by rw [List.length_set]; exact m2, f11⟩
      · (try simp only [Bool.not_eq_true', Bool.not_eq_false', Bool.and_eq_true, Bool.and_eq_false_iff, Bool.or_eq_true, Bool.or_eq_false_iff, decide_eq_true_eq, decide_eq_false_iff_not, bne_iff_ne, beq_iff_eq, beq_eq_false_iff_ne, bne_eq_false_iff_eq, ne_eq, Int.not_lt, Int.not_le, Int.ofNat_inj, Bool.not_eq_true, Bool.not_eq_false] at *)
        have p4 := pr4.pre
        simp -implicitDefEqProofs (disch := first | omega | (simp only [List.length_append, List.length_cons, List.length_nil, List.length_set] <;> omega) | (repeat' (first | assumption | exact Pre.refl _ | refine Pre.push ?_ rfl | refine Pre.app ?_ (by assumption) | refine Pre.set ?_ ?_ rfl | omega | (simp only [List.length_append, List.length_cons, List.length_nil, List.length_set] <;> omega) | fail)) | fail) only [↓reduceIte, go_sem, Nat.sub_zero, List.length_replicate, Nat.reduceLT, Nat.reduceLeDiff, Nat.reduceEqDiff, Nat.reduceAdd, Nat.reduceMul, reduceCtorEq, Int.reduceToNat, Int.reduceLT, Int.reduceLE, Int.reduceAdd, Int.reduceSub, Int.reduceEq, Int.reduceBEq, Int.reduceBNe, Nat.reduceBEq, Nat.reduceBNe, Int.reduceMul, Int.reduceNeg, hk, e7, hbr, same _ p4, known_is, hR]
    · simp -implicitDefEqProofs (disch := first | omega | (simp only [List.length_append, List.length_cons, List.length_nil, List.length_set] <;> omega) | (repeat' (first | assumption | exact Pre.refl _ | refine Pre.push ?_ rfl | refine Pre.app ?_ (by assumption) | refine Pre.set ?_ ?_ rfl | omega | (simp only [List.length_append, List.length_cons, List.length_nil, List.length_set] <;> omega) | fail)) | fail) only [↓reduceIte, go_sem, Nat.sub_zero, List.length_replicate, Nat.reduceLT, Nat.reduceLeDiff, Nat.reduceEqDiff, Nat.reduceAdd, Nat.reduceMul, reduceCtorEq, Int.reduceToNat, Int.reduceLT, Int.reduceLE, Int.reduceAdd, Int.reduceSub, Int.reduceEq, Int.reduceBEq, Int.reduceBNe, Nat.reduceBEq, Nat.reduceBNe, Int.reduceMul, Int.reduceNeg]
      exact ⟨gl2, pl2, l1, l2, pr3⟩

end Go.Proofs.Ythlhcdldighffaa.Tab
