/- Terrains: what any cell and any index of one are, and the law on it. A lemma for the laws. -/
import Derived.Test.YthlhcdldighffaaTer2
namespace Go.Proofs.Ythlhcdldighffaa.Tab
open Go Go.IM Go.RowKit
set_option maxRecDepth 100000
set_option linter.unusedSimpArgs false
set_option linter.unusedVariables false
set_option maxHeartbeats 4000000

variable {hook : CallFn} {R : IEnd → Heap → Prop} {H : Heap}

theorem idx_bound {t : Ter} {gl pl : List Int} {x y : Int} (h : THas t gl pl x y) : 0 ≤ y * t.w ∧ y * t.w ≤ 4096 ∧ 0 ≤ y * t.w + x ∧ y * t.w + x < gl.length ∧ y * t.w + x < pl.length ∧ t.w ≤ 64 ∧ 1 ≤ t.w := by
  obtain ⟨hv, h1, h2, h3, h4⟩ := h
  have hw := hv.w
  have hh := hv.h
  have hg := hv.gn
  have hp := hv.pn
  have a := Int.mul_le_mul_of_nonneg_right (show y ≤ t.h - 1 by omega) (show 0 ≤ t.w by omega)
  have b : (t.h - 1) * t.w = t.w * t.h - t.w := by rw [Int.sub_mul, Int.one_mul, Int.mul_comm]
  have c := Int.mul_nonneg h3 (show 0 ≤ t.w by omega)
  have d : y * t.w ≤ 63 * 64 := Int.mul_le_mul (by omega) hw.2 (by omega) (by decide)
  omega

theorem big_is {t : Ter} {gl pl : List Int} (ht : TerIn H t gl pl) (hR : ∀ H', Pre H H' → ∀ b, (b = true ↔ 300 < gl.length ∨ 300 < pl.length) → R (.ret (.bool b)) H') :
    WF tab hook 16 [.agg t.cs.toArray] H R := by
  refine WF_def (tab := tab) (F := 16) rfl rfl ?_
  obtain ⟨tw, th, tg, tp⟩ := t
  obtain ⟨sg, sp⟩ := ht
  simp only at sg sp
  obtain ⟨oa0, c0, rfl⟩ := sg.form
  obtain ⟨oa1, c1, rfl⟩ := sp.form
  simp -implicitDefEqProofs (disch := first | omega | (simp only [List.length_append, List.length_cons, List.length_nil, List.length_set] <;> omega) | (repeat' (first | assumption | exact Pre.refl _ | refine Pre.push ?_ rfl | refine Pre.set ?_ ?_ rfl | omega | (simp only [List.length_append, List.length_cons, List.length_nil, List.length_set] <;> omega) | fail)) | fail) only [↓reduceIte, go_sem, Nat.reduceLT, Nat.reduceLeDiff, Nat.reduceEqDiff, Nat.reduceAdd, Nat.reduceMul, reduceCtorEq, Int.reduceToNat, Int.reduceLT, Int.reduceLE, Int.reduceAdd, Int.reduceSub, Int.reduceEq, Int.reduceBEq, Int.reduceBNe, Nat.reduceBEq, Nat.reduceBNe, Int.reduceMul, Int.reduceNeg, Ter.cs]
  repeat' (first | (((first | refine wguard_split (fun hbr => ?_) (fun hbr => ?_) | refine wcond_split (fun hbr => ?_) (fun hbr => ?_) | refine wguard0_split (fun hbr => ?_) (fun hbr => ?_)) <;> (have hq := hbr; (try simp only [Bool.not_eq_true', Bool.not_eq_false', Bool.and_eq_true, Bool.and_eq_false_iff, Bool.or_eq_true, Bool.or_eq_false_iff, decide_eq_true_eq, decide_eq_false_iff_not, bne_iff_ne, beq_iff_eq, beq_eq_false_iff_ne, bne_eq_false_iff_eq, ne_eq, Int.not_lt, Int.not_le, Int.ofNat_inj, Bool.not_eq_true, Bool.not_eq_false] at hq))) <;> simp -implicitDefEqProofs (disch := first | omega | (simp only [List.length_append, List.length_cons, List.length_nil, List.length_set] <;> omega) | (repeat' (first | assumption | exact Pre.refl _ | refine Pre.push ?_ rfl | refine Pre.set ?_ ?_ rfl | omega | (simp only [List.length_append, List.length_cons, List.length_nil, List.length_set] <;> omega) | fail)) | fail) only [↓reduceIte, go_sem, Nat.reduceLT, Nat.reduceLeDiff, Nat.reduceEqDiff, Nat.reduceAdd, Nat.reduceMul, reduceCtorEq, Int.reduceToNat, Int.reduceLT, Int.reduceLE, Int.reduceAdd, Int.reduceSub, Int.reduceEq, Int.reduceBEq, Int.reduceBNe, Nat.reduceBEq, Nat.reduceBNe, Int.reduceMul, Int.reduceNeg, *]) | (apply And.intro; omega; try simp -implicitDefEqProofs (disch := first | omega | (simp only [List.length_append, List.length_cons, List.length_nil, List.length_set] <;> omega) | (repeat' (first | assumption | exact Pre.refl _ | refine Pre.push ?_ rfl | refine Pre.set ?_ ?_ rfl | omega | (simp only [List.length_append, List.length_cons, List.length_nil, List.length_set] <;> omega) | fail)) | fail) only [↓reduceIte, go_sem, Nat.reduceLT, Nat.reduceLeDiff, Nat.reduceEqDiff, Nat.reduceAdd, Nat.reduceMul, reduceCtorEq, Int.reduceToNat, Int.reduceLT, Int.reduceLE, Int.reduceAdd, Int.reduceSub, Int.reduceEq, Int.reduceBEq, Int.reduceBNe, Nat.reduceBEq, Nat.reduceBNe, Int.reduceMul, Int.reduceNeg, *]))
  · exact hR _ (by (repeat' (first | assumption | exact Pre.refl _ | refine Pre.push ?_ rfl | refine Pre.set ?_ ?_ rfl | omega | (simp only [List.length_append, List.length_cons, List.length_nil, List.length_set] <;> omega) | fail))) _ ⟨fun _ => by omega, fun _ => rfl⟩
  · exact hR _ (by (repeat' (first | assumption | exact Pre.refl _ | refine Pre.push ?_ rfl | refine Pre.set ?_ ?_ rfl | omega | (simp only [List.length_append, List.length_cons, List.length_nil, List.length_set] <;> omega) | fail))) _ ⟨fun h => by have := of_decide_eq_true h; omega, fun h => decide_eq_true (by omega)⟩

theorem tindex_is {t : Ter} {gl pl : List Int} {x y : Int} (h : THas t gl pl x y) (hR : ∀ H', Pre H H' → R (.ret (.int .i64 (y * t.w + x))) H') :
    WF tab hook 44 [.agg t.cs.toArray, .agg #[.int .i64 x, .int .i64 y]] H R := by
  refine WF_def (tab := tab) (F := 44) rfl rfl ?_
  have hb := idx_bound h
  have hx := h.2
  simp -implicitDefEqProofs (disch := first | omega | (simp only [List.length_append, List.length_cons, List.length_nil, List.length_set] <;> omega) | (repeat' (first | assumption | exact Pre.refl _ | refine Pre.push ?_ rfl | refine Pre.set ?_ ?_ rfl | omega | (simp only [List.length_append, List.length_cons, List.length_nil, List.length_set] <;> omega) | fail)) | fail) only [↓reduceIte, go_sem, Nat.reduceLT, Nat.reduceLeDiff, Nat.reduceEqDiff, Nat.reduceAdd, Nat.reduceMul, reduceCtorEq, Int.reduceToNat, Int.reduceLT, Int.reduceLE, Int.reduceAdd, Int.reduceSub, Int.reduceEq, Int.reduceBEq, Int.reduceBNe, Nat.reduceBEq, Nat.reduceBNe, Int.reduceMul, Int.reduceNeg, Ter.cs]
  exact hR _ (by (repeat' (first | assumption | exact Pre.refl _ | refine Pre.push ?_ rfl | refine Pre.set ?_ ?_ rfl | omega | (simp only [List.length_append, List.length_cons, List.length_nil, List.length_set] <;> omega) | fail)))

theorem rindex_is {t : Ter} {gl pl : List Int} {x y : Int} (h : THas t gl pl x y) (hR : ∀ H', Pre H H' → R (.ret (.int .i64 (y * t.w + x))) H') :
    WF tab hook 37 [.agg t.cs.toArray, .agg #[.int .i64 x, .int .i64 y]] H R := by
  refine WF_def (tab := tab) (F := 37) rfl rfl ?_
  have hb := idx_bound h
  have hx := h.2
  simp -implicitDefEqProofs (disch := first | omega | (simp only [List.length_append, List.length_cons, List.length_nil, List.length_set] <;> omega) | (repeat' (first | assumption | exact Pre.refl _ | refine Pre.push ?_ rfl | refine Pre.set ?_ ?_ rfl | omega | (simp only [List.length_append, List.length_cons, List.length_nil, List.length_set] <;> omega) | fail)) | fail) only [↓reduceIte, go_sem, Nat.reduceLT, Nat.reduceLeDiff, Nat.reduceEqDiff, Nat.reduceAdd, Nat.reduceMul, reduceCtorEq, Int.reduceToNat, Int.reduceLT, Int.reduceLE, Int.reduceAdd, Int.reduceSub, Int.reduceEq, Int.reduceBEq, Int.reduceBNe, Nat.reduceBEq, Nat.reduceBNe, Int.reduceMul, Int.reduceNeg, Ter.cs]
  exact hR _ (by (repeat' (first | assumption | exact Pre.refl _ | refine Pre.push ?_ rfl | refine Pre.set ?_ ?_ rfl | omega | (simp only [List.length_append, List.length_cons, List.length_nil, List.length_set] <;> omega) | fail)))

/-- The pair of a number and an error: the number where a terrain has the cell. -/
noncomputable def orArg (b : Prop) [Decidable b] (n : Int) : Value := if b then .tuple #[.int .i64 n, .int .i64 0] else .tuple #[.int .i64 0, .int .i64 2]

theorem Index_is {t : Ter} {gl pl : List Int} {x y : Int} (ht : TerIn H t gl pl) (hg : gl.length ≤ 1000000) (hp : pl.length ≤ 1000000) (hR : ∀ H', Pre H H' → R (.ret (orArg (THas t gl pl x y) (y * t.w + x))) H') :
    WF tab hook 33 [.agg t.cs.toArray, .agg #[.int .i64 x, .int .i64 y]] H R := by
  unfold orArg at hR
  refine WF_def (tab := tab) (F := 33) rfl rfl ?_
  simp -implicitDefEqProofs (disch := first | omega | (simp only [List.length_append, List.length_cons, List.length_nil, List.length_set] <;> omega) | (repeat' (first | assumption | exact Pre.refl _ | refine Pre.push ?_ rfl | refine Pre.set ?_ ?_ rfl | omega | (simp only [List.length_append, List.length_cons, List.length_nil, List.length_set] <;> omega) | fail)) | fail) only [↓reduceIte, go_sem, Nat.reduceLT, Nat.reduceLeDiff, Nat.reduceEqDiff, Nat.reduceAdd, Nat.reduceMul, reduceCtorEq, Int.reduceToNat, Int.reduceLT, Int.reduceLE, Int.reduceAdd, Int.reduceSub, Int.reduceEq, Int.reduceBEq, Int.reduceBNe, Nat.reduceBEq, Nat.reduceBNe, Int.reduceMul, Int.reduceNeg, Ter.cs]
  refine has_is (t := t) (ht.mono (by (repeat' (first | assumption | exact Pre.refl _ | refine Pre.push ?_ rfl | refine Pre.set ?_ ?_ rfl | omega | (simp only [List.length_append, List.length_cons, List.length_nil, List.length_set] <;> omega) | fail)))) hg hp fun H1 p1 => ?_
  have q1 : Pre H H1 := (((Pre.refl H).push rfl).push rfl).trans p1
  have r1 : H1.row H.length = some [.int .i64 t.w, .int .i64 t.h, t.g, t.p] := row_pfx' p1 (by rw [row_push (by simp), row_new])
  have r2 : H1.row (H ++ [IObj.cells [.int .i64 t.w, .int .i64 t.h, t.g, t.p] false 0]).length = some [.int .i64 x, .int .i64 y] := row_pfx' p1 row_new
  by_cases hh : THas t gl pl x y
  · rw [if_pos hh] at hR
    simp -implicitDefEqProofs (disch := first | omega | (simp only [List.length_append, List.length_cons, List.length_nil, List.length_set] <;> omega) | (repeat' (first | assumption | exact Pre.refl _ | refine Pre.push ?_ rfl | refine Pre.set ?_ ?_ rfl | omega | (simp only [List.length_append, List.length_cons, List.length_nil, List.length_set] <;> omega) | fail)) | fail) only [↓reduceIte, go_sem, Nat.reduceLT, Nat.reduceLeDiff, Nat.reduceEqDiff, Nat.reduceAdd, Nat.reduceMul, reduceCtorEq, Int.reduceToNat, Int.reduceLT, Int.reduceLE, Int.reduceAdd, Int.reduceSub, Int.reduceEq, Int.reduceBEq, Int.reduceBNe, Nat.reduceBEq, Nat.reduceBNe, Int.reduceMul, Int.reduceNeg, *]
    refine tindex_is hh fun H2 p2 => ?_
    simp -implicitDefEqProofs (disch := first | omega | (simp only [List.length_append, List.length_cons, List.length_nil, List.length_set] <;> omega) | (repeat' (first | assumption | exact Pre.refl _ | refine Pre.push ?_ rfl | refine Pre.set ?_ ?_ rfl | omega | (simp only [List.length_append, List.length_cons, List.length_nil, List.length_set] <;> omega) | fail)) | fail) only [↓reduceIte, go_sem, Nat.reduceLT, Nat.reduceLeDiff, Nat.reduceEqDiff, Nat.reduceAdd, Nat.reduceMul, reduceCtorEq, Int.reduceToNat, Int.reduceLT, Int.reduceLE, Int.reduceAdd, Int.reduceSub, Int.reduceEq, Int.reduceBEq, Int.reduceBNe, Nat.reduceBEq, Nat.reduceBNe, Int.reduceMul, Int.reduceNeg, *]
    exact hR _ (q1.trans p2)
  · rw [if_neg hh] at hR
    simp -implicitDefEqProofs (disch := first | omega | (simp only [List.length_append, List.length_cons, List.length_nil, List.length_set] <;> omega) | (repeat' (first | assumption | exact Pre.refl _ | refine Pre.push ?_ rfl | refine Pre.set ?_ ?_ rfl | omega | (simp only [List.length_append, List.length_cons, List.length_nil, List.length_set] <;> omega) | fail)) | fail) only [↓reduceIte, go_sem, Nat.reduceLT, Nat.reduceLeDiff, Nat.reduceEqDiff, Nat.reduceAdd, Nat.reduceMul, reduceCtorEq, Int.reduceToNat, Int.reduceLT, Int.reduceLE, Int.reduceAdd, Int.reduceSub, Int.reduceEq, Int.reduceBEq, Int.reduceBNe, Nat.reduceBEq, Nat.reduceBNe, Int.reduceMul, Int.reduceNeg, *]
    all_goals exact hR _ q1

theorem ground_is {t : Ter} {gl pl : List Int} {x y : Int} (ht : TerIn H t gl pl) (hg : gl.length ≤ 1000000) (hp : pl.length ≤ 1000000) (hR : ∀ H', Pre H H' → R (.ret (orArg (THas t gl pl x y) (gl.getD (y * t.w + x).toNat 0))) H') :
    WF tab hook 34 [.agg t.cs.toArray, .agg #[.int .i64 x, .int .i64 y]] H R := by
  unfold orArg at hR
  refine WF_def (tab := tab) (F := 34) rfl rfl ?_
  simp -implicitDefEqProofs (disch := first | omega | (simp only [List.length_append, List.length_cons, List.length_nil, List.length_set] <;> omega) | (repeat' (first | assumption | exact Pre.refl _ | refine Pre.push ?_ rfl | refine Pre.set ?_ ?_ rfl | omega | (simp only [List.length_append, List.length_cons, List.length_nil, List.length_set] <;> omega) | fail)) | fail) only [↓reduceIte, go_sem, Nat.reduceLT, Nat.reduceLeDiff, Nat.reduceEqDiff, Nat.reduceAdd, Nat.reduceMul, reduceCtorEq, Int.reduceToNat, Int.reduceLT, Int.reduceLE, Int.reduceAdd, Int.reduceSub, Int.reduceEq, Int.reduceBEq, Int.reduceBNe, Nat.reduceBEq, Nat.reduceBNe, Int.reduceMul, Int.reduceNeg, Ter.cs]
  refine has_is (t := t) (ht.mono (by (repeat' (first | assumption | exact Pre.refl _ | refine Pre.push ?_ rfl | refine Pre.set ?_ ?_ rfl | omega | (simp only [List.length_append, List.length_cons, List.length_nil, List.length_set] <;> omega) | fail)))) hg hp fun H1 p1 => ?_
  have q1 : Pre H H1 := (((Pre.refl H).push rfl).push rfl).trans p1
  have r1 : H1.row H.length = some [.int .i64 t.w, .int .i64 t.h, t.g, t.p] := row_pfx' p1 (by rw [row_push (by simp), row_new])
  have r2 : H1.row (H ++ [IObj.cells [.int .i64 t.w, .int .i64 t.h, t.g, t.p] false 0]).length = some [.int .i64 x, .int .i64 y] := row_pfx' p1 row_new
  by_cases hh : THas t gl pl x y
  · rw [if_pos hh] at hR
    have hb := idx_bound hh
    obtain ⟨k, hk⟩ := Int.eq_ofNat_of_zero_le hb.2.2.1
    have k1 : k < gl.length := by omega
    have ek : gl.getD (y * t.w + x).toNat 0 = gl[k] := by rw [hk]; simp [k1]
    rw [ek] at hR
    simp -implicitDefEqProofs (disch := first | omega | (simp only [List.length_append, List.length_cons, List.length_nil, List.length_set] <;> omega) | (repeat' (first | assumption | exact Pre.refl _ | refine Pre.push ?_ rfl | refine Pre.set ?_ ?_ rfl | omega | (simp only [List.length_append, List.length_cons, List.length_nil, List.length_set] <;> omega) | fail)) | fail) only [↓reduceIte, go_sem, Nat.reduceLT, Nat.reduceLeDiff, Nat.reduceEqDiff, Nat.reduceAdd, Nat.reduceMul, reduceCtorEq, Int.reduceToNat, Int.reduceLT, Int.reduceLE, Int.reduceAdd, Int.reduceSub, Int.reduceEq, Int.reduceBEq, Int.reduceBNe, Nat.reduceBEq, Nat.reduceBNe, Int.reduceMul, Int.reduceNeg, *]
    refine tindex_is hh fun H2 p2 => ?_
    obtain ⟨b1, o1, c1, row1, e1, h1⟩ := ht.g.into (by omega)
    have s1 := row_pfx' (q1.trans p2) h1.hrow
    have f1 := h1.int
    simp -implicitDefEqProofs (disch := first | omega | (simp only [List.length_append, List.length_cons, List.length_nil, List.length_set] <;> omega) | (repeat' (first | assumption | exact Pre.refl _ | refine Pre.push ?_ rfl | refine Pre.set ?_ ?_ rfl | omega | (simp only [List.length_append, List.length_cons, List.length_nil, List.length_set] <;> omega) | fail)) | fail) only [↓reduceIte, go_sem, Nat.reduceLT, Nat.reduceLeDiff, Nat.reduceEqDiff, Nat.reduceAdd, Nat.reduceMul, reduceCtorEq, Int.reduceToNat, Int.reduceLT, Int.reduceLE, Int.reduceAdd, Int.reduceSub, Int.reduceEq, Int.reduceBEq, Int.reduceBNe, Nat.reduceBEq, Nat.reduceBNe, Int.reduceMul, Int.reduceNeg, *]
    all_goals exact hR _ (q1.trans p2)
  · rw [if_neg hh] at hR
    simp -implicitDefEqProofs (disch := first | omega | (simp only [List.length_append, List.length_cons, List.length_nil, List.length_set] <;> omega) | (repeat' (first | assumption | exact Pre.refl _ | refine Pre.push ?_ rfl | refine Pre.set ?_ ?_ rfl | omega | (simp only [List.length_append, List.length_cons, List.length_nil, List.length_set] <;> omega) | fail)) | fail) only [↓reduceIte, go_sem, Nat.reduceLT, Nat.reduceLeDiff, Nat.reduceEqDiff, Nat.reduceAdd, Nat.reduceMul, reduceCtorEq, Int.reduceToNat, Int.reduceLT, Int.reduceLE, Int.reduceAdd, Int.reduceSub, Int.reduceEq, Int.reduceBEq, Int.reduceBNe, Nat.reduceBEq, Nat.reduceBNe, Int.reduceMul, Int.reduceNeg, *]
    all_goals exact hR _ q1

theorem people_is {t : Ter} {gl pl : List Int} {x y : Int} (ht : TerIn H t gl pl) (hg : gl.length ≤ 1000000) (hp : pl.length ≤ 1000000) (hR : ∀ H', Pre H H' → R (.ret (orArg (THas t gl pl x y) (pl.getD (y * t.w + x).toNat 0))) H') :
    WF tab hook 35 [.agg t.cs.toArray, .agg #[.int .i64 x, .int .i64 y]] H R := by
  unfold orArg at hR
  refine WF_def (tab := tab) (F := 35) rfl rfl ?_
  simp -implicitDefEqProofs (disch := first | omega | (simp only [List.length_append, List.length_cons, List.length_nil, List.length_set] <;> omega) | (repeat' (first | assumption | exact Pre.refl _ | refine Pre.push ?_ rfl | refine Pre.set ?_ ?_ rfl | omega | (simp only [List.length_append, List.length_cons, List.length_nil, List.length_set] <;> omega) | fail)) | fail) only [↓reduceIte, go_sem, Nat.reduceLT, Nat.reduceLeDiff, Nat.reduceEqDiff, Nat.reduceAdd, Nat.reduceMul, reduceCtorEq, Int.reduceToNat, Int.reduceLT, Int.reduceLE, Int.reduceAdd, Int.reduceSub, Int.reduceEq, Int.reduceBEq, Int.reduceBNe, Nat.reduceBEq, Nat.reduceBNe, Int.reduceMul, Int.reduceNeg, Ter.cs]
  refine has_is (t := t) (ht.mono (by (repeat' (first | assumption | exact Pre.refl _ | refine Pre.push ?_ rfl | refine Pre.set ?_ ?_ rfl | omega | (simp only [List.length_append, List.length_cons, List.length_nil, List.length_set] <;> omega) | fail)))) hg hp fun H1 p1 => ?_
  have q1 : Pre H H1 := (((Pre.refl H).push rfl).push rfl).trans p1
  have r1 : H1.row H.length = some [.int .i64 t.w, .int .i64 t.h, t.g, t.p] := row_pfx' p1 (by rw [row_push (by simp), row_new])
  have r2 : H1.row (H ++ [IObj.cells [.int .i64 t.w, .int .i64 t.h, t.g, t.p] false 0]).length = some [.int .i64 x, .int .i64 y] := row_pfx' p1 row_new
  by_cases hh : THas t gl pl x y
  · rw [if_pos hh] at hR
    have hb := idx_bound hh
    obtain ⟨k, hk⟩ := Int.eq_ofNat_of_zero_le hb.2.2.1
    have k1 : k < pl.length := by omega
    have ek : pl.getD (y * t.w + x).toNat 0 = pl[k] := by rw [hk]; simp [k1]
    rw [ek] at hR
    simp -implicitDefEqProofs (disch := first | omega | (simp only [List.length_append, List.length_cons, List.length_nil, List.length_set] <;> omega) | (repeat' (first | assumption | exact Pre.refl _ | refine Pre.push ?_ rfl | refine Pre.set ?_ ?_ rfl | omega | (simp only [List.length_append, List.length_cons, List.length_nil, List.length_set] <;> omega) | fail)) | fail) only [↓reduceIte, go_sem, Nat.reduceLT, Nat.reduceLeDiff, Nat.reduceEqDiff, Nat.reduceAdd, Nat.reduceMul, reduceCtorEq, Int.reduceToNat, Int.reduceLT, Int.reduceLE, Int.reduceAdd, Int.reduceSub, Int.reduceEq, Int.reduceBEq, Int.reduceBNe, Nat.reduceBEq, Nat.reduceBNe, Int.reduceMul, Int.reduceNeg, *]
    refine tindex_is hh fun H2 p2 => ?_
    obtain ⟨b1, o1, c1, row1, e1, h1⟩ := ht.p.into (by omega)
    have s1 := row_pfx' (q1.trans p2) h1.hrow
    have f1 := h1.int
    simp -implicitDefEqProofs (disch := first | omega | (simp only [List.length_append, List.length_cons, List.length_nil, List.length_set] <;> omega) | (repeat' (first | assumption | exact Pre.refl _ | refine Pre.push ?_ rfl | refine Pre.set ?_ ?_ rfl | omega | (simp only [List.length_append, List.length_cons, List.length_nil, List.length_set] <;> omega) | fail)) | fail) only [↓reduceIte, go_sem, Nat.reduceLT, Nat.reduceLeDiff, Nat.reduceEqDiff, Nat.reduceAdd, Nat.reduceMul, reduceCtorEq, Int.reduceToNat, Int.reduceLT, Int.reduceLE, Int.reduceAdd, Int.reduceSub, Int.reduceEq, Int.reduceBEq, Int.reduceBNe, Nat.reduceBEq, Nat.reduceBNe, Int.reduceMul, Int.reduceNeg, *]
    all_goals exact hR _ (q1.trans p2)
  · rw [if_neg hh] at hR
    simp -implicitDefEqProofs (disch := first | omega | (simp only [List.length_append, List.length_cons, List.length_nil, List.length_set] <;> omega) | (repeat' (first | assumption | exact Pre.refl _ | refine Pre.push ?_ rfl | refine Pre.set ?_ ?_ rfl | omega | (simp only [List.length_append, List.length_cons, List.length_nil, List.length_set] <;> omega) | fail)) | fail) only [↓reduceIte, go_sem, Nat.reduceLT, Nat.reduceLeDiff, Nat.reduceEqDiff, Nat.reduceAdd, Nat.reduceMul, reduceCtorEq, Int.reduceToNat, Int.reduceLT, Int.reduceLE, Int.reduceAdd, Int.reduceSub, Int.reduceEq, Int.reduceBEq, Int.reduceBNe, Nat.reduceBEq, Nat.reduceBNe, Int.reduceMul, Int.reduceNeg, *]
    all_goals exact hR _ q1


/-- The cell with an index. -/
def atX (t : Ter) (i : Int) : Int := i % t.w
def atY (t : Ter) (i : Int) : Int := i / t.w

theorem rat_is {t : Ter} {i : Int} (hw : 1 ≤ t.w ∧ t.w ≤ 64) (hi : 0 ≤ i ∧ i ≤ 1000000) (hR : ∀ H', Pre H H' → R (.ret (.agg #[.int .i64 (atX t i), .int .i64 (atY t i)])) H') :
    WF tab hook 38 [.agg t.cs.toArray, .int .i64 i] H R := by
  refine WF_def (tab := tab) (F := 38) rfl rfl ?_
  have h1 : i.tmod t.w = i % t.w := Int.tmod_eq_emod_of_nonneg hi.1
  have h2 : i.tdiv t.w = i / t.w := Int.tdiv_eq_ediv_of_nonneg hi.1
  have h3 : ¬ t.w = 0 := by omega
  have h4 : 0 ≤ i / t.w ∧ i / t.w ≤ i := ⟨Int.ediv_nonneg hi.1 (by omega), Int.ediv_le_self _ hi.1⟩
  unfold atX atY at hR
  simp -implicitDefEqProofs (disch := first | omega | (simp only [List.length_append, List.length_cons, List.length_nil, List.length_set] <;> omega) | (repeat' (first | assumption | exact Pre.refl _ | refine Pre.push ?_ rfl | refine Pre.set ?_ ?_ rfl | omega | (simp only [List.length_append, List.length_cons, List.length_nil, List.length_set] <;> omega) | fail)) | fail) only [↓reduceIte, go_sem, Nat.reduceLT, Nat.reduceLeDiff, Nat.reduceEqDiff, Nat.reduceAdd, Nat.reduceMul, reduceCtorEq, Int.reduceToNat, Int.reduceLT, Int.reduceLE, Int.reduceAdd, Int.reduceSub, Int.reduceEq, Int.reduceBEq, Int.reduceBNe, Nat.reduceBEq, Nat.reduceBNe, Int.reduceMul, Int.reduceNeg, Ter.cs, *]
  all_goals exact hR _ (by (repeat' (first | assumption | exact Pre.refl _ | refine Pre.push ?_ rfl | refine Pre.set ?_ ?_ rfl | omega | (simp only [List.length_append, List.length_cons, List.length_nil, List.length_set] <;> omega) | fail)))

theorem at_is {t : Ter} {gl pl : List Int} {i : Int} (ht : TerIn H t gl pl) (hg : gl.length ≤ 1000000) (hp : pl.length ≤ 1000000)
    (hy : TValid t gl pl → 0 ≤ i → i < gl.length → ∀ H', Pre H H' → R (.ret (.tuple #[.agg #[.int .i64 (atX t i), .int .i64 (atY t i)], .int .i64 0])) H')
    (hno : ¬ (TValid t gl pl ∧ 0 ≤ i ∧ i < gl.length) → ∀ H', Pre H H' → R (.ret (.tuple #[.agg #[.int .i64 0, .int .i64 0], .int .i64 2])) H') :
    WF tab hook 36 [.agg t.cs.toArray, .int .i64 i] H R := by
  refine WF_def (tab := tab) (F := 36) rfl rfl ?_
  simp -implicitDefEqProofs (disch := first | omega | (simp only [List.length_append, List.length_cons, List.length_nil, List.length_set] <;> omega) | (repeat' (first | assumption | exact Pre.refl _ | refine Pre.push ?_ rfl | refine Pre.set ?_ ?_ rfl | omega | (simp only [List.length_append, List.length_cons, List.length_nil, List.length_set] <;> omega) | fail)) | fail) only [↓reduceIte, go_sem, Nat.reduceLT, Nat.reduceLeDiff, Nat.reduceEqDiff, Nat.reduceAdd, Nat.reduceMul, reduceCtorEq, Int.reduceToNat, Int.reduceLT, Int.reduceLE, Int.reduceAdd, Int.reduceSub, Int.reduceEq, Int.reduceBEq, Int.reduceBNe, Nat.reduceBEq, Nat.reduceBNe, Int.reduceMul, Int.reduceNeg, Ter.cs]
  refine tvalid_is (t := t) (ht.mono (by (repeat' (first | assumption | exact Pre.refl _ | refine Pre.push ?_ rfl | refine Pre.set ?_ ?_ rfl | omega | (simp only [List.length_append, List.length_cons, List.length_nil, List.length_set] <;> omega) | fail)))) hg hp fun H1 p1 => ?_
  have q1 : Pre H H1 := (((Pre.refl H).push rfl).push rfl).trans p1
  have lp1 := p1.len; (try simp only [List.length_append, List.length_cons, List.length_nil, List.length_set] at lp1)
  have r2 : H1.row H.length = some [.int .i64 t.w, .int .i64 t.h, t.g, t.p] := row_pfx' p1 (by rw [row_push (by simp), row_new])
  have w4 : H1.wrow (H.length + 1) = some ([.int .i64 0, .int .i64 0], 0) := wrow_pfx' p1 (by rw [show H.length + 1 = (H ++ [IObj.cells [.int .i64 t.w, .int .i64 t.h, t.g, t.p] false 0]).length by simp]; exact wrow_new)
  have e4 : ∀ o : IObj, (H ++ [o]).length = H.length + 1 := fun o => by simp
  have r4 := row_wrow w4
  have lt4 := wrow_lt w4
  by_cases hv : TValid t gl pl
  · have hw := hv.w
    obtain ⟨oa0, c0, e0⟩ := ht.g.form
    have hpos : 1 ≤ gl.length := by
      have := hv.gn
      have := Int.mul_le_mul hw.1 hv.h.1 (by decide) (by omega)
      omega
    simp -implicitDefEqProofs (disch := first | omega | (simp only [List.length_append, List.length_cons, List.length_nil, List.length_set] <;> omega) | (repeat' (first | assumption | exact Pre.refl _ | refine Pre.push ?_ rfl | refine Pre.set ?_ ?_ rfl | omega | (simp only [List.length_append, List.length_cons, List.length_nil, List.length_set] <;> omega) | fail)) | fail) only [↓reduceIte, go_sem, Nat.reduceLT, Nat.reduceLeDiff, Nat.reduceEqDiff, Nat.reduceAdd, Nat.reduceMul, reduceCtorEq, Int.reduceToNat, Int.reduceLT, Int.reduceLE, Int.reduceAdd, Int.reduceSub, Int.reduceEq, Int.reduceBEq, Int.reduceBNe, Nat.reduceBEq, Nat.reduceBNe, Int.reduceMul, Int.reduceNeg, *, within_is]
    ((first | refine wguard_split (fun hbr => ?_) (fun hbr => ?_) | refine wcond_split (fun hbr => ?_) (fun hbr => ?_) | refine wguard0_split (fun hbr => ?_) (fun hbr => ?_)) <;> (have hq := hbr; (try simp only [Bool.not_eq_true', Bool.not_eq_false', Bool.and_eq_true, Bool.and_eq_false_iff, Bool.or_eq_true, Bool.or_eq_false_iff, decide_eq_true_eq, decide_eq_false_iff_not, bne_iff_ne, beq_iff_eq, beq_eq_false_iff_ne, bne_eq_false_iff_eq, ne_eq, Int.not_lt, Int.not_le, Int.ofNat_inj, Bool.not_eq_true, Bool.not_eq_false] at hq)))
    · simp -implicitDefEqProofs (disch := first | omega | (simp only [List.length_append, List.length_cons, List.length_nil, List.length_set] <;> omega) | (repeat' (first | assumption | exact Pre.refl _ | refine Pre.push ?_ rfl | refine Pre.set ?_ ?_ rfl | omega | (simp only [List.length_append, List.length_cons, List.length_nil, List.length_set] <;> omega) | fail)) | fail) only [↓reduceIte, go_sem, Nat.reduceLT, Nat.reduceLeDiff, Nat.reduceEqDiff, Nat.reduceAdd, Nat.reduceMul, reduceCtorEq, Int.reduceToNat, Int.reduceLT, Int.reduceLE, Int.reduceAdd, Int.reduceSub, Int.reduceEq, Int.reduceBEq, Int.reduceBNe, Nat.reduceBEq, Nat.reduceBNe, Int.reduceMul, Int.reduceNeg, *]
      all_goals exact hno (fun h => by have := h.2; omega) _ (by (repeat' (first | assumption | exact Pre.refl _ | refine Pre.push ?_ rfl | refine Pre.set ?_ ?_ rfl | omega | (simp only [List.length_append, List.length_cons, List.length_nil, List.length_set] <;> omega) | fail)))
    · have hi : 0 ≤ i ∧ i < gl.length := by omega
      have h1 : i.tmod t.w = i % t.w := Int.tmod_eq_emod_of_nonneg hi.1
      have h2 : i.tdiv t.w = i / t.w := Int.tdiv_eq_ediv_of_nonneg hi.1
      have h3 : ¬ t.w = 0 := by omega
      have h4 : 0 ≤ i / t.w ∧ i / t.w ≤ i := ⟨Int.ediv_nonneg hi.1 (by omega), Int.ediv_le_self _ hi.1⟩
      have := hy hv hi.1 hi.2
      unfold atX atY at this
      simp -implicitDefEqProofs (disch := first | omega | (simp only [List.length_append, List.length_cons, List.length_nil, List.length_set] <;> omega) | (repeat' (first | assumption | exact Pre.refl _ | refine Pre.push ?_ rfl | refine Pre.set ?_ ?_ rfl | omega | (simp only [List.length_append, List.length_cons, List.length_nil, List.length_set] <;> omega) | fail)) | fail) only [↓reduceIte, go_sem, Nat.reduceLT, Nat.reduceLeDiff, Nat.reduceEqDiff, Nat.reduceAdd, Nat.reduceMul, reduceCtorEq, Int.reduceToNat, Int.reduceLT, Int.reduceLE, Int.reduceAdd, Int.reduceSub, Int.reduceEq, Int.reduceBEq, Int.reduceBNe, Nat.reduceBEq, Nat.reduceBNe, Int.reduceMul, Int.reduceNeg, *]
      all_goals exact this _ (by (repeat' (first | assumption | exact Pre.refl _ | refine Pre.push ?_ rfl | refine Pre.set ?_ ?_ rfl | omega | (simp only [List.length_append, List.length_cons, List.length_nil, List.length_set] <;> omega) | fail)))
  · simp -implicitDefEqProofs (disch := first | omega | (simp only [List.length_append, List.length_cons, List.length_nil, List.length_set] <;> omega) | (repeat' (first | assumption | exact Pre.refl _ | refine Pre.push ?_ rfl | refine Pre.set ?_ ?_ rfl | omega | (simp only [List.length_append, List.length_cons, List.length_nil, List.length_set] <;> omega) | fail)) | fail) only [↓reduceIte, go_sem, Nat.reduceLT, Nat.reduceLeDiff, Nat.reduceEqDiff, Nat.reduceAdd, Nat.reduceMul, reduceCtorEq, Int.reduceToNat, Int.reduceLT, Int.reduceLE, Int.reduceAdd, Int.reduceSub, Int.reduceEq, Int.reduceBEq, Int.reduceBNe, Nat.reduceBEq, Nat.reduceBNe, Int.reduceMul, Int.reduceNeg, *]
    all_goals exact hno (fun h => hv h.1) _ (by (repeat' (first | assumption | exact Pre.refl _ | refine Pre.push ?_ rfl | refine Pre.set ?_ ?_ rfl | omega | (simp only [List.length_append, List.length_cons, List.length_nil, List.length_set] <;> omega) | fail)))

end Go.Proofs.Ythlhcdldighffaa.Tab
