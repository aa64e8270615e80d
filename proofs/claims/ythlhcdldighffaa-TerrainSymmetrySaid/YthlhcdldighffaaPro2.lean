/- Rectangles: the program's and the reference's. A lemma for the law. -/
import Derived.Test.YthlhcdldighffaaPro1
namespace Go.Proofs.Ythlhcdldighffaa.Tab
open Go Go.IM Go.RowKit
set_option maxRecDepth 100000
set_option linter.unusedSimpArgs false
set_option linter.unusedVariables false
set_option maxHeartbeats 4000000

variable {hook : CallFn} {R : IEnd → Heap → Prop} {H : Heap}

/-- Rising lists with the same elements are equal. -/
theorem rising_ext : ∀ {l r : List Int}, l.Pairwise (· < ·) → r.Pairwise (· < ·) → (∀ x, x ∈ l ↔ x ∈ r) → l = r
  | [], [], _, _, _ => rfl
  | [], b :: r, _, _, h => by have := (h b).2 (by simp); cases this
  | a :: l, [], _, _, h => by have := (h a).1 (by simp); cases this
  | a :: l, b :: r, hl, hr, h => by
    rw [List.pairwise_cons] at hl hr
    have e : a = b := by
      rcases List.mem_cons.1 ((h a).1 (by simp)) with h1 | h1
      · exact h1
      · rcases List.mem_cons.1 ((h b).2 (by simp)) with h2 | h2
        · exact h2.symm
        · have := hl.1 b h2; have := hr.1 a h1; omega
    subst e
    congr 1
    refine rising_ext hl.2 hr.2 fun x => ?_
    constructor
    · intro hx
      rcases List.mem_cons.1 ((h x).1 (by simp [hx])) with h1 | h1
      · subst h1; have := hl.1 x hx; omega
      · exact h1
    · intro hx
      rcases List.mem_cons.1 ((h x).2 (by simp [hx])) with h1 | h1
      · subst h1; have := hr.1 x hx; omega
      · exact h1

theorem rising_snoc {l : List Int} {x : Int} (h : l.Pairwise (· < ·)) (hx : ∀ y ∈ l, y < x) : (l ++ [x]).Pairwise (· < ·) := by
  rw [List.pairwise_append]
  exact ⟨h, by simp, fun a ha b hb => by simp at hb; subst hb; exact hx a ha⟩

/-- The number of a cell of the rectangle. -/
def InRect (w ax ay bx byy i : Int) : Prop := ∃ x y, Btw x ax bx ∧ Btw y ay byy ∧ i = y * w + x

structure RectL (w ax ay bx byy : Int) (l : List Int) : Prop where
  up : l.Pairwise (· < ·)
  mem : ∀ i, i ∈ l ↔ InRect w ax ay bx byy i

theorem RectL.eq {w ax ay bx byy : Int} {l r : List Int} (h : RectL w ax ay bx byy l) (k : RectL w ax ay bx byy r) : l = r :=
  rising_ext h.up k.up fun x => (h.mem x).trans (k.mem x).symm

theorem rat_is {t : Ter} {i : Int} (hw : 1 ≤ t.w ∧ t.w ≤ 64) (hi : 0 ≤ i ∧ i ≤ 1000000) (R : IEnd → Heap → Prop) :
    WF tab hook 38 [.agg t.cs.toArray, .int .i64 i] H R = R (.ret (.agg #[.int .i64 (i % t.w), .int .i64 (i / t.w)])) H := by
  refine WF_eq (WF_def (tab := tab) (F := 38) rfl rfl ?_) R
  have h1 : i.tmod t.w = i % t.w := Int.tmod_eq_emod_of_nonneg hi.1
  have h2 : i.tdiv t.w = i / t.w := Int.tdiv_eq_ediv_of_nonneg hi.1
  have h3 : ¬ t.w = 0 := by omega
  have h4 : 0 ≤ i / t.w ∧ i / t.w ≤ i := ⟨Int.ediv_nonneg hi.1 (by omega), Int.ediv_le_self _ hi.1⟩
  simp -implicitDefEqProofs (disch := first | omega | (simp only [List.length_append, List.length_cons, List.length_nil, List.length_set] <;> omega) | (repeat' (first | assumption | exact Pre.refl _ | refine Pre.push ?_ rfl | refine Pre.app ?_ (by assumption) | refine Pre.set ?_ ?_ rfl | omega | (simp only [List.length_append, List.length_cons, List.length_nil, List.length_set] <;> omega) | fail)) | fail) only [↓reduceIte, go_sem, Nat.sub_zero, List.length_replicate, Nat.reduceLT, Nat.reduceLeDiff, Nat.reduceEqDiff, Nat.reduceAdd, Nat.reduceMul, reduceCtorEq, Int.reduceToNat, Int.reduceLT, Int.reduceLE, Int.reduceAdd, Int.reduceSub, Int.reduceEq, Int.reduceBEq, Int.reduceBNe, Nat.reduceBEq, Nat.reduceBNe, Int.reduceMul, Int.reduceNeg, Ter.cs, *]

theorem div_at {w x y : Int} (hx : 0 ≤ x ∧ x < w) : (y * w + x) % w = x ∧ (y * w + x) / w = y := by
  have hw : w ≠ 0 := by omega
  constructor
  · rw [Int.add_comm, Int.add_mul_emod_self_right, Int.emod_eq_of_lt hx.1 hx.2]
  · rw [Int.add_comm, Int.add_mul_ediv_right _ _ hw, Int.ediv_eq_zero_of_lt hx.1 hx.2, Int.zero_add]

theorem inrect_iff {w h ax ay bx byy i : Int} (ha : 0 ≤ ax ∧ ax < w) (hb : 0 ≤ bx ∧ bx < w) (hay : 0 ≤ ay ∧ ay < h) (hby : 0 ≤ byy ∧ byy < h) :
    InRect w ax ay bx byy i ↔ (0 ≤ i ∧ i < w * h) ∧ Btw (i % w) ax bx ∧ Btw (i / w) ay byy := by
  constructor
  · rintro ⟨x, y, hx, hy, rfl⟩
    have hx' : 0 ≤ x ∧ x < w := by unfold Btw at hx; omega
    have hy' : 0 ≤ y ∧ y < h := by unfold Btw at hy; omega
    obtain ⟨e1, e2⟩ := div_at (y := y) hx'
    rw [e1, e2]
    have a := Int.mul_nonneg hy'.1 (show 0 ≤ w by omega)
    have b := Int.mul_le_mul_of_nonneg_right (show y ≤ h - 1 by omega) (show 0 ≤ w by omega)
    have c : (h - 1) * w = w * h - w := by rw [Int.sub_mul, Int.one_mul, Int.mul_comm]
    exact ⟨by omega, hx, hy⟩
  · rintro ⟨_, h1, h2⟩
    exact ⟨i % w, i / w, h1, h2, by rw [Int.mul_comm]; exact (Int.mul_ediv_add_emod i w).symm⟩

theorem rrect_is {t : Ter} {gl pl : List Int} {ax ay bx byy : Int} (hv : THas t gl pl ax ay) (hv2 : THas t gl pl bx byy)
    (hR : ∀ H' v l, Pre H H' → Sl (Lay.int .i64) H' v l → l.length ≤ 4096 → RectL t.w ax ay bx byy l → R (.ret v) H') :
    WF tab hook 27 [.agg t.cs.toArray, .agg #[.int .i64 ax, .int .i64 ay], .agg #[.int .i64 bx, .int .i64 byy]] H R := by
  refine WF_def (tab := tab) (F := 27) rfl rfl ?_
  obtain ⟨n, hn, n1, n2⟩ := area hv.1.w hv.1.h
  have h1 := hv.2
  have h2 := hv2.2
  have hw := hv.1.w
  simp -implicitDefEqProofs (disch := first | omega | (simp only [List.length_append, List.length_cons, List.length_nil, List.length_set] <;> omega) | (repeat' (first | assumption | exact Pre.refl _ | refine Pre.push ?_ rfl | refine Pre.app ?_ (by assumption) | refine Pre.set ?_ ?_ rfl | omega | (simp only [List.length_append, List.length_cons, List.length_nil, List.length_set] <;> omega) | fail)) | fail) only [↓reduceIte, go_sem, Nat.sub_zero, List.length_replicate, Nat.reduceLT, Nat.reduceLeDiff, Nat.reduceEqDiff, Nat.reduceAdd, Nat.reduceMul, reduceCtorEq, Int.reduceToNat, Int.reduceLT, Int.reduceLE, Int.reduceAdd, Int.reduceSub, Int.reduceEq, Int.reduceBEq, Int.reduceBNe, Nat.reduceBEq, Nat.reduceBNe, Int.reduceMul, Int.reduceNeg, Ter.cs]
  refine wp_for [3, 4, 5, 6, 42] n (fun i g H' => g 8 = .int .i64 (i : Int) ∧ ∃ l : List Int, Ow (Lay.int .i64) H H' (g 7) l ∧ l.length ≤ i ∧ l.Pairwise (· < ·) ∧ ∀ j, j ∈ l ↔ j < i ∧ InRect t.w ax ay bx byy j) ?_ 0 _ (by omega) ?_
  · rintro i g H2 hi hk ⟨e7, l, ow, hl, up, mem⟩
    simp -implicitDefEqProofs (disch := first | omega | (simp only [List.length_append, List.length_cons, List.length_nil, List.length_set] <;> omega) | (repeat' (first | assumption | exact Pre.refl _ | refine Pre.push ?_ rfl | refine Pre.app ?_ (by assumption) | refine Pre.set ?_ ?_ rfl | omega | (simp only [List.length_append, List.length_cons, List.length_nil, List.length_set] <;> omega) | fail)) | fail) only [↓reduceIte, go_sem, Nat.sub_zero, List.length_replicate, Nat.reduceLT, Nat.reduceLeDiff, Nat.reduceEqDiff, Nat.reduceAdd, Nat.reduceMul, reduceCtorEq, Int.reduceToNat, Int.reduceLT, Int.reduceLE, Int.reduceAdd, Int.reduceSub, Int.reduceEq, Int.reduceBEq, Int.reduceBNe, Nat.reduceBEq, Nat.reduceBNe, Int.reduceMul, Int.reduceNeg] at hk
    simp -implicitDefEqProofs (disch := first | omega | (simp only [List.length_append, List.length_cons, List.length_nil, List.length_set] <;> omega) | (repeat' (first | assumption | exact Pre.refl _ | refine Pre.push ?_ rfl | refine Pre.app ?_ (by assumption) | refine Pre.set ?_ ?_ rfl | omega | (simp only [List.length_append, List.length_cons, List.length_nil, List.length_set] <;> omega) | fail)) | fail) only [↓reduceIte, go_sem, Nat.sub_zero, List.length_replicate, Nat.reduceLT, Nat.reduceLeDiff, Nat.reduceEqDiff, Nat.reduceAdd, Nat.reduceMul, reduceCtorEq, Int.reduceToNat, Int.reduceLT, Int.reduceLE, Int.reduceAdd, Int.reduceSub, Int.reduceEq, Int.reduceBEq, Int.reduceBNe, Nat.reduceBEq, Nat.reduceBNe, Int.reduceMul, Int.reduceNeg, hk, e7, hn]
    ((first | refine wguard_split (fun hbr => ?_) (fun hbr => ?_) | refine wcond_split (fun hbr => ?_) (fun hbr => ?_) | refine wguard0_split (fun hbr => ?_) (fun hbr => ?_)) <;> (have hq := hbr; (try simp only [Bool.not_eq_true', Bool.not_eq_false', Bool.and_eq_true, Bool.and_eq_false_iff, Bool.or_eq_true, Bool.or_eq_false_iff, decide_eq_true_eq, decide_eq_false_iff_not, bne_iff_ne, beq_iff_eq, beq_eq_false_iff_ne, bne_eq_false_iff_eq, ne_eq, Int.not_lt, Int.not_le, Int.ofNat_inj, Bool.not_eq_true, Bool.not_eq_false] at hq)))
    · (try simp only [Bool.not_eq_true', Bool.not_eq_false', Bool.and_eq_true, Bool.and_eq_false_iff, Bool.or_eq_true, Bool.or_eq_false_iff, decide_eq_true_eq, decide_eq_false_iff_not, bne_iff_ne, beq_iff_eq, beq_eq_false_iff_ne, bne_eq_false_iff_eq, ne_eq, Int.not_lt, Int.not_le, Int.ofNat_inj, Bool.not_eq_true, Bool.not_eq_false] at *)
      have er := fun H R => rat_is (hook := hook) (H := H) (t := t) (i := (i : Int)) hw (by omega) R
      unfold Ter.cs at er
      have hit := inrect_iff (w := t.w) (h := t.h) (i := (i : Int)) ⟨h1.1, h1.2.1⟩ ⟨h2.1, h2.2.1⟩ h1.2.2 h2.2.2
      obtain ⟨v', H', e, ow2, -⟩ := ow.app (l2 := [(i : Int)]) (n := 1) (bytes := 8) (xs := [.int .i64 i]) rfl rfl (by simp; omega) (by simp; omega)
      have e' : iapp 1 8 (g 7) 1 [.int .i64 i] H2 = some (v', H') := e
      simp -implicitDefEqProofs (disch := first | omega | (simp only [List.length_append, List.length_cons, List.length_nil, List.length_set] <;> omega) | (repeat' (first | assumption | exact Pre.refl _ | refine Pre.push ?_ rfl | refine Pre.app ?_ (by assumption) | refine Pre.set ?_ ?_ rfl | omega | (simp only [List.length_append, List.length_cons, List.length_nil, List.length_set] <;> omega) | fail)) | fail) only [↓reduceIte, go_sem, Nat.sub_zero, List.length_replicate, Nat.reduceLT, Nat.reduceLeDiff, Nat.reduceEqDiff, Nat.reduceAdd, Nat.reduceMul, reduceCtorEq, Int.reduceToNat, Int.reduceLT, Int.reduceLE, Int.reduceAdd, Int.reduceSub, Int.reduceEq, Int.reduceBEq, Int.reduceBNe, Nat.reduceBEq, Nat.reduceBNe, Int.reduceMul, Int.reduceNeg, hk, e7, er, between_is]
      have yes : InRect t.w ax ay bx byy i → ∀ j : Int, j ∈ l ++ [(i : Int)] ↔ j < ((i + 1 : Nat) : Int) ∧ InRect t.w ax ay bx byy j := fun hin j => by
        rw [List.mem_append, mem j, List.mem_singleton]
        constructor
        · rintro (⟨h, k⟩ | rfl)
          · exact ⟨by omega, k⟩
          · exact ⟨by omega, hin⟩
        · rintro ⟨h, k⟩
          by_cases e : j = i
          · exact .inr e
          · exact .inl ⟨by omega, k⟩
      have no : ¬ InRect t.w ax ay bx byy i → ∀ j : Int, j ∈ l ↔ j < ((i + 1 : Nat) : Int) ∧ InRect t.w ax ay bx byy j := fun hin j => by
        rw [mem j]
        constructor
        · rintro ⟨h, k⟩; exact ⟨by omega, k⟩
        · rintro ⟨h, k⟩
          by_cases e : j = i
          · subst e; exact absurd k hin
          · exact ⟨by omega, k⟩
      clear hR
      (repeat' (first | (((first | refine wguard_split (fun hbr => ?_) (fun hbr => ?_) | refine wcond_split (fun hbr => ?_) (fun hbr => ?_) | refine wguard0_split (fun hbr => ?_) (fun hbr => ?_)) <;> (have hq := hbr; (try simp only [Bool.not_eq_true', Bool.not_eq_false', Bool.and_eq_true, Bool.and_eq_false_iff, Bool.or_eq_true, Bool.or_eq_false_iff, decide_eq_true_eq, decide_eq_false_iff_not, bne_iff_ne, beq_iff_eq, beq_eq_false_iff_ne, bne_eq_false_iff_eq, ne_eq, Int.not_lt, Int.not_le, Int.ofNat_inj, Bool.not_eq_true, Bool.not_eq_false] at hq))) <;> first | (exfalso; omega) | simp -implicitDefEqProofs (disch := first | omega | (simp only [List.length_append, List.length_cons, List.length_nil, List.length_set] <;> omega) | (repeat' (first | assumption | exact Pre.refl _ | refine Pre.push ?_ rfl | refine Pre.app ?_ (by assumption) | refine Pre.set ?_ ?_ rfl | omega | (simp only [List.length_append, List.length_cons, List.length_nil, List.length_set] <;> omega) | fail)) | fail) only [↓reduceIte, go_sem, Nat.sub_zero, List.length_replicate, Nat.reduceLT, Nat.reduceLeDiff, Nat.reduceEqDiff, Nat.reduceAdd, Nat.reduceMul, reduceCtorEq, Int.reduceToNat, Int.reduceLT, Int.reduceLE, Int.reduceAdd, Int.reduceSub, Int.reduceEq, Int.reduceBEq, Int.reduceBNe, Nat.reduceBEq, Nat.reduceBNe, Int.reduceMul, Int.reduceNeg, *, hk, e7, er, between_is] | skip) | (apply And.intro; omega; try simp -implicitDefEqProofs (disch := first | omega | (simp only [List.length_append, List.length_cons, List.length_nil, List.length_set] <;> omega) | (repeat' (first | assumption | exact Pre.refl _ | refine Pre.push ?_ rfl | refine Pre.app ?_ (by assumption) | refine Pre.set ?_ ?_ rfl | omega | (simp only [List.length_append, List.length_cons, List.length_nil, List.length_set] <;> omega) | fail)) | fail) only [↓reduceIte, go_sem, Nat.sub_zero, List.length_replicate, Nat.reduceLT, Nat.reduceLeDiff, Nat.reduceEqDiff, Nat.reduceAdd, Nat.reduceMul, reduceCtorEq, Int.reduceToNat, Int.reduceLT, Int.reduceLE, Int.reduceAdd, Int.reduceSub, Int.reduceEq, Int.reduceBEq, Int.reduceBNe, Nat.reduceBEq, Nat.reduceBNe, Int.reduceMul, Int.reduceNeg, *, hk, e7, er, between_is])))
      all_goals first
        | exact ⟨l ++ [(i : Int)], ow2, by simp; omega, rising_snoc up fun y hy => ((mem y).1 hy).1, yes (hit.2 ⟨by omega, by assumption, by assumption⟩)⟩
        | exact ⟨l, ow, by omega, up, no fun h => by have := hit.1 h; simp_all⟩
    · (try simp only [Bool.not_eq_true', Bool.not_eq_false', Bool.and_eq_true, Bool.and_eq_false_iff, Bool.or_eq_true, Bool.or_eq_false_iff, decide_eq_true_eq, decide_eq_false_iff_not, bne_iff_ne, beq_iff_eq, beq_eq_false_iff_ne, bne_eq_false_iff_eq, ne_eq, Int.not_lt, Int.not_le, Int.ofNat_inj, Bool.not_eq_true, Bool.not_eq_false] at *)
      have : i = n := by omega
      subst this
      simp -implicitDefEqProofs (disch := first | omega | (simp only [List.length_append, List.length_cons, List.length_nil, List.length_set] <;> omega) | (repeat' (first | assumption | exact Pre.refl _ | refine Pre.push ?_ rfl | refine Pre.app ?_ (by assumption) | refine Pre.set ?_ ?_ rfl | omega | (simp only [List.length_append, List.length_cons, List.length_nil, List.length_set] <;> omega) | fail)) | fail) only [↓reduceIte, go_sem, Nat.sub_zero, List.length_replicate, Nat.reduceLT, Nat.reduceLeDiff, Nat.reduceEqDiff, Nat.reduceAdd, Nat.reduceMul, reduceCtorEq, Int.reduceToNat, Int.reduceLT, Int.reduceLE, Int.reduceAdd, Int.reduceSub, Int.reduceEq, Int.reduceBEq, Int.reduceBNe, Nat.reduceBEq, Nat.reduceBNe, Int.reduceMul, Int.reduceNeg, hk]
      refine hR _ _ l ow.pre ow.sl (by omega) ⟨up, fun j => ?_⟩
      rw [mem j]
      constructor
      · exact fun h => h.2
      · intro h
        have := (inrect_iff (w := t.w) (h := t.h) (i := j) ⟨h1.1, h1.2.1⟩ ⟨h2.1, h2.2.1⟩ h1.2.2 h2.2.2).1 h
        exact ⟨by omega, h⟩
  · simp -implicitDefEqProofs (disch := first | omega | (simp only [List.length_append, List.length_cons, List.length_nil, List.length_set] <;> omega) | (repeat' (first | assumption | exact Pre.refl _ | refine Pre.push ?_ rfl | refine Pre.app ?_ (by assumption) | refine Pre.set ?_ ?_ rfl | omega | (simp only [List.length_append, List.length_cons, List.length_nil, List.length_set] <;> omega) | fail)) | fail) only [↓reduceIte, go_sem, Nat.sub_zero, List.length_replicate, Nat.reduceLT, Nat.reduceLeDiff, Nat.reduceEqDiff, Nat.reduceAdd, Nat.reduceMul, reduceCtorEq, Int.reduceToNat, Int.reduceLT, Int.reduceLE, Int.reduceAdd, Int.reduceSub, Int.reduceEq, Int.reduceBEq, Int.reduceBNe, Nat.reduceBEq, Nat.reduceBNe, Int.reduceMul, Int.reduceNeg]
    exact ⟨[], Ow.nil (Pre.refl _), by simp, by simp, fun j => by
      constructor
      · intro h; cases h
      · rintro ⟨h, k⟩
        have := (inrect_iff (w := t.w) (h := t.h) (i := j) ⟨h1.1, h1.2.1⟩ ⟨h2.1, h2.2.1⟩ h1.2.2 h2.2.2).1 k
        omega⟩


theorem trect_is {t : Ter} {gl pl : List Int} {ax ay bx byy : Int} (ht : TerIn H t gl pl) (hg : gl.length ≤ 1000000) (hp : pl.length ≤ 1000000)
    (hno : ¬ (THas t gl pl ax ay ∧ THas t gl pl bx byy) → ∀ H', Pre H H' → R (.ret (.tuple #[.slice none 0 0, .int .i64 2])) H')
    (hR : THas t gl pl ax ay ∧ THas t gl pl bx byy → ∀ H' v l, Pre H H' → Sl (Lay.int .i64) H' v l → l.length ≤ 4096 → RectL t.w ax ay bx byy l → R (.ret (.tuple #[v, .int .i64 0])) H') :
    WF tab hook 24 [.agg t.cs.toArray, .agg #[.int .i64 ax, .int .i64 ay], .agg #[.int .i64 bx, .int .i64 byy]] H R := by
  refine WF_def (tab := tab) (F := 24) rfl rfl ?_
  simp -implicitDefEqProofs (disch := first | omega | (simp only [List.length_append, List.length_cons, List.length_nil, List.length_set] <;> omega) | (repeat' (first | assumption | exact Pre.refl _ | refine Pre.push ?_ rfl | refine Pre.app ?_ (by assumption) | refine Pre.set ?_ ?_ rfl | omega | (simp only [List.length_append, List.length_cons, List.length_nil, List.length_set] <;> omega) | fail)) | fail) only [↓reduceIte, go_sem, Nat.sub_zero, List.length_replicate, Nat.reduceLT, Nat.reduceLeDiff, Nat.reduceEqDiff, Nat.reduceAdd, Nat.reduceMul, reduceCtorEq, Int.reduceToNat, Int.reduceLT, Int.reduceLE, Int.reduceAdd, Int.reduceSub, Int.reduceEq, Int.reduceBEq, Int.reduceBNe, Nat.reduceBEq, Nat.reduceBNe, Int.reduceMul, Int.reduceNeg, Ter.cs]
  refine has_is (t := t) ht hg hp fun H1 p1 => ?_
  by_cases h1 : THas t gl pl ax ay
  case neg =>
    simp -implicitDefEqProofs (disch := first | omega | (simp only [List.length_append, List.length_cons, List.length_nil, List.length_set] <;> omega) | (repeat' (first | assumption | exact Pre.refl _ | refine Pre.push ?_ rfl | refine Pre.app ?_ (by assumption) | refine Pre.set ?_ ?_ rfl | omega | (simp only [List.length_append, List.length_cons, List.length_nil, List.length_set] <;> omega) | fail)) | fail) only [↓reduceIte, go_sem, Nat.sub_zero, List.length_replicate, Nat.reduceLT, Nat.reduceLeDiff, Nat.reduceEqDiff, Nat.reduceAdd, Nat.reduceMul, reduceCtorEq, Int.reduceToNat, Int.reduceLT, Int.reduceLE, Int.reduceAdd, Int.reduceSub, Int.reduceEq, Int.reduceBEq, Int.reduceBNe, Nat.reduceBEq, Nat.reduceBNe, Int.reduceMul, Int.reduceNeg, decide_eq_false h1]
    exact hno (fun h => h1 h.1) _ p1
  simp -implicitDefEqProofs (disch := first | omega | (simp only [List.length_append, List.length_cons, List.length_nil, List.length_set] <;> omega) | (repeat' (first | assumption | exact Pre.refl _ | refine Pre.push ?_ rfl | refine Pre.app ?_ (by assumption) | refine Pre.set ?_ ?_ rfl | omega | (simp only [List.length_append, List.length_cons, List.length_nil, List.length_set] <;> omega) | fail)) | fail) only [↓reduceIte, go_sem, Nat.sub_zero, List.length_replicate, Nat.reduceLT, Nat.reduceLeDiff, Nat.reduceEqDiff, Nat.reduceAdd, Nat.reduceMul, reduceCtorEq, Int.reduceToNat, Int.reduceLT, Int.reduceLE, Int.reduceAdd, Int.reduceSub, Int.reduceEq, Int.reduceBEq, Int.reduceBNe, Nat.reduceBEq, Nat.reduceBNe, Int.reduceMul, Int.reduceNeg, decide_eq_true h1]
  refine has_is (t := t) (ht.mono p1) hg hp fun H2 p2 => ?_
  by_cases h2 : THas t gl pl bx byy
  case neg =>
    simp -implicitDefEqProofs (disch := first | omega | (simp only [List.length_append, List.length_cons, List.length_nil, List.length_set] <;> omega) | (repeat' (first | assumption | exact Pre.refl _ | refine Pre.push ?_ rfl | refine Pre.app ?_ (by assumption) | refine Pre.set ?_ ?_ rfl | omega | (simp only [List.length_append, List.length_cons, List.length_nil, List.length_set] <;> omega) | fail)) | fail) only [↓reduceIte, go_sem, Nat.sub_zero, List.length_replicate, Nat.reduceLT, Nat.reduceLeDiff, Nat.reduceEqDiff, Nat.reduceAdd, Nat.reduceMul, reduceCtorEq, Int.reduceToNat, Int.reduceLT, Int.reduceLE, Int.reduceAdd, Int.reduceSub, Int.reduceEq, Int.reduceBEq, Int.reduceBNe, Nat.reduceBEq, Nat.reduceBNe, Int.reduceMul, Int.reduceNeg, decide_eq_false h2]
    exact hno (fun h => h2 h.2) _ (p1.trans p2)
  simp -implicitDefEqProofs (disch := first | omega | (simp only [List.length_append, List.length_cons, List.length_nil, List.length_set] <;> omega) | (repeat' (first | assumption | exact Pre.refl _ | refine Pre.push ?_ rfl | refine Pre.app ?_ (by assumption) | refine Pre.set ?_ ?_ rfl | omega | (simp only [List.length_append, List.length_cons, List.length_nil, List.length_set] <;> omega) | fail)) | fail) only [↓reduceIte, go_sem, Nat.sub_zero, List.length_replicate, Nat.reduceLT, Nat.reduceLeDiff, Nat.reduceEqDiff, Nat.reduceAdd, Nat.reduceMul, reduceCtorEq, Int.reduceToNat, Int.reduceLT, Int.reduceLE, Int.reduceAdd, Int.reduceSub, Int.reduceEq, Int.reduceBEq, Int.reduceBNe, Nat.reduceBEq, Nat.reduceBNe, Int.reduceMul, Int.reduceNeg, decide_eq_true h2]
  have hR' := hR ⟨h1, h2⟩
  clear hR hno
  have hw := h1.1.w
  have hh := h1.1.h
  have a1 := h1.2
  have a2 := h2.2
  have mx : (if ax < bx then bx else ax) = max ax bx := by omega
  have my : (if ay < byy then byy else ay) = max ay byy := by omega
  have nx : (if bx < ax then bx else ax) = min ax bx := by omega
  have ny : (if byy < ay then byy else ay) = min ay byy := by omega
  simp -implicitDefEqProofs (disch := first | omega | (simp only [List.length_append, List.length_cons, List.length_nil, List.length_set] <;> omega) | (repeat' (first | assumption | exact Pre.refl _ | refine Pre.push ?_ rfl | refine Pre.app ?_ (by assumption) | refine Pre.set ?_ ?_ rfl | omega | (simp only [List.length_append, List.length_cons, List.length_nil, List.length_set] <;> omega) | fail)) | fail) only [↓reduceIte, go_sem, Nat.sub_zero, List.length_replicate, Nat.reduceLT, Nat.reduceLeDiff, Nat.reduceEqDiff, Nat.reduceAdd, Nat.reduceMul, reduceCtorEq, Int.reduceToNat, Int.reduceLT, Int.reduceLE, Int.reduceAdd, Int.reduceSub, Int.reduceEq, Int.reduceBEq, Int.reduceBNe, Nat.reduceBEq, Nat.reduceBNe, Int.reduceMul, Int.reduceNeg, mx, my, nx, ny]
  refine wp_for [3, 4, 5, 6, 7, 57] (max ay byy - min ay byy + 1).toNat (fun i g H' => g 9 = .int .i64 (min ay byy + i) ∧ ∃ l : List Int, Ow (Lay.int .i64) H2 H' (g 8) l ∧ (l.length : Int) ≤ i * t.w ∧ l.Pairwise (· < ·) ∧ ∀ j, j ∈ l ↔ ∃ x y, Btw x ax bx ∧ Btw y ay byy ∧ y < min ay byy + i ∧ j = y * t.w + x) ?_ 0 _ (by omega) ?_
  · rintro i g H3 hi hk ⟨e7, l, ow, hl, up, mem⟩
    simp -implicitDefEqProofs (disch := first | omega | (simp only [List.length_append, List.length_cons, List.length_nil, List.length_set] <;> omega) | (repeat' (first | assumption | exact Pre.refl _ | refine Pre.push ?_ rfl | refine Pre.app ?_ (by assumption) | refine Pre.set ?_ ?_ rfl | omega | (simp only [List.length_append, List.length_cons, List.length_nil, List.length_set] <;> omega) | fail)) | fail) only [↓reduceIte, go_sem, Nat.sub_zero, List.length_replicate, Nat.reduceLT, Nat.reduceLeDiff, Nat.reduceEqDiff, Nat.reduceAdd, Nat.reduceMul, reduceCtorEq, Int.reduceToNat, Int.reduceLT, Int.reduceLE, Int.reduceAdd, Int.reduceSub, Int.reduceEq, Int.reduceBEq, Int.reduceBNe, Nat.reduceBEq, Nat.reduceBNe, Int.reduceMul, Int.reduceNeg] at hk
    simp -implicitDefEqProofs (disch := first | omega | (simp only [List.length_append, List.length_cons, List.length_nil, List.length_set] <;> omega) | (repeat' (first | assumption | exact Pre.refl _ | refine Pre.push ?_ rfl | refine Pre.app ?_ (by assumption) | refine Pre.set ?_ ?_ rfl | omega | (simp only [List.length_append, List.length_cons, List.length_nil, List.length_set] <;> omega) | fail)) | fail) only [↓reduceIte, go_sem, Nat.sub_zero, List.length_replicate, Nat.reduceLT, Nat.reduceLeDiff, Nat.reduceEqDiff, Nat.reduceAdd, Nat.reduceMul, reduceCtorEq, Int.reduceToNat, Int.reduceLT, Int.reduceLE, Int.reduceAdd, Int.reduceSub, Int.reduceEq, Int.reduceBEq, Int.reduceBNe, Nat.reduceBEq, Nat.reduceBNe, Int.reduceMul, Int.reduceNeg, hk, e7, my]
    ((first | refine wguard_split (fun hbr => ?_) (fun hbr => ?_) | refine wcond_split (fun hbr => ?_) (fun hbr => ?_) | refine wguard0_split (fun hbr => ?_) (fun hbr => ?_)) <;> (have hq := hbr; (try simp only [Bool.not_eq_true', Bool.not_eq_false', Bool.and_eq_true, Bool.and_eq_false_iff, Bool.or_eq_true, Bool.or_eq_false_iff, decide_eq_true_eq, decide_eq_false_iff_not, bne_iff_ne, beq_iff_eq, beq_eq_false_iff_ne, bne_eq_false_iff_eq, ne_eq, Int.not_lt, Int.not_le, Int.ofNat_inj, Bool.not_eq_true, Bool.not_eq_false] at hq)))
    · (try simp only [Bool.not_eq_true', Bool.not_eq_false', Bool.and_eq_true, Bool.and_eq_false_iff, Bool.or_eq_true, Bool.or_eq_false_iff, decide_eq_true_eq, decide_eq_false_iff_not, bne_iff_ne, beq_iff_eq, beq_eq_false_iff_ne, bne_eq_false_iff_eq, ne_eq, Int.not_lt, Int.not_le, Int.ofNat_inj, Bool.not_eq_true, Bool.not_eq_false] at *)
      simp -implicitDefEqProofs (disch := first | omega | (simp only [List.length_append, List.length_cons, List.length_nil, List.length_set] <;> omega) | (repeat' (first | assumption | exact Pre.refl _ | refine Pre.push ?_ rfl | refine Pre.app ?_ (by assumption) | refine Pre.set ?_ ?_ rfl | omega | (simp only [List.length_append, List.length_cons, List.length_nil, List.length_set] <;> omega) | fail)) | fail) only [↓reduceIte, go_sem, Nat.sub_zero, List.length_replicate, Nat.reduceLT, Nat.reduceLeDiff, Nat.reduceEqDiff, Nat.reduceAdd, Nat.reduceMul, reduceCtorEq, Int.reduceToNat, Int.reduceLT, Int.reduceLE, Int.reduceAdd, Int.reduceSub, Int.reduceEq, Int.reduceBEq, Int.reduceBNe, Nat.reduceBEq, Nat.reduceBNe, Int.reduceMul, Int.reduceNeg, hk, e7, nx]
      have hyy : min ay byy + i ≤ max ay byy := by omega
      refine wp_for [3, 4, 5, 6, 7, 9, 26, 28, 30, 31, 32, 33, 34, 36, 38, 39, 57] (max ax bx - min ax bx + 1).toNat (fun i' r H' => r 10 = .int .i64 (min ax bx + i') ∧ ∃ l : List Int, Ow (Lay.int .i64) H2 H' (r 8) l ∧ (l.length : Int) ≤ i * t.w + i' ∧ l.Pairwise (· < ·) ∧ ∀ j, j ∈ l ↔ (∃ x y, Btw x ax bx ∧ Btw y ay byy ∧ y < min ay byy + i ∧ j = y * t.w + x) ∨ ∃ x, Btw x ax bx ∧ x < min ax bx + i' ∧ j = (min ay byy + i) * t.w + x) ?_ 0 _ (by omega) ?_
      · rintro i' r H4 hi' hk' ⟨e7', l', ow', hl', up', mem'⟩
        simp -implicitDefEqProofs (disch := first | omega | (simp only [List.length_append, List.length_cons, List.length_nil, List.length_set] <;> omega) | (repeat' (first | assumption | exact Pre.refl _ | refine Pre.push ?_ rfl | refine Pre.app ?_ (by assumption) | refine Pre.set ?_ ?_ rfl | omega | (simp only [List.length_append, List.length_cons, List.length_nil, List.length_set] <;> omega) | fail)) | fail) only [↓reduceIte, go_sem, Nat.sub_zero, List.length_replicate, Nat.reduceLT, Nat.reduceLeDiff, Nat.reduceEqDiff, Nat.reduceAdd, Nat.reduceMul, reduceCtorEq, Int.reduceToNat, Int.reduceLT, Int.reduceLE, Int.reduceAdd, Int.reduceSub, Int.reduceEq, Int.reduceBEq, Int.reduceBNe, Nat.reduceBEq, Nat.reduceBNe, Int.reduceMul, Int.reduceNeg, hk] at hk'
        simp -implicitDefEqProofs (disch := first | omega | (simp only [List.length_append, List.length_cons, List.length_nil, List.length_set] <;> omega) | (repeat' (first | assumption | exact Pre.refl _ | refine Pre.push ?_ rfl | refine Pre.app ?_ (by assumption) | refine Pre.set ?_ ?_ rfl | omega | (simp only [List.length_append, List.length_cons, List.length_nil, List.length_set] <;> omega) | fail)) | fail) only [↓reduceIte, go_sem, Nat.sub_zero, List.length_replicate, Nat.reduceLT, Nat.reduceLeDiff, Nat.reduceEqDiff, Nat.reduceAdd, Nat.reduceMul, reduceCtorEq, Int.reduceToNat, Int.reduceLT, Int.reduceLE, Int.reduceAdd, Int.reduceSub, Int.reduceEq, Int.reduceBEq, Int.reduceBNe, Nat.reduceBEq, Nat.reduceBNe, Int.reduceMul, Int.reduceNeg, hk', hk, e7', e7, mx]
        ((first | refine wguard_split (fun hbr => ?_) (fun hbr => ?_) | refine wcond_split (fun hbr => ?_) (fun hbr => ?_) | refine wguard0_split (fun hbr => ?_) (fun hbr => ?_)) <;> (have hq := hbr; (try simp only [Bool.not_eq_true', Bool.not_eq_false', Bool.and_eq_true, Bool.and_eq_false_iff, Bool.or_eq_true, Bool.or_eq_false_iff, decide_eq_true_eq, decide_eq_false_iff_not, bne_iff_ne, beq_iff_eq, beq_eq_false_iff_ne, bne_eq_false_iff_eq, ne_eq, Int.not_lt, Int.not_le, Int.ofNat_inj, Bool.not_eq_true, Bool.not_eq_false] at hq)))
        · (try simp only [Bool.not_eq_true', Bool.not_eq_false', Bool.and_eq_true, Bool.and_eq_false_iff, Bool.or_eq_true, Bool.or_eq_false_iff, decide_eq_true_eq, decide_eq_false_iff_not, bne_iff_ne, beq_iff_eq, beq_eq_false_iff_ne, bne_eq_false_iff_eq, ne_eq, Int.not_lt, Int.not_le, Int.ofNat_inj, Bool.not_eq_true, Bool.not_eq_false] at *)
          have hx' : min ax bx + i' ≤ max ax bx := by omega
          have hc : THas t gl pl (min ax bx + i') (min ay byy + i) := ⟨h1.1, by omega, by omega, by omega, by omega⟩
          have ei := fun H R => tindex_is (hook := hook) (H := H) hc R
          unfold Ter.cs at ei
          have hbd : (i : Int) * t.w ≤ 63 * 64 := Int.mul_le_mul (by omega) hw.2 (by omega) (by omega)
          obtain ⟨v', H', e, ow2, -⟩ := ow'.app (l2 := [(min ay byy + i) * t.w + (min ax bx + i')]) (n := 1) (bytes := 8) (xs := [.int .i64 ((min ay byy + i) * t.w + (min ax bx + i'))]) rfl rfl (by simp; omega) (by simp; omega)
          have e' : iapp 1 8 (r 8) 1 [.int .i64 ((min ay byy + i) * t.w + (min ax bx + i'))] H4 = some (v', H') := e
          clear hR'
          simp -implicitDefEqProofs (disch := first | omega | (simp only [List.length_append, List.length_cons, List.length_nil, List.length_set] <;> omega) | (repeat' (first | assumption | exact Pre.refl _ | refine Pre.push ?_ rfl | refine Pre.app ?_ (by assumption) | refine Pre.set ?_ ?_ rfl | omega | (simp only [List.length_append, List.length_cons, List.length_nil, List.length_set] <;> omega) | fail)) | fail) only [↓reduceIte, go_sem, Nat.sub_zero, List.length_replicate, Nat.reduceLT, Nat.reduceLeDiff, Nat.reduceEqDiff, Nat.reduceAdd, Nat.reduceMul, reduceCtorEq, Int.reduceToNat, Int.reduceLT, Int.reduceLE, Int.reduceAdd, Int.reduceSub, Int.reduceEq, Int.reduceBEq, Int.reduceBNe, Nat.reduceBEq, Nat.reduceBNe, Int.reduceMul, Int.reduceNeg, hk', hk, e7', e7, ei, e']
          refine ⟨by omega, by omega, l' ++ [(min ay byy + i) * t.w + (min ax bx + i')], ow2, by simp; omega, rising_snoc up' fun y hy => ?_, fun j => ?_⟩
          · rcases (mem' y).1 hy with ⟨x2, y2, b1, b2, b3, rfl⟩ | ⟨x2, b1, b2, rfl⟩
            · have m1 := Int.mul_le_mul_of_nonneg_right (show y2 ≤ min ay byy + i - 1 by omega) (show 0 ≤ t.w by omega)
              rw [Int.sub_mul, Int.one_mul] at m1
              unfold Btw at b1
              omega
            · omega
          · rw [List.mem_append, mem' j, List.mem_singleton]
            constructor
            · rintro ((h | ⟨x2, b1, b2, b3⟩) | h)
              · exact .inl h
              · exact .inr ⟨x2, b1, by omega, b3⟩
              · exact .inr ⟨_, by unfold Btw; omega, by omega, h⟩
            · rintro (h | ⟨x2, b1, b2, b3⟩)
              · exact .inl (.inl h)
              · by_cases e : x2 = min ax bx + i'
                · subst e; exact .inr b3
                · exact .inl (.inr ⟨x2, b1, by omega, b3⟩)
        · (try simp only [Bool.not_eq_true', Bool.not_eq_false', Bool.and_eq_true, Bool.and_eq_false_iff, Bool.or_eq_true, Bool.or_eq_false_iff, decide_eq_true_eq, decide_eq_false_iff_not, bne_iff_ne, beq_iff_eq, beq_eq_false_iff_ne, bne_eq_false_iff_eq, ne_eq, Int.not_lt, Int.not_le, Int.ofNat_inj, Bool.not_eq_true, Bool.not_eq_false] at *)
          have hbd : (i : Int) * t.w + t.w = (i + 1 : Nat) * t.w := by rw [Int.natCast_add, Int.add_mul, Int.natCast_one, Int.one_mul]
          clear hR'
          simp -implicitDefEqProofs (disch := first | omega | (simp only [List.length_append, List.length_cons, List.length_nil, List.length_set] <;> omega) | (repeat' (first | assumption | exact Pre.refl _ | refine Pre.push ?_ rfl | refine Pre.app ?_ (by assumption) | refine Pre.set ?_ ?_ rfl | omega | (simp only [List.length_append, List.length_cons, List.length_nil, List.length_set] <;> omega) | fail)) | fail) only [↓reduceIte, go_sem, Nat.sub_zero, List.length_replicate, Nat.reduceLT, Nat.reduceLeDiff, Nat.reduceEqDiff, Nat.reduceAdd, Nat.reduceMul, reduceCtorEq, Int.reduceToNat, Int.reduceLT, Int.reduceLE, Int.reduceAdd, Int.reduceSub, Int.reduceEq, Int.reduceBEq, Int.reduceBNe, Nat.reduceBEq, Nat.reduceBNe, Int.reduceMul, Int.reduceNeg, hk', hk, e7', e7]
          refine ⟨by omega, by omega, l', ow', by omega, up', fun j => ?_⟩
          rw [mem' j]
          constructor
          · rintro (⟨x2, y2, b1, b2, b3, b4⟩ | ⟨x2, b1, b2, b3⟩)
            · exact ⟨x2, y2, b1, b2, by omega, b4⟩
            · exact ⟨x2, _, b1, by unfold Btw; omega, by omega, b3⟩
          · rintro ⟨x2, y2, b1, b2, b3, b4⟩
            by_cases e : y2 = min ay byy + i
            · subst e; exact .inr ⟨x2, b1, by unfold Btw at b1; omega, b4⟩
            · exact .inl ⟨x2, y2, b1, b2, by omega, b4⟩
      · simp -implicitDefEqProofs (disch := first | omega | (simp only [List.length_append, List.length_cons, List.length_nil, List.length_set] <;> omega) | (repeat' (first | assumption | exact Pre.refl _ | refine Pre.push ?_ rfl | refine Pre.app ?_ (by assumption) | refine Pre.set ?_ ?_ rfl | omega | (simp only [List.length_append, List.length_cons, List.length_nil, List.length_set] <;> omega) | fail)) | fail) only [↓reduceIte, go_sem, Nat.sub_zero, List.length_replicate, Nat.reduceLT, Nat.reduceLeDiff, Nat.reduceEqDiff, Nat.reduceAdd, Nat.reduceMul, reduceCtorEq, Int.reduceToNat, Int.reduceLT, Int.reduceLE, Int.reduceAdd, Int.reduceSub, Int.reduceEq, Int.reduceBEq, Int.reduceBNe, Nat.reduceBEq, Nat.reduceBNe, Int.reduceMul, Int.reduceNeg]
        refine ⟨by omega, l, ow, by omega, up, fun j => ?_⟩
        rw [mem j]
        constructor
        · exact .inl
        · rintro (h | ⟨x2, b1, b2, b3⟩)
          · exact h
          · unfold Btw at b1; omega
    · (try simp only [Bool.not_eq_true', Bool.not_eq_false', Bool.and_eq_true, Bool.and_eq_false_iff, Bool.or_eq_true, Bool.or_eq_false_iff, decide_eq_true_eq, decide_eq_false_iff_not, bne_iff_ne, beq_iff_eq, beq_eq_false_iff_ne, bne_eq_false_iff_eq, ne_eq, Int.not_lt, Int.not_le, Int.ofNat_inj, Bool.not_eq_true, Bool.not_eq_false] at *)
      have hbd : (i : Int) * t.w ≤ 64 * 64 := Int.mul_le_mul (by omega) hw.2 (by omega) (by omega)
      simp -implicitDefEqProofs (disch := first | omega | (simp only [List.length_append, List.length_cons, List.length_nil, List.length_set] <;> omega) | (repeat' (first | assumption | exact Pre.refl _ | refine Pre.push ?_ rfl | refine Pre.app ?_ (by assumption) | refine Pre.set ?_ ?_ rfl | omega | (simp only [List.length_append, List.length_cons, List.length_nil, List.length_set] <;> omega) | fail)) | fail) only [↓reduceIte, go_sem, Nat.sub_zero, List.length_replicate, Nat.reduceLT, Nat.reduceLeDiff, Nat.reduceEqDiff, Nat.reduceAdd, Nat.reduceMul, reduceCtorEq, Int.reduceToNat, Int.reduceLT, Int.reduceLE, Int.reduceAdd, Int.reduceSub, Int.reduceEq, Int.reduceBEq, Int.reduceBNe, Nat.reduceBEq, Nat.reduceBNe, Int.reduceMul, Int.reduceNeg, hk]
      refine hR' _ _ l ((p1.trans p2).trans ow.pre) ow.sl (by omega) ⟨up, fun j => ?_⟩
      rw [mem j]
      constructor
      · rintro ⟨x2, y2, b1, b2, b3, b4⟩; exact ⟨x2, y2, b1, b2, b4⟩
      · rintro ⟨x2, y2, b1, b2, b4⟩; exact ⟨x2, y2, b1, b2, by unfold Btw at b2; omega, b4⟩
  · simp -implicitDefEqProofs (disch := first | omega | (simp only [List.length_append, List.length_cons, List.length_nil, List.length_set] <;> omega) | (repeat' (first | assumption | exact Pre.refl _ | refine Pre.push ?_ rfl | refine Pre.app ?_ (by assumption) | refine Pre.set ?_ ?_ rfl | omega | (simp only [List.length_append, List.length_cons, List.length_nil, List.length_set] <;> omega) | fail)) | fail) only [↓reduceIte, go_sem, Nat.sub_zero, List.length_replicate, Nat.reduceLT, Nat.reduceLeDiff, Nat.reduceEqDiff, Nat.reduceAdd, Nat.reduceMul, reduceCtorEq, Int.reduceToNat, Int.reduceLT, Int.reduceLE, Int.reduceAdd, Int.reduceSub, Int.reduceEq, Int.reduceBEq, Int.reduceBNe, Nat.reduceBEq, Nat.reduceBNe, Int.reduceMul, Int.reduceNeg]
    refine ⟨by omega, [], Ow.nil (Pre.refl _), by simp, by simp, fun j => ?_⟩
    constructor
    · intro h; cases h
    · rintro ⟨x2, y2, b1, b2, b3, b4⟩; unfold Btw at b2; omega

end Go.Proofs.Ythlhcdldighffaa.Tab
