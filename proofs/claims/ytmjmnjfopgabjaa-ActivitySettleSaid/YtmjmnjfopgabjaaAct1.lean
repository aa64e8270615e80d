/- Activity: keeping an eligibility, and settling a bidder, for the program and the reference. A lemma for the laws. -/
import Derived.Test.YtmjmnjfopgabjaaDem4
namespace Go.Proofs.Ytmjmnjfopgabjaa.Tab
open Go Go.IM Go.RowKit
set_option maxRecDepth 100000
set_option linter.unusedSimpArgs false
set_option linter.unusedVariables false
set_option maxHeartbeats 4000000

variable {hook : CallFn} {R : IEnd → Heap → Prop} {H : Heap}

def Good (e w p : Int) : Prop := 0 ≤ e ∧ e ≤ 76800000 ∧ 0 ≤ w ∧ w ≤ 3 ∧ 1 ≤ p ∧ p ≤ 100
instance (e w p : Int) : Decidable (Good e w p) := by unfold Good; infer_instance

theorem good_is (e w p : Int) (R : IEnd → Heap → Prop) : WF tab hook 14 [.int .i64 e, .int .i64 w, .int .i64 p] H R = R (.ret (.bool (decide (Good e w p)))) H := by
  refine WF_eq (WF_def (tab := tab) (F := 14) rfl rfl ?_) R
  simp -implicitDefEqProofs (disch := first | omega | (simp only [List.length_append, List.length_cons, List.length_nil, List.length_set] <;> omega) | (repeat' (first | assumption | exact Pre.refl _ | refine Pre.push ?_ rfl | refine Pre.set ?_ ?_ rfl | omega | (simp only [List.length_append, List.length_cons, List.length_nil, List.length_set] <;> omega) | fail)) | fail) only [↓reduceIte, go_sem, Nat.reduceLT, Nat.reduceLeDiff, Nat.reduceEqDiff, Nat.reduceAdd, Nat.reduceMul, reduceCtorEq, Int.reduceToNat, Int.reduceLT, Int.reduceLE, Int.reduceAdd, Int.reduceSub, Int.reduceEq, Int.reduceBEq, Int.reduceBNe, Nat.reduceBEq, Nat.reduceBNe, Int.reduceMul, Int.reduceNeg]
  repeat' (first | (((first | refine wguard_split (fun hbr => ?_) (fun hbr => ?_) | refine wcond_split (fun hbr => ?_) (fun hbr => ?_) | refine wguard0_split (fun hbr => ?_) (fun hbr => ?_)) <;> (have hq := hbr; (try simp only [Bool.not_eq_true', Bool.not_eq_false', Bool.and_eq_true, Bool.and_eq_false_iff, Bool.or_eq_true, Bool.or_eq_false_iff, decide_eq_true_eq, decide_eq_false_iff_not, bne_iff_ne, beq_iff_eq, beq_eq_false_iff_ne, bne_eq_false_iff_eq, ne_eq, Int.not_lt, Int.not_le, Int.ofNat_inj, Bool.not_eq_true, Bool.not_eq_false] at hq))) <;> simp -implicitDefEqProofs (disch := first | omega | (simp only [List.length_append, List.length_cons, List.length_nil, List.length_set] <;> omega) | (repeat' (first | assumption | exact Pre.refl _ | refine Pre.push ?_ rfl | refine Pre.set ?_ ?_ rfl | omega | (simp only [List.length_append, List.length_cons, List.length_nil, List.length_set] <;> omega) | fail)) | fail) only [↓reduceIte, go_sem, Nat.reduceLT, Nat.reduceLeDiff, Nat.reduceEqDiff, Nat.reduceAdd, Nat.reduceMul, reduceCtorEq, Int.reduceToNat, Int.reduceLT, Int.reduceLE, Int.reduceAdd, Int.reduceSub, Int.reduceEq, Int.reduceBEq, Int.reduceBNe, Nat.reduceBEq, Nat.reduceBNe, Int.reduceMul, Int.reduceNeg, *]) | (apply And.intro; omega; try simp -implicitDefEqProofs (disch := first | omega | (simp only [List.length_append, List.length_cons, List.length_nil, List.length_set] <;> omega) | (repeat' (first | assumption | exact Pre.refl _ | refine Pre.push ?_ rfl | refine Pre.set ?_ ?_ rfl | omega | (simp only [List.length_append, List.length_cons, List.length_nil, List.length_set] <;> omega) | fail)) | fail) only [↓reduceIte, go_sem, Nat.reduceLT, Nat.reduceLeDiff, Nat.reduceEqDiff, Nat.reduceAdd, Nat.reduceMul, reduceCtorEq, Int.reduceToNat, Int.reduceLT, Int.reduceLE, Int.reduceAdd, Int.reduceSub, Int.reduceEq, Int.reduceBEq, Int.reduceBNe, Nat.reduceBEq, Nat.reduceBNe, Int.reduceMul, Int.reduceNeg, *]))
  all_goals first
    | (refine ⟨?_, trivial⟩; symm; apply decide_of; unfold Good; simp; omega)
    | (refine congrArg (fun b => IEnd.ret (.bool b)) (decide_of ?_).symm; unfold Good; simp; omega)
    | (apply Eq.symm; apply decide_of; unfold Good; simp; omega)
    | fail

theorem goodR_is (e w p : Int) (R : IEnd → Heap → Prop) : WF tab hook 15 [.int .i64 e, .int .i64 w, .int .i64 p] H R = R (.ret (.bool (decide (Good e w p)))) H := by
  refine WF_eq (WF_def (tab := tab) (F := 15) rfl rfl ?_) R
  simp -implicitDefEqProofs (disch := first | omega | (simp only [List.length_append, List.length_cons, List.length_nil, List.length_set] <;> omega) | (repeat' (first | assumption | exact Pre.refl _ | refine Pre.push ?_ rfl | refine Pre.set ?_ ?_ rfl | omega | (simp only [List.length_append, List.length_cons, List.length_nil, List.length_set] <;> omega) | fail)) | fail) only [↓reduceIte, go_sem, Nat.reduceLT, Nat.reduceLeDiff, Nat.reduceEqDiff, Nat.reduceAdd, Nat.reduceMul, reduceCtorEq, Int.reduceToNat, Int.reduceLT, Int.reduceLE, Int.reduceAdd, Int.reduceSub, Int.reduceEq, Int.reduceBEq, Int.reduceBNe, Nat.reduceBEq, Nat.reduceBNe, Int.reduceMul, Int.reduceNeg]
  repeat' (first | (((first | refine wguard_split (fun hbr => ?_) (fun hbr => ?_) | refine wcond_split (fun hbr => ?_) (fun hbr => ?_) | refine wguard0_split (fun hbr => ?_) (fun hbr => ?_)) <;> (have hq := hbr; (try simp only [Bool.not_eq_true', Bool.not_eq_false', Bool.and_eq_true, Bool.and_eq_false_iff, Bool.or_eq_true, Bool.or_eq_false_iff, decide_eq_true_eq, decide_eq_false_iff_not, bne_iff_ne, beq_iff_eq, beq_eq_false_iff_ne, bne_eq_false_iff_eq, ne_eq, Int.not_lt, Int.not_le, Int.ofNat_inj, Bool.not_eq_true, Bool.not_eq_false] at hq))) <;> simp -implicitDefEqProofs (disch := first | omega | (simp only [List.length_append, List.length_cons, List.length_nil, List.length_set] <;> omega) | (repeat' (first | assumption | exact Pre.refl _ | refine Pre.push ?_ rfl | refine Pre.set ?_ ?_ rfl | omega | (simp only [List.length_append, List.length_cons, List.length_nil, List.length_set] <;> omega) | fail)) | fail) only [↓reduceIte, go_sem, Nat.reduceLT, Nat.reduceLeDiff, Nat.reduceEqDiff, Nat.reduceAdd, Nat.reduceMul, reduceCtorEq, Int.reduceToNat, Int.reduceLT, Int.reduceLE, Int.reduceAdd, Int.reduceSub, Int.reduceEq, Int.reduceBEq, Int.reduceBNe, Nat.reduceBEq, Nat.reduceBNe, Int.reduceMul, Int.reduceNeg, *]) | (apply And.intro; omega; try simp -implicitDefEqProofs (disch := first | omega | (simp only [List.length_append, List.length_cons, List.length_nil, List.length_set] <;> omega) | (repeat' (first | assumption | exact Pre.refl _ | refine Pre.push ?_ rfl | refine Pre.set ?_ ?_ rfl | omega | (simp only [List.length_append, List.length_cons, List.length_nil, List.length_set] <;> omega) | fail)) | fail) only [↓reduceIte, go_sem, Nat.reduceLT, Nat.reduceLeDiff, Nat.reduceEqDiff, Nat.reduceAdd, Nat.reduceMul, reduceCtorEq, Int.reduceToNat, Int.reduceLT, Int.reduceLE, Int.reduceAdd, Int.reduceSub, Int.reduceEq, Int.reduceBEq, Int.reduceBNe, Nat.reduceBEq, Nat.reduceBNe, Int.reduceMul, Int.reduceNeg, *]))
  all_goals first
    | (apply Eq.symm; apply decide_of; unfold Good; simp; omega)
    | fail

def needOf (e p : Int) : Int := (e * p + 99) / 100

theorem ep_bound {e w p : Int} (h : Good e w p) : 0 ≤ e * p ∧ e * p ≤ 7680000000 := by
  unfold Good at h
  exact ⟨Int.mul_nonneg h.1 (by omega), by
    calc e * p ≤ 76800000 * p := Int.mul_le_mul_of_nonneg_right h.2.1 (by omega)
      _ ≤ 7680000000 := by omega⟩

theorem req_is (e p : Int) (h : Good e 0 p) (R : IEnd → Heap → Prop) : WF tab hook 6 [.int .i64 e, .int .i64 p] H R = R (.ret (.tuple #[.int .i64 (needOf e p), .int .i64 0])) H := by
  refine WF_eq (WF_def (tab := tab) (F := 6) rfl rfl ?_) R
  have hb := ep_bound h
  have ht : (e * p + 99).tdiv 100 = (e * p + 99) / 100 := Int.tdiv_eq_ediv_of_nonneg (by omega)
  simp -implicitDefEqProofs (disch := first | omega | (simp only [List.length_append, List.length_cons, List.length_nil, List.length_set] <;> omega) | (repeat' (first | assumption | exact Pre.refl _ | refine Pre.push ?_ rfl | refine Pre.set ?_ ?_ rfl | omega | (simp only [List.length_append, List.length_cons, List.length_nil, List.length_set] <;> omega) | fail)) | fail) only [↓reduceIte, go_sem, Nat.reduceLT, Nat.reduceLeDiff, Nat.reduceEqDiff, Nat.reduceAdd, Nat.reduceMul, reduceCtorEq, Int.reduceToNat, Int.reduceLT, Int.reduceLE, Int.reduceAdd, Int.reduceSub, Int.reduceEq, Int.reduceBEq, Int.reduceBNe, Nat.reduceBEq, Nat.reduceBNe, Int.reduceMul, Int.reduceNeg, good_is, h, ht]
  rfl

theorem reqR_is (e p : Int) (h : Good e 0 p) (R : IEnd → Heap → Prop) : WF tab hook 7 [.int .i64 e, .int .i64 p] H R = R (.ret (.tuple #[.int .i64 (needOf e p), .int .i64 0])) H := by
  refine WF_eq (WF_def (tab := tab) (F := 7) rfl rfl ?_) R
  have hb := ep_bound h
  have ht : (e * p + 99).tdiv 100 = (e * p + 99) / 100 := Int.tdiv_eq_ediv_of_nonneg (by omega)
  simp -implicitDefEqProofs (disch := first | omega | (simp only [List.length_append, List.length_cons, List.length_nil, List.length_set] <;> omega) | (repeat' (first | assumption | exact Pre.refl _ | refine Pre.push ?_ rfl | refine Pre.set ?_ ?_ rfl | omega | (simp only [List.length_append, List.length_cons, List.length_nil, List.length_set] <;> omega) | fail)) | fail) only [↓reduceIte, go_sem, Nat.reduceLT, Nat.reduceLeDiff, Nat.reduceEqDiff, Nat.reduceAdd, Nat.reduceMul, reduceCtorEq, Int.reduceToNat, Int.reduceLT, Int.reduceLE, Int.reduceAdd, Int.reduceSub, Int.reduceEq, Int.reduceBEq, Int.reduceBNe, Nat.reduceBEq, Nat.reduceBNe, Int.reduceMul, Int.reduceNeg, goodR_is, h, ht]
  rfl

def keepE (e w a p : Int) : Int := if a ≥ needOf e p then e else if w > 0 then e else a * 100 / p
def keepW (e w a p : Int) : Int := if a ≥ needOf e p then w else if w > 0 then w - 1 else 0

theorem keep_is (e w a p : Int) (h : Good e w p) (ha : 0 ≤ a ∧ a ≤ e) (R : IEnd → Heap → Prop) : WF tab hook 9 [.int .i64 e, .int .i64 w, .int .i64 a, .int .i64 p] H R = R (.ret (.tuple #[.int .i64 (keepE e w a p), .int .i64 (keepW e w a p), .int .i64 0])) H := by
  refine WF_eq (WF_def (tab := tab) (F := 9) rfl rfl ?_) R
  have hb := ep_bound h
  have h0 : Good e 0 p := by unfold Good at *; omega
  have h' := h
  unfold Good at h'
  have hp : ¬ p = 0 := by omega
  have ht : (a * 100).tdiv p = a * 100 / p := Int.tdiv_eq_ediv_of_nonneg (by omega)
  have hd : 0 ≤ a * 100 / p ∧ a * 100 / p ≤ a * 100 := ⟨Int.ediv_nonneg (by omega) (by omega), Int.ediv_le_self _ (by omega)⟩
  have a1 : ¬ a < 0 := by omega
  have a2 : ¬ e < a := by omega
  unfold keepE keepW
  simp -implicitDefEqProofs (disch := first | omega | (simp only [List.length_append, List.length_cons, List.length_nil, List.length_set] <;> omega) | (repeat' (first | assumption | exact Pre.refl _ | refine Pre.push ?_ rfl | refine Pre.set ?_ ?_ rfl | omega | (simp only [List.length_append, List.length_cons, List.length_nil, List.length_set] <;> omega) | fail)) | fail) only [↓reduceIte, go_sem, Nat.reduceLT, Nat.reduceLeDiff, Nat.reduceEqDiff, Nat.reduceAdd, Nat.reduceMul, reduceCtorEq, Int.reduceToNat, Int.reduceLT, Int.reduceLE, Int.reduceAdd, Int.reduceSub, Int.reduceEq, Int.reduceBEq, Int.reduceBNe, Nat.reduceBEq, Nat.reduceBNe, Int.reduceMul, Int.reduceNeg, good_is, req_is e p h0, h, ht, a1, a2, hp]
  repeat' (first | (((first | refine wguard_split (fun hbr => ?_) (fun hbr => ?_) | refine wcond_split (fun hbr => ?_) (fun hbr => ?_) | refine wguard0_split (fun hbr => ?_) (fun hbr => ?_)) <;> (have hq := hbr; (try simp only [Bool.not_eq_true', Bool.not_eq_false', Bool.and_eq_true, Bool.and_eq_false_iff, Bool.or_eq_true, Bool.or_eq_false_iff, decide_eq_true_eq, decide_eq_false_iff_not, bne_iff_ne, beq_iff_eq, beq_eq_false_iff_ne, bne_eq_false_iff_eq, ne_eq, Int.not_lt, Int.not_le, Int.ofNat_inj, Bool.not_eq_true, Bool.not_eq_false] at hq))) <;> simp -implicitDefEqProofs (disch := first | omega | (simp only [List.length_append, List.length_cons, List.length_nil, List.length_set] <;> omega) | (repeat' (first | assumption | exact Pre.refl _ | refine Pre.push ?_ rfl | refine Pre.set ?_ ?_ rfl | omega | (simp only [List.length_append, List.length_cons, List.length_nil, List.length_set] <;> omega) | fail)) | fail) only [↓reduceIte, go_sem, Nat.reduceLT, Nat.reduceLeDiff, Nat.reduceEqDiff, Nat.reduceAdd, Nat.reduceMul, reduceCtorEq, Int.reduceToNat, Int.reduceLT, Int.reduceLE, Int.reduceAdd, Int.reduceSub, Int.reduceEq, Int.reduceBEq, Int.reduceBNe, Nat.reduceBEq, Nat.reduceBNe, Int.reduceMul, Int.reduceNeg, *, ht, hp]) | (apply And.intro; omega; try simp -implicitDefEqProofs (disch := first | omega | (simp only [List.length_append, List.length_cons, List.length_nil, List.length_set] <;> omega) | (repeat' (first | assumption | exact Pre.refl _ | refine Pre.push ?_ rfl | refine Pre.set ?_ ?_ rfl | omega | (simp only [List.length_append, List.length_cons, List.length_nil, List.length_set] <;> omega) | fail)) | fail) only [↓reduceIte, go_sem, Nat.reduceLT, Nat.reduceLeDiff, Nat.reduceEqDiff, Nat.reduceAdd, Nat.reduceMul, reduceCtorEq, Int.reduceToNat, Int.reduceLT, Int.reduceLE, Int.reduceAdd, Int.reduceSub, Int.reduceEq, Int.reduceBEq, Int.reduceBNe, Nat.reduceBEq, Nat.reduceBNe, Int.reduceMul, Int.reduceNeg, *, ht, hp]))
  all_goals simp_all
  all_goals (repeat' split)
  all_goals first | omega | (constructor <;> omega) | trivial | fail

theorem keepR_is (e w a p : Int) (h : Good e w p) (ha : 0 ≤ a ∧ a ≤ e) (R : IEnd → Heap → Prop) : WF tab hook 10 [.int .i64 e, .int .i64 w, .int .i64 a, .int .i64 p] H R = R (.ret (.tuple #[.int .i64 (keepE e w a p), .int .i64 (keepW e w a p), .int .i64 0])) H := by
  refine WF_eq (WF_def (tab := tab) (F := 10) rfl rfl ?_) R
  have hb := ep_bound h
  have h0 : Good e 0 p := by unfold Good at *; omega
  have h' := h
  unfold Good at h'
  have hp : ¬ p = 0 := by omega
  have ht : (a * 100).tdiv p = a * 100 / p := Int.tdiv_eq_ediv_of_nonneg (by omega)
  have hd : 0 ≤ a * 100 / p ∧ a * 100 / p ≤ a * 100 := ⟨Int.ediv_nonneg (by omega) (by omega), Int.ediv_le_self _ (by omega)⟩
  have a1 : ¬ a < 0 := by omega
  have a2 : ¬ e < a := by omega
  unfold keepE keepW
  simp -implicitDefEqProofs (disch := first | omega | (simp only [List.length_append, List.length_cons, List.length_nil, List.length_set] <;> omega) | (repeat' (first | assumption | exact Pre.refl _ | refine Pre.push ?_ rfl | refine Pre.set ?_ ?_ rfl | omega | (simp only [List.length_append, List.length_cons, List.length_nil, List.length_set] <;> omega) | fail)) | fail) only [↓reduceIte, go_sem, Nat.reduceLT, Nat.reduceLeDiff, Nat.reduceEqDiff, Nat.reduceAdd, Nat.reduceMul, reduceCtorEq, Int.reduceToNat, Int.reduceLT, Int.reduceLE, Int.reduceAdd, Int.reduceSub, Int.reduceEq, Int.reduceBEq, Int.reduceBNe, Nat.reduceBEq, Nat.reduceBNe, Int.reduceMul, Int.reduceNeg, goodR_is, reqR_is e p h0, h, ht, a1, a2, hp]
  repeat' (first | (((first | refine wguard_split (fun hbr => ?_) (fun hbr => ?_) | refine wcond_split (fun hbr => ?_) (fun hbr => ?_) | refine wguard0_split (fun hbr => ?_) (fun hbr => ?_)) <;> (have hq := hbr; (try simp only [Bool.not_eq_true', Bool.not_eq_false', Bool.and_eq_true, Bool.and_eq_false_iff, Bool.or_eq_true, Bool.or_eq_false_iff, decide_eq_true_eq, decide_eq_false_iff_not, bne_iff_ne, beq_iff_eq, beq_eq_false_iff_ne, bne_eq_false_iff_eq, ne_eq, Int.not_lt, Int.not_le, Int.ofNat_inj, Bool.not_eq_true, Bool.not_eq_false] at hq))) <;> simp -implicitDefEqProofs (disch := first | omega | (simp only [List.length_append, List.length_cons, List.length_nil, List.length_set] <;> omega) | (repeat' (first | assumption | exact Pre.refl _ | refine Pre.push ?_ rfl | refine Pre.set ?_ ?_ rfl | omega | (simp only [List.length_append, List.length_cons, List.length_nil, List.length_set] <;> omega) | fail)) | fail) only [↓reduceIte, go_sem, Nat.reduceLT, Nat.reduceLeDiff, Nat.reduceEqDiff, Nat.reduceAdd, Nat.reduceMul, reduceCtorEq, Int.reduceToNat, Int.reduceLT, Int.reduceLE, Int.reduceAdd, Int.reduceSub, Int.reduceEq, Int.reduceBEq, Int.reduceBNe, Nat.reduceBEq, Nat.reduceBNe, Int.reduceMul, Int.reduceNeg, *, ht, hp]) | (apply And.intro; omega; try simp -implicitDefEqProofs (disch := first | omega | (simp only [List.length_append, List.length_cons, List.length_nil, List.length_set] <;> omega) | (repeat' (first | assumption | exact Pre.refl _ | refine Pre.push ?_ rfl | refine Pre.set ?_ ?_ rfl | omega | (simp only [List.length_append, List.length_cons, List.length_nil, List.length_set] <;> omega) | fail)) | fail) only [↓reduceIte, go_sem, Nat.reduceLT, Nat.reduceLeDiff, Nat.reduceEqDiff, Nat.reduceAdd, Nat.reduceMul, reduceCtorEq, Int.reduceToNat, Int.reduceLT, Int.reduceLE, Int.reduceAdd, Int.reduceSub, Int.reduceEq, Int.reduceBEq, Int.reduceBNe, Nat.reduceBEq, Nat.reduceBNe, Int.reduceMul, Int.reduceNeg, *, ht, hp]))
  all_goals simp_all
  all_goals (repeat' split)
  all_goals first | omega | (constructor <;> omega) | trivial | fail

/-- A settled bidder, and the error. -/
noncomputable def okSettle (l : List Prod) (x : Bidr) (bl : List Int) (p : Int) : Prop := x.ok l bl ∧ 1 ≤ p ∧ p ≤ 100
noncomputable instance (l : List Prod) (x : Bidr) (bl : List Int) (p : Int) : Decidable (okSettle l x bl p) := Classical.propDecidable _

theorem good_of_ok {l : List Prod} {x : Bidr} {bl : List Int} {p : Int} (h : okSettle l x bl p) : Good x.elig x.waiv p := by
  obtain ⟨h1, h2⟩ := h
  unfold Bidr.ok at h1; unfold Good; omega

/-- What Settle answers. -/
def SettleR (l : List Prod) (x : Bidr) (bl : List Int) (p : Int) (H : Heap) (R : IEnd → Heap → Prop) : Prop :=
  ∀ H' v, (okSettle l x bl p → Ow (Lay.int .i64) H H' v bl → R (.ret (.tuple #[.agg (LBid.c ⟨x.id, keepE x.elig x.waiv (unitsOf l bl) p, keepW x.elig x.waiv (unitsOf l bl) p, v⟩).toArray, .int .i64 0])) H') ∧
    (¬ okSettle l x bl p → Pre H H' → R (.ret (.tuple #[.agg (LBid.c ⟨0, 0, 0, .slice none 0 0⟩).toArray, .int .i64 2])) H')

theorem of_is {v0 : Value} {l : List Prod} {x : Bidr} {bl : List Int} (hl : Sl LProd H v0 l) (hb : Sl (Lay.int .i64) H x.blocks bl) (hn : l.length ≤ 1000)
    (hy : x.ok l bl → ∀ H', Pre H H' → R (.ret (.tuple #[.agg #[.int .i64 x.id, .int .i64 x.elig, .int .i64 x.waiv, x.blocks, .int .i64 (unitsOf l bl)], .int .i64 0])) H')
    (hno : ¬ x.ok l bl → ∀ H', Pre H H' → R (.ret (.tuple #[.agg #[.int .i64 0, .int .i64 0, .int .i64 0, .slice none 0 0, .int .i64 0], .int .i64 2])) H') : WF tab hook 18 [v0, .agg (LBid.c x).toArray] H R := by
  refine WF_def (tab := tab) (F := 18) rfl rfl ?_
  simp -implicitDefEqProofs (disch := first | omega | (simp only [List.length_append, List.length_cons, List.length_nil, List.length_set] <;> omega) | (repeat' (first | assumption | exact Pre.refl _ | refine Pre.push ?_ rfl | refine Pre.set ?_ ?_ rfl | omega | (simp only [List.length_append, List.length_cons, List.length_nil, List.length_set] <;> omega) | fail)) | fail) only [↓reduceIte, go_sem, Nat.reduceLT, Nat.reduceLeDiff, Nat.reduceEqDiff, Nat.reduceAdd, Nat.reduceMul, reduceCtorEq, Int.reduceToNat, Int.reduceLT, Int.reduceLE, Int.reduceAdd, Int.reduceSub, Int.reduceEq, Int.reduceBEq, Int.reduceBNe, Nat.reduceBEq, Nat.reduceBNe, Int.reduceMul, Int.reduceNeg, LBid]
  refine vbidders_is (x := x) (bl := bl) (hl.mono (((Pre.refl H).push rfl).push rfl |>.push rfl)) (Sl.new (L := LBid) (l := [_]) rfl) (hb.mono (((Pre.refl H).push rfl).push rfl |>.push rfl)) hn fun H1 p1 => ?_
  have p1' := (((Pre.refl H).push rfl).push rfl |>.push rfl).trans p1
  have lp1 := p1.len; (try simp only [List.length_append, List.length_cons, List.length_nil, List.length_set] at lp1)
  have w4 : H1.wrow (H.length + 1) = some ([.int .i64 0, .int .i64 0, .int .i64 0, .slice none 0 0, .int .i64 0], 0) := wrow_pfx' p1 (by simp [Heap.wrow])
  have r3 : H1.row H.length = some [.int .i64 x.id, .int .i64 x.elig, .int .i64 x.waiv, x.blocks] := row_pfx' p1 (by simp [Heap.row])
  have e4 : (H ++ [IObj.cells [.int .i64 x.id, .int .i64 x.elig, .int .i64 x.waiv, x.blocks] false 0]).length = H.length + 1 := by simp
  by_cases hk : x.ok l bl
  · have hd : DValid l bl := by unfold Bidr.ok at hk; exact hk.2.2.2.2.2.2.1
    simp -implicitDefEqProofs (disch := first | omega | (simp only [List.length_append, List.length_cons, List.length_nil, List.length_set] <;> omega) | (repeat' (first | assumption | exact Pre.refl _ | refine Pre.push ?_ rfl | refine Pre.set ?_ ?_ rfl | omega | (simp only [List.length_append, List.length_cons, List.length_nil, List.length_set] <;> omega) | fail)) | fail) only [↓reduceIte, go_sem, Nat.reduceLT, Nat.reduceLeDiff, Nat.reduceEqDiff, Nat.reduceAdd, Nat.reduceMul, reduceCtorEq, Int.reduceToNat, Int.reduceLT, Int.reduceLE, Int.reduceAdd, Int.reduceSub, Int.reduceEq, Int.reduceBEq, Int.reduceBNe, Nat.reduceBEq, Nat.reduceBNe, Int.reduceMul, Int.reduceNeg, *]
    refine dunits_is (hl.mono p1') (hb.mono p1') hn fun H2 p2 => ?_
    have lp2 := p2.len; (try simp only [List.length_append, List.length_cons, List.length_nil, List.length_set] at lp2)
    have w4' := wrow_pfx' p2 w4
    have r3' := row_pfx' p2 r3
    rw [dUnits_yes hd]
    simp -implicitDefEqProofs (disch := first | omega | (simp only [List.length_append, List.length_cons, List.length_nil, List.length_set] <;> omega) | (repeat' (first | assumption | exact Pre.refl _ | refine Pre.push ?_ rfl | refine Pre.set ?_ ?_ rfl | omega | (simp only [List.length_append, List.length_cons, List.length_nil, List.length_set] <;> omega) | fail)) | fail) only [↓reduceIte, go_sem, Nat.reduceLT, Nat.reduceLeDiff, Nat.reduceEqDiff, Nat.reduceAdd, Nat.reduceMul, reduceCtorEq, Int.reduceToNat, Int.reduceLT, Int.reduceLE, Int.reduceAdd, Int.reduceSub, Int.reduceEq, Int.reduceBEq, Int.reduceBNe, Nat.reduceBEq, Nat.reduceBNe, Int.reduceMul, Int.reduceNeg, *]
    all_goals exact hy hk _ ((p1'.trans p2).set (by omega) rfl)
  · simp -implicitDefEqProofs (disch := first | omega | (simp only [List.length_append, List.length_cons, List.length_nil, List.length_set] <;> omega) | (repeat' (first | assumption | exact Pre.refl _ | refine Pre.push ?_ rfl | refine Pre.set ?_ ?_ rfl | omega | (simp only [List.length_append, List.length_cons, List.length_nil, List.length_set] <;> omega) | fail)) | fail) only [↓reduceIte, go_sem, Nat.reduceLT, Nat.reduceLeDiff, Nat.reduceEqDiff, Nat.reduceAdd, Nat.reduceMul, reduceCtorEq, Int.reduceToNat, Int.reduceLT, Int.reduceLE, Int.reduceAdd, Int.reduceSub, Int.reduceEq, Int.reduceBEq, Int.reduceBNe, Nat.reduceBEq, Nat.reduceBNe, Int.reduceMul, Int.reduceNeg, *]
    all_goals exact hno hk _ (p1'.set (by omega) rfl)

theorem settle_is {v0 : Value} {l : List Prod} {x : Bidr} {bl : List Int} {p : Int} (hl : Sl LProd H v0 l) (hb : Sl (Lay.int .i64) H x.blocks bl) (hn : l.length ≤ 1000)
    (hR : SettleR l x bl p H R) : WF tab hook 11 [v0, .agg (LBid.c x).toArray, .int .i64 p] H R := by
  refine WF_def (tab := tab) (F := 11) rfl rfl ?_
  simp -implicitDefEqProofs (disch := first | omega | (simp only [List.length_append, List.length_cons, List.length_nil, List.length_set] <;> omega) | (repeat' (first | assumption | exact Pre.refl _ | refine Pre.push ?_ rfl | refine Pre.set ?_ ?_ rfl | omega | (simp only [List.length_append, List.length_cons, List.length_nil, List.length_set] <;> omega) | fail)) | fail) only [↓reduceIte, go_sem, Nat.reduceLT, Nat.reduceLeDiff, Nat.reduceEqDiff, Nat.reduceAdd, Nat.reduceMul, reduceCtorEq, Int.reduceToNat, Int.reduceLT, Int.reduceLE, Int.reduceAdd, Int.reduceSub, Int.reduceEq, Int.reduceBEq, Int.reduceBNe, Nat.reduceBEq, Nat.reduceBNe, Int.reduceMul, Int.reduceNeg, LBid]
  have e6 : (H ++ [IObj.cells [.int .i64 x.id, .int .i64 x.elig, .int .i64 x.waiv, x.blocks] false 0]).length = H.length + 1 := by simp
  refine of_is (x := x) (bl := bl) (hl.mono (((Pre.refl H).push rfl).push rfl)) (hb.mono (((Pre.refl H).push rfl).push rfl)) hn (fun hk H1 p1 => ?_) fun hk H1 p1 => ?_
  · have p1' := (((Pre.refl H).push rfl).push rfl).trans p1
    have lp1 := p1.len; (try simp only [List.length_append, List.length_cons, List.length_nil, List.length_set] at lp1)
    have w6 : H1.wrow (H.length + 1) = some ([.int .i64 0, .int .i64 0, .int .i64 0, .slice none 0 0], 0) := wrow_pfx' p1 (by simp [Heap.wrow])
    simp -implicitDefEqProofs (disch := first | omega | (simp only [List.length_append, List.length_cons, List.length_nil, List.length_set] <;> omega) | (repeat' (first | assumption | exact Pre.refl _ | refine Pre.push ?_ rfl | refine Pre.set ?_ ?_ rfl | omega | (simp only [List.length_append, List.length_cons, List.length_nil, List.length_set] <;> omega) | fail)) | fail) only [↓reduceIte, go_sem, Nat.reduceLT, Nat.reduceLeDiff, Nat.reduceEqDiff, Nat.reduceAdd, Nat.reduceMul, reduceCtorEq, Int.reduceToNat, Int.reduceLT, Int.reduceLE, Int.reduceAdd, Int.reduceSub, Int.reduceEq, Int.reduceBEq, Int.reduceBNe, Nat.reduceBEq, Nat.reduceBNe, Int.reduceMul, Int.reduceNeg, *]
    repeat' (first | (((first | refine wguard_split (fun hbr => ?_) (fun hbr => ?_) | refine wcond_split (fun hbr => ?_) (fun hbr => ?_) | refine wguard0_split (fun hbr => ?_) (fun hbr => ?_)) <;> (have hq := hbr; (try simp only [Bool.not_eq_true', Bool.not_eq_false', Bool.and_eq_true, Bool.and_eq_false_iff, Bool.or_eq_true, Bool.or_eq_false_iff, decide_eq_true_eq, decide_eq_false_iff_not, bne_iff_ne, beq_iff_eq, beq_eq_false_iff_ne, bne_eq_false_iff_eq, ne_eq, Int.not_lt, Int.not_le, Int.ofNat_inj, Bool.not_eq_true, Bool.not_eq_false] at hq))) <;> simp -implicitDefEqProofs (disch := first | omega | (simp only [List.length_append, List.length_cons, List.length_nil, List.length_set] <;> omega) | (repeat' (first | assumption | exact Pre.refl _ | refine Pre.push ?_ rfl | refine Pre.set ?_ ?_ rfl | omega | (simp only [List.length_append, List.length_cons, List.length_nil, List.length_set] <;> omega) | fail)) | fail) only [↓reduceIte, go_sem, Nat.reduceLT, Nat.reduceLeDiff, Nat.reduceEqDiff, Nat.reduceAdd, Nat.reduceMul, reduceCtorEq, Int.reduceToNat, Int.reduceLT, Int.reduceLE, Int.reduceAdd, Int.reduceSub, Int.reduceEq, Int.reduceBEq, Int.reduceBNe, Nat.reduceBEq, Nat.reduceBNe, Int.reduceMul, Int.reduceNeg, *, e6, w6]) | (apply And.intro; omega; try simp -implicitDefEqProofs (disch := first | omega | (simp only [List.length_append, List.length_cons, List.length_nil, List.length_set] <;> omega) | (repeat' (first | assumption | exact Pre.refl _ | refine Pre.push ?_ rfl | refine Pre.set ?_ ?_ rfl | omega | (simp only [List.length_append, List.length_cons, List.length_nil, List.length_set] <;> omega) | fail)) | fail) only [↓reduceIte, go_sem, Nat.reduceLT, Nat.reduceLeDiff, Nat.reduceEqDiff, Nat.reduceAdd, Nat.reduceMul, reduceCtorEq, Int.reduceToNat, Int.reduceLT, Int.reduceLE, Int.reduceAdd, Int.reduceSub, Int.reduceEq, Int.reduceBEq, Int.reduceBNe, Nat.reduceBEq, Nat.reduceBNe, Int.reduceMul, Int.reduceNeg, *, e6, w6]))
    · exact (hR _ (.slice none 0 0)).2 (fun h => by have := h.2; omega) ((p1'.set (by omega) rfl).push rfl)
    · exact (hR _ (.slice none 0 0)).2 (fun h => by have := h.2; omega) ((p1'.set (by omega) rfl).push rfl)
    · have hok : okSettle l x bl p := ⟨hk, by omega, by omega⟩
      have hg := good_of_ok hok
      have hd : DValid l bl := by unfold Bidr.ok at hk; exact hk.2.2.2.2.2.2.1
      have hu := units_bound hd hn
      have hue : unitsOf l bl ≤ x.elig := by unfold Bidr.ok at hk; exact hk.2.2.2.2.2.2.2
      have w6' : (H1 ++ [IObj.cells [.int .i64 x.id, .int .i64 x.elig, .int .i64 x.waiv, x.blocks, .int .i64 (unitsOf l bl)] false 0]).wrow (H.length + 1) = some ([.int .i64 0, .int .i64 0, .int .i64 0, .slice none 0 0], 0) := wrow_pfx' ((Pre.refl H1).push rfl) w6
      simp -implicitDefEqProofs (disch := first | omega | (simp only [List.length_append, List.length_cons, List.length_nil, List.length_set] <;> omega) | (repeat' (first | assumption | exact Pre.refl _ | refine Pre.push ?_ rfl | refine Pre.set ?_ ?_ rfl | omega | (simp only [List.length_append, List.length_cons, List.length_nil, List.length_set] <;> omega) | fail)) | fail) only [↓reduceIte, go_sem, Nat.reduceLT, Nat.reduceLeDiff, Nat.reduceEqDiff, Nat.reduceAdd, Nat.reduceMul, reduceCtorEq, Int.reduceToNat, Int.reduceLT, Int.reduceLE, Int.reduceAdd, Int.reduceSub, Int.reduceEq, Int.reduceBEq, Int.reduceBNe, Nat.reduceBEq, Nat.reduceBNe, Int.reduceMul, Int.reduceNeg, *, keep_is _ _ _ _ hg ⟨hu.1, hue⟩]
      refine clone_is (hb.mono (p1'.push rfl)) (by rw [hd.len]; omega) fun H2 v ow => ?_
      have p2 := ow.pre
      have lp2 := p2.len; (try simp only [List.length_append, List.length_cons, List.length_nil, List.length_set] at lp2)
      have w8 : H2.wrow H1.length = some ([.int .i64 x.id, .int .i64 (keepE x.elig x.waiv (unitsOf l bl) p), .int .i64 (keepW x.elig x.waiv (unitsOf l bl) p), x.blocks, .int .i64 (unitsOf l bl)], 0) := wrow_pfx' p2 (by simp [Heap.wrow])
      have w6'' : H2.wrow (H.length + 1) = some ([.int .i64 0, .int .i64 0, .int .i64 0, .slice none 0 0], 0) := wrow_pfx' p2 (wrow_pfx' ((Pre.refl H1).push rfl) w6)
      obtain ⟨oa, cv, hv⟩ := ow.sl.form
      have n1 : H1.length ≠ H.length + 1 := by omega
      simp -implicitDefEqProofs (disch := first | omega | (simp only [List.length_append, List.length_cons, List.length_nil, List.length_set] <;> omega) | (repeat' (first | assumption | exact Pre.refl _ | refine Pre.push ?_ rfl | refine Pre.set ?_ ?_ rfl | omega | (simp only [List.length_append, List.length_cons, List.length_nil, List.length_set] <;> omega) | fail)) | fail) only [↓reduceIte, go_sem, Nat.reduceLT, Nat.reduceLeDiff, Nat.reduceEqDiff, Nat.reduceAdd, Nat.reduceMul, reduceCtorEq, Int.reduceToNat, Int.reduceLT, Int.reduceLE, Int.reduceAdd, Int.reduceSub, Int.reduceEq, Int.reduceBEq, Int.reduceBNe, Nat.reduceBEq, Nat.reduceBNe, Int.reduceMul, Int.reduceNeg, *]
      have ow3 := (ow.other (H0 := H) (H3 := (H2.set H1.length (.cells [.int .i64 x.id, .int .i64 (keepE x.elig x.waiv (unitsOf l bl) p), .int .i64 (keepW x.elig x.waiv (unitsOf l bl) p), .slice oa bl.length cv, .int .i64 (unitsOf l bl)] false 0)).set (H.length + 1) (.cells [.int .i64 x.id, .int .i64 (keepE x.elig x.waiv (unitsOf l bl) p), .int .i64 (keepW x.elig x.waiv (unitsOf l bl) p), .slice oa bl.length cv] false 0))
        (((p1'.push rfl).trans p2).set (by omega) rfl |>.set (by omega) rfl) (by simp; omega) (fun i hi _ => by simp at hi; rw [List.getElem?_set_ne (by omega), List.getElem?_set_ne (by omega)]))
      have := (hR _ _).1 hok ow3
      rw [hv] at this
      exact this
  · have p1' := (((Pre.refl H).push rfl).push rfl).trans p1
    have lp1 := p1.len; (try simp only [List.length_append, List.length_cons, List.length_nil, List.length_set] at lp1)
    have w6 : H1.wrow (H.length + 1) = some ([.int .i64 0, .int .i64 0, .int .i64 0, .slice none 0 0], 0) := wrow_pfx' p1 (by simp [Heap.wrow])
    simp -implicitDefEqProofs (disch := first | omega | (simp only [List.length_append, List.length_cons, List.length_nil, List.length_set] <;> omega) | (repeat' (first | assumption | exact Pre.refl _ | refine Pre.push ?_ rfl | refine Pre.set ?_ ?_ rfl | omega | (simp only [List.length_append, List.length_cons, List.length_nil, List.length_set] <;> omega) | fail)) | fail) only [↓reduceIte, go_sem, Nat.reduceLT, Nat.reduceLeDiff, Nat.reduceEqDiff, Nat.reduceAdd, Nat.reduceMul, reduceCtorEq, Int.reduceToNat, Int.reduceLT, Int.reduceLE, Int.reduceAdd, Int.reduceSub, Int.reduceEq, Int.reduceBEq, Int.reduceBNe, Nat.reduceBEq, Nat.reduceBNe, Int.reduceMul, Int.reduceNeg, *]
    repeat' (first | (((first | refine wguard_split (fun hbr => ?_) (fun hbr => ?_) | refine wcond_split (fun hbr => ?_) (fun hbr => ?_) | refine wguard0_split (fun hbr => ?_) (fun hbr => ?_)) <;> (have hq := hbr; (try simp only [Bool.not_eq_true', Bool.not_eq_false', Bool.and_eq_true, Bool.and_eq_false_iff, Bool.or_eq_true, Bool.or_eq_false_iff, decide_eq_true_eq, decide_eq_false_iff_not, bne_iff_ne, beq_iff_eq, beq_eq_false_iff_ne, bne_eq_false_iff_eq, ne_eq, Int.not_lt, Int.not_le, Int.ofNat_inj, Bool.not_eq_true, Bool.not_eq_false] at hq))) <;> simp -implicitDefEqProofs (disch := first | omega | (simp only [List.length_append, List.length_cons, List.length_nil, List.length_set] <;> omega) | (repeat' (first | assumption | exact Pre.refl _ | refine Pre.push ?_ rfl | refine Pre.set ?_ ?_ rfl | omega | (simp only [List.length_append, List.length_cons, List.length_nil, List.length_set] <;> omega) | fail)) | fail) only [↓reduceIte, go_sem, Nat.reduceLT, Nat.reduceLeDiff, Nat.reduceEqDiff, Nat.reduceAdd, Nat.reduceMul, reduceCtorEq, Int.reduceToNat, Int.reduceLT, Int.reduceLE, Int.reduceAdd, Int.reduceSub, Int.reduceEq, Int.reduceBEq, Int.reduceBNe, Nat.reduceBEq, Nat.reduceBNe, Int.reduceMul, Int.reduceNeg, *]) | (apply And.intro; omega; try simp -implicitDefEqProofs (disch := first | omega | (simp only [List.length_append, List.length_cons, List.length_nil, List.length_set] <;> omega) | (repeat' (first | assumption | exact Pre.refl _ | refine Pre.push ?_ rfl | refine Pre.set ?_ ?_ rfl | omega | (simp only [List.length_append, List.length_cons, List.length_nil, List.length_set] <;> omega) | fail)) | fail) only [↓reduceIte, go_sem, Nat.reduceLT, Nat.reduceLeDiff, Nat.reduceEqDiff, Nat.reduceAdd, Nat.reduceMul, reduceCtorEq, Int.reduceToNat, Int.reduceLT, Int.reduceLE, Int.reduceAdd, Int.reduceSub, Int.reduceEq, Int.reduceBEq, Int.reduceBNe, Nat.reduceBEq, Nat.reduceBNe, Int.reduceMul, Int.reduceNeg, *]))
    all_goals exact (hR _ (.slice none 0 0)).2 (fun h => hk h.1) ((p1'.set (by omega) rfl).push rfl)


theorem rsame_form : LBid.c ⟨0, 0, 0, .slice none 0 0⟩ = [.int .i64 0, .int .i64 0, .int .i64 0, .slice none 0 0] := rfl

theorem alone_is {v0 : Value} {l : List Prod} {x : Bidr} {bl : List Int} (hl : Sl LProd H v0 l) (hb : Sl (Lay.int .i64) H x.blocks bl) (hn : l.length ≤ 1000)
    (hR : ∀ H', Pre H H' → R (.ret (.bool (decide (x.ok l bl)))) H') : WF tab hook 20 [v0, .agg (LBid.c x).toArray] H R := by
  refine WF_def (tab := tab) (F := 20) rfl rfl ?_
  simp -implicitDefEqProofs (disch := first | omega | (simp only [List.length_append, List.length_cons, List.length_nil, List.length_set] <;> omega) | (repeat' (first | assumption | exact Pre.refl _ | refine Pre.push ?_ rfl | refine Pre.set ?_ ?_ rfl | omega | (simp only [List.length_append, List.length_cons, List.length_nil, List.length_set] <;> omega) | fail)) | fail) only [↓reduceIte, go_sem, Nat.reduceLT, Nat.reduceLeDiff, Nat.reduceEqDiff, Nat.reduceAdd, Nat.reduceMul, reduceCtorEq, Int.reduceToNat, Int.reduceLT, Int.reduceLE, Int.reduceAdd, Int.reduceSub, Int.reduceEq, Int.reduceBEq, Int.reduceBNe, Nat.reduceBEq, Nat.reduceBNe, Int.reduceMul, Int.reduceNeg, LBid]
  refine rbidders_is (x := x) (bl := bl) (hl.mono (((Pre.refl H).push rfl).push rfl)) (Sl.new (L := LBid) (l := [_]) rfl) (hb.mono (((Pre.refl H).push rfl).push rfl)) hn fun H1 p1 => ?_
  simp -implicitDefEqProofs (disch := first | omega | (simp only [List.length_append, List.length_cons, List.length_nil, List.length_set] <;> omega) | (repeat' (first | assumption | exact Pre.refl _ | refine Pre.push ?_ rfl | refine Pre.set ?_ ?_ rfl | omega | (simp only [List.length_append, List.length_cons, List.length_nil, List.length_set] <;> omega) | fail)) | fail) only [↓reduceIte, go_sem, Nat.reduceLT, Nat.reduceLeDiff, Nat.reduceEqDiff, Nat.reduceAdd, Nat.reduceMul, reduceCtorEq, Int.reduceToNat, Int.reduceLT, Int.reduceLE, Int.reduceAdd, Int.reduceSub, Int.reduceEq, Int.reduceBEq, Int.reduceBNe, Nat.reduceBEq, Nat.reduceBNe, Int.reduceMul, Int.reduceNeg, *]
  exact hR _ ((((Pre.refl H).push rfl).push rfl).trans p1)

theorem copyb_is {v1 : Value} {x : Bidr} {bl : List Int} (hx : Sl LBid H v1 [x]) (hb : Sl (Lay.int .i64) H x.blocks bl) (hn : bl.length ≤ 1000)
    (hR : ∀ H' v w, Sl LBid H' v [⟨x.id, x.elig, x.waiv, w⟩] → Ow (Lay.int .i64) H H' w bl → R (.ret v) H') : WF tab hook 22 [v1] H R := by
  refine WF_def (tab := tab) (F := 22) rfl rfl ?_
  obtain ⟨b1, o1, c1, row1, rfl, h1⟩ := hx.into (by simp)
  have f1 := inBid1 h1
  have r1 := h1.hrow
  have lt1 := h1.lt
  have he := (hb.mono ((Pre.refl H).push (x := .cells [.int .i64 x.id, .int .i64 x.elig, .int .i64 x.waiv, x.blocks] false 0) rfl)).elems
  have he' : elems (H ++ [.cells [.int .i64 x.id, .int .i64 x.elig, .int .i64 x.waiv, x.blocks] false 0]) 1 x.blocks = some (bl.length, bl.flatMap (Lay.int .i64).c) := he
  obtain ⟨w, H1, e1, ow, hold⟩ := (Ow.nil ((Pre.refl (H ++ [.cells [.int .i64 x.id, .int .i64 x.elig, .int .i64 x.waiv, x.blocks] false 0])))).app (L := Lay.int .i64) (l2 := bl) (n := bl.length) (bytes := 8) (xs := bl.flatMap (Lay.int .i64).c) rfl rfl (by simp; omega) (by simp; omega)
  have e1' : iapp 1 8 (.slice none 0 0) bl.length (bl.flatMap (Lay.int .i64).c) (H ++ [.cells [.int .i64 x.id, .int .i64 x.elig, .int .i64 x.waiv, x.blocks] false 0]) = some (w, H1) := e1
  have p1 := ow.pre
  have lp1 := p1.len; (try simp only [List.length_append, List.length_cons, List.length_nil, List.length_set] at lp1)
  obtain ⟨oa, cv, hv⟩ := ow.sl.form
  simp only [List.nil_append] at hv ow
  have w5 : H1.wrow H.length = some ([.int .i64 x.id, .int .i64 x.elig, .int .i64 x.waiv, x.blocks], 0) := wrow_pfx' p1 (by simp [Heap.wrow])
  subst hv
  have q0 := ((Pre.refl H).push rfl).trans p1
  have q1 : Pre H (H1.set H.length (.cells [.int .i64 x.id, .int .i64 x.elig, .int .i64 x.waiv, .slice oa bl.length cv] false 0)) := q0.set (Nat.le_refl _) rfl
  have ob : Ow LBid H _ (.slice none 0 0) [] := Ow.nil (q1.push (x := .cells [.int .i64 x.id, .int .i64 x.elig, .int .i64 x.waiv, .slice oa bl.length cv] false 0) rfl)
  obtain ⟨v2, H2, e2, ow2, hold2⟩ := ob.app (l2 := [⟨x.id, x.elig, x.waiv, .slice oa bl.length cv⟩]) (n := 1) (bytes := 48) (xs := [.int .i64 x.id, .int .i64 x.elig, .int .i64 x.waiv, .slice oa bl.length cv]) rfl rfl (by simp) (by simp)
  have e2' : iapp 4 48 (.slice none 0 0) 1 [.int .i64 x.id, .int .i64 x.elig, .int .i64 x.waiv, .slice oa bl.length cv] (H1.set H.length (.cells [.int .i64 x.id, .int .i64 x.elig, .int .i64 x.waiv, .slice oa bl.length cv] false 0) ++ [.cells [.int .i64 x.id, .int .i64 x.elig, .int .i64 x.waiv, .slice oa bl.length cv] false 0]) = some (v2, H2) := e2
  have p2 := ow2.pre
  simp -implicitDefEqProofs (disch := first | omega | (simp only [List.length_append, List.length_cons, List.length_nil, List.length_set] <;> omega) | (repeat' (first | assumption | exact Pre.refl _ | refine Pre.push ?_ rfl | refine Pre.set ?_ ?_ rfl | omega | (simp only [List.length_append, List.length_cons, List.length_nil, List.length_set] <;> omega) | fail)) | fail) only [↓reduceIte, go_sem, Nat.reduceLT, Nat.reduceLeDiff, Nat.reduceEqDiff, Nat.reduceAdd, Nat.reduceMul, reduceCtorEq, Int.reduceToNat, Int.reduceLT, Int.reduceLE, Int.reduceAdd, Int.reduceSub, Int.reduceEq, Int.reduceBEq, Int.reduceBNe, Nat.reduceBEq, Nat.reduceBNe, Int.reduceMul, Int.reduceNeg, he', e1']
  (refine wp_unroll ?_; simp -implicitDefEqProofs (disch := first | omega | (simp only [List.length_append, List.length_cons, List.length_nil, List.length_set] <;> omega) | (repeat' (first | assumption | exact Pre.refl _ | refine Pre.push ?_ rfl | refine Pre.set ?_ ?_ rfl | omega | (simp only [List.length_append, List.length_cons, List.length_nil, List.length_set] <;> omega) | fail)) | fail) only [↓reduceIte, go_sem, Nat.reduceLT, Nat.reduceLeDiff, Nat.reduceEqDiff, Nat.reduceAdd, Nat.reduceMul, reduceCtorEq, Int.reduceToNat, Int.reduceLT, Int.reduceLE, Int.reduceAdd, Int.reduceSub, Int.reduceEq, Int.reduceBEq, Int.reduceBNe, Nat.reduceBEq, Nat.reduceBNe, Int.reduceMul, Int.reduceNeg, *])
  (refine wp_unroll ?_; simp -implicitDefEqProofs (disch := first | omega | (simp only [List.length_append, List.length_cons, List.length_nil, List.length_set] <;> omega) | (repeat' (first | assumption | exact Pre.refl _ | refine Pre.push ?_ rfl | refine Pre.set ?_ ?_ rfl | omega | (simp only [List.length_append, List.length_cons, List.length_nil, List.length_set] <;> omega) | fail)) | fail) only [↓reduceIte, go_sem, Nat.reduceLT, Nat.reduceLeDiff, Nat.reduceEqDiff, Nat.reduceAdd, Nat.reduceMul, reduceCtorEq, Int.reduceToNat, Int.reduceLT, Int.reduceLE, Int.reduceAdd, Int.reduceSub, Int.reduceEq, Int.reduceBEq, Int.reduceBNe, Nat.reduceBEq, Nat.reduceBNe, Int.reduceMul, Int.reduceNeg, *])
  refine hR _ _ _ ow2.sl (ow.other p2 (by simp) fun i hi hi2 => ?_)
  simp only [List.length_append, List.length_cons, List.length_nil] at hi
  rw [hold2 i (by simp; omega) (fun k c h => nomatch h), List.getElem?_append_left (by simpa using hi2), List.getElem?_set_ne (by omega)]

end Go.Proofs.Ytmjmnjfopgabjaa.Tab
