/- Demands: the units of a demand, for the program and the reference. A lemma for the laws. -/
import Derived.Test.YtmjmnjfopgabjaaDem3
namespace Go.Proofs.Ytmjmnjfopgabjaa.Tab
open Go Go.IM Go.RowKit
set_option maxRecDepth 100000
set_option linter.unusedSimpArgs false
set_option linter.unusedVariables false
set_option maxHeartbeats 4000000

variable {hook : CallFn} {R : IEnd → Heap → Prop} {H : Heap}

def unitsOf (l : List Prod) (bl : List Int) : Int := sumTo (fun j => bl.getD j 0 * (lUnits l).getD j 0) bl.length
noncomputable def dUnits (l : List Prod) (bl : List Int) : Value := if DValid l bl then .tuple #[.int .i64 (unitsOf l bl), .int .i64 0] else .tuple #[.int .i64 0, .int .i64 2]

theorem lUnits_get {l : List Prod} {j : Nat} (h : j < l.length) : (lUnits l).getD j 0 = l[j].units := by simp [lUnits, h]

theorem du_bound {l : List Prod} {bl : List Int} (h : DValid l bl) (j : Nat) (hj : j < bl.length) (hj' : j < l.length) : 0 ≤ bl[j] * l[j].units ∧ bl[j] * l[j].units ≤ 1200000 := by
  have h1 := h.each j hj hj'
  have h2 := h.cat.ok j hj'
  unfold Prod.ok at h2
  have h3 : bl[j] ≤ 12 := by omega
  constructor
  · exact Int.mul_nonneg h1.1 (by omega)
  · calc bl[j] * l[j].units ≤ 12 * l[j].units := Int.mul_le_mul_of_nonneg_right h3 (by omega)
      _ ≤ 1200000 := by omega

theorem units_bound {l : List Prod} {bl : List Int} (h : DValid l bl) (hn : l.length ≤ 1000) : 0 ≤ unitsOf l bl ∧ unitsOf l bl ≤ 1200000000 := by
  have := sumTo_le (f := fun j => bl.getD j 0 * (lUnits l).getD j 0) (B := 1200000) bl.length fun j hj => by
    have hj' : j < l.length := by rw [← h.len]; exact hj
    have e : bl.getD j 0 = bl[j] := by simp [hj]
    simp only [e, lUnits_get hj']
    exact du_bound h j hj hj'
  have e := h.len
  unfold unitsOf
  omega

theorem units1_is {b : Nat} {v : Value} {l : List Prod} (hb : H.row b = some [v]) (hl : Sl LProd H v l) {j : Nat} (hj : j < l.length) (R : IEnd → Heap → Prop) :
    WF tab hook 38 [.int .i64 j, .pointer (some ⟨b, 0, none⟩)] H R = R (.ret (.int .i64 ((lUnits l).getD j 0))) H := by
  refine WF_eq (WF_def (tab := tab) (F := 38) rfl rfl ?_) R
  obtain ⟨b1, o1, c1, row1, rfl, h1⟩ := hl.into (by omega)
  have r1 := h1.hrow
  have f1 := inProd h1
  rw [lUnits_get hj]
  simp -implicitDefEqProofs (disch := first | omega | (simp only [List.length_append, List.length_cons, List.length_nil, List.length_set] <;> omega) | (repeat' (first | assumption | exact Pre.refl _ | refine Pre.push ?_ rfl | refine Pre.set ?_ ?_ rfl | omega | (simp only [List.length_append, List.length_cons, List.length_nil, List.length_set] <;> omega) | fail)) | fail) only [↓reduceIte, go_sem, Nat.reduceLT, Nat.reduceLeDiff, Nat.reduceEqDiff, Nat.reduceAdd, Nat.reduceMul, reduceCtorEq, Int.reduceToNat, Int.reduceLT, Int.reduceLE, Int.reduceAdd, Int.reduceSub, Int.reduceEq, Int.reduceBEq, Int.reduceBNe, Nat.reduceBEq, Nat.reduceBNe, Int.reduceMul, Int.reduceNeg, *]

theorem dunits_is {v0 v1 : Value} {l : List Prod} {bl : List Int} (hl : Sl LProd H v0 l) (hb : Sl (Lay.int .i64) H v1 bl) (hn : l.length ≤ 1000)
    (hR : ∀ H', Pre H H' → R (.ret (dUnits l bl)) H') : WF tab hook 27 [v0, v1] H R := by
  refine WF_def (tab := tab) (F := 27) rfl rfl ?_
  obtain ⟨oa0, c0, rfl⟩ := hl.form
  simp -implicitDefEqProofs (disch := first | omega | (simp only [List.length_append, List.length_cons, List.length_nil, List.length_set] <;> omega) | (repeat' (first | assumption | exact Pre.refl _ | refine Pre.push ?_ rfl | refine Pre.set ?_ ?_ rfl | omega | (simp only [List.length_append, List.length_cons, List.length_nil, List.length_set] <;> omega) | fail)) | fail) only [↓reduceIte, go_sem, Nat.reduceLT, Nat.reduceLeDiff, Nat.reduceEqDiff, Nat.reduceAdd, Nat.reduceMul, reduceCtorEq, Int.reduceToNat, Int.reduceLT, Int.reduceLE, Int.reduceAdd, Int.reduceSub, Int.reduceEq, Int.reduceBEq, Int.reduceBNe, Nat.reduceBEq, Nat.reduceBNe, Int.reduceMul, Int.reduceNeg]
  refine dvalid_is (hl.mono ((Pre.refl H).push rfl)) (hb.mono ((Pre.refl H).push rfl)) (by omega) fun H1 p1 => ?_
  have p1' := ((Pre.refl H).push rfl).trans p1
  simp -implicitDefEqProofs (disch := first | omega | (simp only [List.length_append, List.length_cons, List.length_nil, List.length_set] <;> omega) | (repeat' (first | assumption | exact Pre.refl _ | refine Pre.push ?_ rfl | refine Pre.set ?_ ?_ rfl | omega | (simp only [List.length_append, List.length_cons, List.length_nil, List.length_set] <;> omega) | fail)) | fail) only [↓reduceIte, go_sem, Nat.reduceLT, Nat.reduceLeDiff, Nat.reduceEqDiff, Nat.reduceAdd, Nat.reduceMul, reduceCtorEq, Int.reduceToNat, Int.reduceLT, Int.reduceLE, Int.reduceAdd, Int.reduceSub, Int.reduceEq, Int.reduceBEq, Int.reduceBNe, Nat.reduceBEq, Nat.reduceBNe, Int.reduceMul, Int.reduceNeg, *]
  ((first | refine wguard_split (fun hbr => ?_) (fun hbr => ?_) | refine wcond_split (fun hbr => ?_) (fun hbr => ?_) | refine wguard0_split (fun hbr => ?_) (fun hbr => ?_)) <;> (have hq := hbr; (try simp only [Bool.not_eq_true', Bool.not_eq_false', Bool.and_eq_true, Bool.and_eq_false_iff, Bool.or_eq_true, Bool.or_eq_false_iff, decide_eq_true_eq, decide_eq_false_iff_not, bne_iff_ne, beq_iff_eq, beq_eq_false_iff_ne, bne_eq_false_iff_eq, ne_eq, Int.not_lt, Int.not_le, Int.ofNat_inj, Bool.not_eq_true, Bool.not_eq_false] at hq)))
  · simp -implicitDefEqProofs (disch := first | omega | (simp only [List.length_append, List.length_cons, List.length_nil, List.length_set] <;> omega) | (repeat' (first | assumption | exact Pre.refl _ | refine Pre.push ?_ rfl | refine Pre.set ?_ ?_ rfl | omega | (simp only [List.length_append, List.length_cons, List.length_nil, List.length_set] <;> omega) | fail)) | fail) only [↓reduceIte, go_sem, Nat.reduceLT, Nat.reduceLeDiff, Nat.reduceEqDiff, Nat.reduceAdd, Nat.reduceMul, reduceCtorEq, Int.reduceToNat, Int.reduceLT, Int.reduceLE, Int.reduceAdd, Int.reduceSub, Int.reduceEq, Int.reduceBEq, Int.reduceBNe, Nat.reduceBEq, Nat.reduceBNe, Int.reduceMul, Int.reduceNeg, *]
    have := hR H1 p1'
    unfold dUnits at this
    rw [if_neg hq] at this
    exact this
  · simp -implicitDefEqProofs (disch := first | omega | (simp only [List.length_append, List.length_cons, List.length_nil, List.length_set] <;> omega) | (repeat' (first | assumption | exact Pre.refl _ | refine Pre.push ?_ rfl | refine Pre.set ?_ ?_ rfl | omega | (simp only [List.length_append, List.length_cons, List.length_nil, List.length_set] <;> omega) | fail)) | fail) only [↓reduceIte, go_sem, Nat.reduceLT, Nat.reduceLeDiff, Nat.reduceEqDiff, Nat.reduceAdd, Nat.reduceMul, reduceCtorEq, Int.reduceToNat, Int.reduceLT, Int.reduceLE, Int.reduceAdd, Int.reduceSub, Int.reduceEq, Int.reduceBEq, Int.reduceBNe, Nat.reduceBEq, Nat.reduceBNe, Int.reduceMul, Int.reduceNeg, *]
    have hrow : H1.row H.length = some [.slice oa0 l.length c0] := row_pfx' p1 row_new
    refine sum_is (hb.mono p1') (f := fun j => (lUnits l).getD j 0) (B := 0) (fun H' j hp hj R => ?_) (fun j hj => ?_) (by rw [hq.len]; exact hn) ?_
    · exact units1_is (row_pfx' hp hrow) (hl.mono (p1'.trans hp)) (by rw [← hq.len]; exact hj) R
    · have hj' : j < l.length := by rw [← hq.len]; exact hj
      have := du_bound hq j hj hj'
      simp only [lUnits_get hj']
      omega
    · have := hR H1 p1'
      unfold dUnits at this
      rw [if_pos hq] at this
      simp -implicitDefEqProofs (disch := first | omega | (simp only [List.length_append, List.length_cons, List.length_nil, List.length_set] <;> omega) | (repeat' (first | assumption | exact Pre.refl _ | refine Pre.push ?_ rfl | refine Pre.set ?_ ?_ rfl | omega | (simp only [List.length_append, List.length_cons, List.length_nil, List.length_set] <;> omega) | fail)) | fail) only [↓reduceIte, go_sem, Nat.reduceLT, Nat.reduceLeDiff, Nat.reduceEqDiff, Nat.reduceAdd, Nat.reduceMul, reduceCtorEq, Int.reduceToNat, Int.reduceLT, Int.reduceLE, Int.reduceAdd, Int.reduceSub, Int.reduceEq, Int.reduceBEq, Int.reduceBNe, Nat.reduceBEq, Nat.reduceBNe, Int.reduceMul, Int.reduceNeg, *]
      all_goals exact this

theorem runits_is {v0 v1 : Value} {l : List Prod} {bl : List Int} (hl : Sl LProd H v0 l) (hb : Sl (Lay.int .i64) H v1 bl) (hn : l.length ≤ 1000)
    (hR : ∀ H', Pre H H' → R (.ret (dUnits l bl)) H') : WF tab hook 21 [v0, v1] H R := by
  refine WF_def (tab := tab) (F := 21) rfl rfl ?_
  simp -implicitDefEqProofs (disch := first | omega | (simp only [List.length_append, List.length_cons, List.length_nil, List.length_set] <;> omega) | (repeat' (first | assumption | exact Pre.refl _ | refine Pre.push ?_ rfl | refine Pre.set ?_ ?_ rfl | omega | (simp only [List.length_append, List.length_cons, List.length_nil, List.length_set] <;> omega) | fail)) | fail) only [↓reduceIte, go_sem, Nat.reduceLT, Nat.reduceLeDiff, Nat.reduceEqDiff, Nat.reduceAdd, Nat.reduceMul, reduceCtorEq, Int.reduceToNat, Int.reduceLT, Int.reduceLE, Int.reduceAdd, Int.reduceSub, Int.reduceEq, Int.reduceBEq, Int.reduceBNe, Nat.reduceBEq, Nat.reduceBNe, Int.reduceMul, Int.reduceNeg]
  refine rdvalid_is hl hb (by omega) fun H1 p1 => ?_
  simp -implicitDefEqProofs (disch := first | omega | (simp only [List.length_append, List.length_cons, List.length_nil, List.length_set] <;> omega) | (repeat' (first | assumption | exact Pre.refl _ | refine Pre.push ?_ rfl | refine Pre.set ?_ ?_ rfl | omega | (simp only [List.length_append, List.length_cons, List.length_nil, List.length_set] <;> omega) | fail)) | fail) only [↓reduceIte, go_sem, Nat.reduceLT, Nat.reduceLeDiff, Nat.reduceEqDiff, Nat.reduceAdd, Nat.reduceMul, reduceCtorEq, Int.reduceToNat, Int.reduceLT, Int.reduceLE, Int.reduceAdd, Int.reduceSub, Int.reduceEq, Int.reduceBEq, Int.reduceBNe, Nat.reduceBEq, Nat.reduceBNe, Int.reduceMul, Int.reduceNeg, *]
  ((first | refine wguard_split (fun hbr => ?_) (fun hbr => ?_) | refine wcond_split (fun hbr => ?_) (fun hbr => ?_) | refine wguard0_split (fun hbr => ?_) (fun hbr => ?_)) <;> (have hq := hbr; (try simp only [Bool.not_eq_true', Bool.not_eq_false', Bool.and_eq_true, Bool.and_eq_false_iff, Bool.or_eq_true, Bool.or_eq_false_iff, decide_eq_true_eq, decide_eq_false_iff_not, bne_iff_ne, beq_iff_eq, beq_eq_false_iff_ne, bne_eq_false_iff_eq, ne_eq, Int.not_lt, Int.not_le, Int.ofNat_inj, Bool.not_eq_true, Bool.not_eq_false] at hq)))
  · simp -implicitDefEqProofs (disch := first | omega | (simp only [List.length_append, List.length_cons, List.length_nil, List.length_set] <;> omega) | (repeat' (first | assumption | exact Pre.refl _ | refine Pre.push ?_ rfl | refine Pre.set ?_ ?_ rfl | omega | (simp only [List.length_append, List.length_cons, List.length_nil, List.length_set] <;> omega) | fail)) | fail) only [↓reduceIte, go_sem, Nat.reduceLT, Nat.reduceLeDiff, Nat.reduceEqDiff, Nat.reduceAdd, Nat.reduceMul, reduceCtorEq, Int.reduceToNat, Int.reduceLT, Int.reduceLE, Int.reduceAdd, Int.reduceSub, Int.reduceEq, Int.reduceBEq, Int.reduceBNe, Nat.reduceBEq, Nat.reduceBNe, Int.reduceMul, Int.reduceNeg, *]
    have := hR H1 p1
    unfold dUnits at this
    rw [if_neg hq] at this
    exact this
  · simp -implicitDefEqProofs (disch := first | omega | (simp only [List.length_append, List.length_cons, List.length_nil, List.length_set] <;> omega) | (repeat' (first | assumption | exact Pre.refl _ | refine Pre.push ?_ rfl | refine Pre.set ?_ ?_ rfl | omega | (simp only [List.length_append, List.length_cons, List.length_nil, List.length_set] <;> omega) | fail)) | fail) only [↓reduceIte, go_sem, Nat.reduceLT, Nat.reduceLeDiff, Nat.reduceEqDiff, Nat.reduceAdd, Nat.reduceMul, reduceCtorEq, Int.reduceToNat, Int.reduceLT, Int.reduceLE, Int.reduceAdd, Int.reduceSub, Int.reduceEq, Int.reduceBEq, Int.reduceBNe, Nat.reduceBEq, Nat.reduceBNe, Int.reduceMul, Int.reduceNeg, *]
    refine weights_is (hl.mono p1) hn fun H2 v ow => ?_
    simp -implicitDefEqProofs (disch := first | omega | (simp only [List.length_append, List.length_cons, List.length_nil, List.length_set] <;> omega) | (repeat' (first | assumption | exact Pre.refl _ | refine Pre.push ?_ rfl | refine Pre.set ?_ ?_ rfl | omega | (simp only [List.length_append, List.length_cons, List.length_nil, List.length_set] <;> omega) | fail)) | fail) only [↓reduceIte, go_sem, Nat.reduceLT, Nat.reduceLeDiff, Nat.reduceEqDiff, Nat.reduceAdd, Nat.reduceMul, reduceCtorEq, Int.reduceToNat, Int.reduceLT, Int.reduceLE, Int.reduceAdd, Int.reduceSub, Int.reduceEq, Int.reduceBEq, Int.reduceBNe, Nat.reduceBEq, Nat.reduceBNe, Int.reduceMul, Int.reduceNeg, *]
    have hll : (lUnits l).length = bl.length := by simp [lUnits, hq.len]
    refine rsum_is ow.sl (hb.mono (p1.trans ow.pre)) hll (fun j hj hj' => ?_) (by rw [hq.len]; exact hn) ?_
    · have hj2 : j < l.length := by rw [← hq.len]; exact hj
      have := du_bound hq j hj hj2
      have e : (lUnits l)[j] = l[j].units := by simp [lUnits]
      rw [e, Int.mul_comm]; omega
    · have := hR H2 (p1.trans ow.pre)
      unfold dUnits at this
      rw [if_pos hq] at this
      have e : unitsOf l bl = sumTo (fun j => (lUnits l).getD j 0 * bl.getD j 0) bl.length := sumTo_congr _ fun j _ => Int.mul_comm _ _
      rw [e] at this
      simp -implicitDefEqProofs (disch := first | omega | (simp only [List.length_append, List.length_cons, List.length_nil, List.length_set] <;> omega) | (repeat' (first | assumption | exact Pre.refl _ | refine Pre.push ?_ rfl | refine Pre.set ?_ ?_ rfl | omega | (simp only [List.length_append, List.length_cons, List.length_nil, List.length_set] <;> omega) | fail)) | fail) only [↓reduceIte, go_sem, Nat.reduceLT, Nat.reduceLeDiff, Nat.reduceEqDiff, Nat.reduceAdd, Nat.reduceMul, reduceCtorEq, Int.reduceToNat, Int.reduceLT, Int.reduceLE, Int.reduceAdd, Int.reduceSub, Int.reduceEq, Int.reduceBEq, Int.reduceBNe, Nat.reduceBEq, Nat.reduceBNe, Int.reduceMul, Int.reduceNeg, *]
      all_goals exact this

/-- A bidder, with the slice of its blocks. -/
structure Bidr where
  id : Int
  elig : Int
  waiv : Int
  blocks : Value
def LBid : Lay Bidr := ⟨4, fun p => [.int .i64 p.id, .int .i64 p.elig, .int .i64 p.waiv, p.blocks], fun _ => rfl, by decide⟩
theorem inBid {b o : Nat} {l : List Bidr} {row : List Value} (h : SlIn LBid H b o l row) :
    (∀ (j : Nat) (hj : j < l.length), row[o + j * 4]? = some (.int .i64 l[j].id)) ∧ (∀ (j : Nat) (hj : j < l.length), row[o + j * 4 + 1]? = some (.int .i64 l[j].elig)) ∧
    (∀ (j : Nat) (hj : j < l.length), row[o + j * 4 + 2]? = some (.int .i64 l[j].waiv)) ∧ (∀ (j : Nat) (hj : j < l.length), row[o + j * 4 + 3]? = some l[j].blocks) ∧
    (∀ (j : Nat) (hj : j < l.length), cut row (o + j * 4) 4 = some [.int .i64 l[j].id, .int .i64 l[j].elig, .int .i64 l[j].waiv, l[j].blocks]) :=
  ⟨fun j hj => h.get j 0 hj (by decide), fun j hj => h.get j 1 hj (by decide), fun j hj => h.get j 2 hj (by decide), fun j hj => h.get j 3 hj (by decide), fun j hj => h.cut j hj⟩

/-- One bidder in a slice: what lies where. -/
theorem inBid1 {b o : Nat} {x : Bidr} {row : List Value} (h : SlIn LBid H b o [x] row) :
    row[o]? = some (.int .i64 x.id) ∧ row[o + 1]? = some (.int .i64 x.elig) ∧ row[o + 2]? = some (.int .i64 x.waiv) ∧ row[o + 3]? = some x.blocks ∧ cut row o 4 = some [.int .i64 x.id, .int .i64 x.elig, .int .i64 x.waiv, x.blocks] := by
  have := inBid h
  obtain ⟨h1, h2, h3, h4, h5⟩ := this
  have a := h1 0 (by simp); have b := h2 0 (by simp); have c := h3 0 (by simp); have d := h4 0 (by simp); have e := h5 0 (by simp)
  simp only [Nat.zero_mul, Nat.add_zero, List.getElem_cons_zero] at a b c d e
  exact ⟨a, b, c, d, e⟩

def Bidr.ok (l : List Prod) (x : Bidr) (bl : List Int) : Prop := 0 ≤ x.id ∧ x.id ≤ 31 ∧ 0 ≤ x.elig ∧ x.elig ≤ 76800000 ∧ 0 ≤ x.waiv ∧ x.waiv ≤ 3 ∧ DValid l bl ∧ unitsOf l bl ≤ x.elig
noncomputable instance (l : List Prod) (x : Bidr) (bl : List Int) : Decidable (x.ok l bl) := Classical.propDecidable _

theorem dUnits_yes {l : List Prod} {bl : List Int} (h : DValid l bl) : dUnits l bl = .tuple #[.int .i64 (unitsOf l bl), .int .i64 0] := if_pos h
theorem dUnits_no {l : List Prod} {bl : List Int} (h : ¬ DValid l bl) : dUnits l bl = .tuple #[.int .i64 0, .int .i64 2] := if_neg h

theorem dvalidb_is {v0 : Value} {l : List Prod} {x : Bidr} {bl : List Int} (hl : Sl LProd H v0 l) (hb : Sl (Lay.int .i64) H x.blocks bl) (hn : l.length ≤ 1000)
    (hR : ∀ H', Pre H H' → ∀ b, (b = true ↔ DValid l bl ∧ unitsOf l bl ≤ x.elig ∧ x.elig ≤ 76800000 ∧ 0 ≤ x.waiv ∧ x.waiv ≤ 3) → R (.ret (.bool b)) H') : WF tab hook 34 [v0, .agg (LBid.c x).toArray] H R := by
  refine WF_def (tab := tab) (F := 34) rfl rfl ?_
  simp -implicitDefEqProofs (disch := first | omega | (simp only [List.length_append, List.length_cons, List.length_nil, List.length_set] <;> omega) | (repeat' (first | assumption | exact Pre.refl _ | refine Pre.push ?_ rfl | refine Pre.set ?_ ?_ rfl | omega | (simp only [List.length_append, List.length_cons, List.length_nil, List.length_set] <;> omega) | fail)) | fail) only [↓reduceIte, go_sem, Nat.reduceLT, Nat.reduceLeDiff, Nat.reduceEqDiff, Nat.reduceAdd, Nat.reduceMul, reduceCtorEq, Int.reduceToNat, Int.reduceLT, Int.reduceLE, Int.reduceAdd, Int.reduceSub, Int.reduceEq, Int.reduceBEq, Int.reduceBNe, Nat.reduceBEq, Nat.reduceBNe, Int.reduceMul, Int.reduceNeg, LBid]
  refine dunits_is (hl.mono ((Pre.refl H).push rfl)) (hb.mono ((Pre.refl H).push rfl)) hn fun H1 p1 => ?_
  have p1' := ((Pre.refl H).push rfl).trans p1
  have hrow : H1.row H.length = some [.int .i64 x.id, .int .i64 x.elig, .int .i64 x.waiv, x.blocks] := row_pfx' p1 row_new
  by_cases hd : DValid l bl
  · rw [dUnits_yes hd]
    simp -implicitDefEqProofs (disch := first | omega | (simp only [List.length_append, List.length_cons, List.length_nil, List.length_set] <;> omega) | (repeat' (first | assumption | exact Pre.refl _ | refine Pre.push ?_ rfl | refine Pre.set ?_ ?_ rfl | omega | (simp only [List.length_append, List.length_cons, List.length_nil, List.length_set] <;> omega) | fail)) | fail) only [↓reduceIte, go_sem, Nat.reduceLT, Nat.reduceLeDiff, Nat.reduceEqDiff, Nat.reduceAdd, Nat.reduceMul, reduceCtorEq, Int.reduceToNat, Int.reduceLT, Int.reduceLE, Int.reduceAdd, Int.reduceSub, Int.reduceEq, Int.reduceBEq, Int.reduceBNe, Nat.reduceBEq, Nat.reduceBNe, Int.reduceMul, Int.reduceNeg, *]
    repeat' (first | (((first | refine wguard_split (fun hbr => ?_) (fun hbr => ?_) | refine wcond_split (fun hbr => ?_) (fun hbr => ?_) | refine wguard0_split (fun hbr => ?_) (fun hbr => ?_)) <;> (have hq := hbr; (try simp only [Bool.not_eq_true', Bool.not_eq_false', Bool.and_eq_true, Bool.and_eq_false_iff, Bool.or_eq_true, Bool.or_eq_false_iff, decide_eq_true_eq, decide_eq_false_iff_not, bne_iff_ne, beq_iff_eq, beq_eq_false_iff_ne, bne_eq_false_iff_eq, ne_eq, Int.not_lt, Int.not_le, Int.ofNat_inj, Bool.not_eq_true, Bool.not_eq_false] at hq))) <;> simp -implicitDefEqProofs (disch := first | omega | (simp only [List.length_append, List.length_cons, List.length_nil, List.length_set] <;> omega) | (repeat' (first | assumption | exact Pre.refl _ | refine Pre.push ?_ rfl | refine Pre.set ?_ ?_ rfl | omega | (simp only [List.length_append, List.length_cons, List.length_nil, List.length_set] <;> omega) | fail)) | fail) only [↓reduceIte, go_sem, Nat.reduceLT, Nat.reduceLeDiff, Nat.reduceEqDiff, Nat.reduceAdd, Nat.reduceMul, reduceCtorEq, Int.reduceToNat, Int.reduceLT, Int.reduceLE, Int.reduceAdd, Int.reduceSub, Int.reduceEq, Int.reduceBEq, Int.reduceBNe, Nat.reduceBEq, Nat.reduceBNe, Int.reduceMul, Int.reduceNeg, *]) | (apply And.intro; omega; try simp -implicitDefEqProofs (disch := first | omega | (simp only [List.length_append, List.length_cons, List.length_nil, List.length_set] <;> omega) | (repeat' (first | assumption | exact Pre.refl _ | refine Pre.push ?_ rfl | refine Pre.set ?_ ?_ rfl | omega | (simp only [List.length_append, List.length_cons, List.length_nil, List.length_set] <;> omega) | fail)) | fail) only [↓reduceIte, go_sem, Nat.reduceLT, Nat.reduceLeDiff, Nat.reduceEqDiff, Nat.reduceAdd, Nat.reduceMul, reduceCtorEq, Int.reduceToNat, Int.reduceLT, Int.reduceLE, Int.reduceAdd, Int.reduceSub, Int.reduceEq, Int.reduceBEq, Int.reduceBNe, Nat.reduceBEq, Nat.reduceBNe, Int.reduceMul, Int.reduceNeg, *]))
    all_goals first
      | (refine hR _ p1' _ ⟨(fun h => nomatch h), fun h => ?_⟩; omega)
      | (refine hR _ p1' _ ⟨fun h => ⟨hd, ?_⟩, fun h => ?_⟩
         · have h := of_decide_eq_true h; omega
         · exact decide_eq_true (by omega))
      | fail
  · rw [dUnits_no hd]
    simp -implicitDefEqProofs (disch := first | omega | (simp only [List.length_append, List.length_cons, List.length_nil, List.length_set] <;> omega) | (repeat' (first | assumption | exact Pre.refl _ | refine Pre.push ?_ rfl | refine Pre.set ?_ ?_ rfl | omega | (simp only [List.length_append, List.length_cons, List.length_nil, List.length_set] <;> omega) | fail)) | fail) only [↓reduceIte, go_sem, Nat.reduceLT, Nat.reduceLeDiff, Nat.reduceEqDiff, Nat.reduceAdd, Nat.reduceMul, reduceCtorEq, Int.reduceToNat, Int.reduceLT, Int.reduceLE, Int.reduceAdd, Int.reduceSub, Int.reduceEq, Int.reduceBEq, Int.reduceBNe, Nat.reduceBEq, Nat.reduceBNe, Int.reduceMul, Int.reduceNeg, *]
    all_goals exact hR _ p1' _ ⟨(fun h => nomatch h), fun h => absurd h.1 hd⟩

/-- One bidder in a list. -/
theorem vbidders_is {v0 v1 : Value} {l : List Prod} {x : Bidr} {bl : List Int} (hl : Sl LProd H v0 l) (hx : Sl LBid H v1 [x]) (hb : Sl (Lay.int .i64) H x.blocks bl) (hn : l.length ≤ 1000)
    (hR : ∀ H', Pre H H' → R (.ret (.bool (decide (x.ok l bl)))) H') : WF tab hook 26 [v0, v1] H R := by
  have no : ∀ H', Pre H H' → ¬ x.ok l bl → R (.ret (.bool false)) H' := fun H' hp hv => by have := hR H' hp; rwa [decide_eq_false hv] at this
  refine WF_def (tab := tab) (F := 26) rfl rfl ?_
  obtain ⟨b1, o1, c1, row1, rfl, h1⟩ := hx.into (by simp)
  have f1 := inBid1 h1
  have r1 := h1.hrow
  have lt1 := h1.lt
  simp -implicitDefEqProofs (disch := first | omega | (simp only [List.length_append, List.length_cons, List.length_nil, List.length_set] <;> omega) | (repeat' (first | assumption | exact Pre.refl _ | refine Pre.push ?_ rfl | refine Pre.set ?_ ?_ rfl | omega | (simp only [List.length_append, List.length_cons, List.length_nil, List.length_set] <;> omega) | fail)) | fail) only [↓reduceIte, go_sem, Nat.reduceLT, Nat.reduceLeDiff, Nat.reduceEqDiff, Nat.reduceAdd, Nat.reduceMul, reduceCtorEq, Int.reduceToNat, Int.reduceLT, Int.reduceLE, Int.reduceAdd, Int.reduceSub, Int.reduceEq, Int.reduceBEq, Int.reduceBNe, Nat.reduceBEq, Nat.reduceBNe, Int.reduceMul, Int.reduceNeg]
  (refine wp_unroll ?_; simp -implicitDefEqProofs (disch := first | omega | (simp only [List.length_append, List.length_cons, List.length_nil, List.length_set] <;> omega) | (repeat' (first | assumption | exact Pre.refl _ | refine Pre.push ?_ rfl | refine Pre.set ?_ ?_ rfl | omega | (simp only [List.length_append, List.length_cons, List.length_nil, List.length_set] <;> omega) | fail)) | fail) only [↓reduceIte, go_sem, Nat.reduceLT, Nat.reduceLeDiff, Nat.reduceEqDiff, Nat.reduceAdd, Nat.reduceMul, reduceCtorEq, Int.reduceToNat, Int.reduceLT, Int.reduceLE, Int.reduceAdd, Int.reduceSub, Int.reduceEq, Int.reduceBEq, Int.reduceBNe, Nat.reduceBEq, Nat.reduceBNe, Int.reduceMul, Int.reduceNeg, *])
  repeat' (first | (((first | refine wguard_split (fun hbr => ?_) (fun hbr => ?_) | refine wcond_split (fun hbr => ?_) (fun hbr => ?_) | refine wguard0_split (fun hbr => ?_) (fun hbr => ?_)) <;> (have hq := hbr; (try simp only [Bool.not_eq_true', Bool.not_eq_false', Bool.and_eq_true, Bool.and_eq_false_iff, Bool.or_eq_true, Bool.or_eq_false_iff, decide_eq_true_eq, decide_eq_false_iff_not, bne_iff_ne, beq_iff_eq, beq_eq_false_iff_ne, bne_eq_false_iff_eq, ne_eq, Int.not_lt, Int.not_le, Int.ofNat_inj, Bool.not_eq_true, Bool.not_eq_false] at hq))) <;> simp -implicitDefEqProofs (disch := first | omega | (simp only [List.length_append, List.length_cons, List.length_nil, List.length_set] <;> omega) | (repeat' (first | assumption | exact Pre.refl _ | refine Pre.push ?_ rfl | refine Pre.set ?_ ?_ rfl | omega | (simp only [List.length_append, List.length_cons, List.length_nil, List.length_set] <;> omega) | fail)) | fail) only [↓reduceIte, go_sem, Nat.reduceLT, Nat.reduceLeDiff, Nat.reduceEqDiff, Nat.reduceAdd, Nat.reduceMul, reduceCtorEq, Int.reduceToNat, Int.reduceLT, Int.reduceLE, Int.reduceAdd, Int.reduceSub, Int.reduceEq, Int.reduceBEq, Int.reduceBNe, Nat.reduceBEq, Nat.reduceBNe, Int.reduceMul, Int.reduceNeg, *]) | (apply And.intro; omega; try simp -implicitDefEqProofs (disch := first | omega | (simp only [List.length_append, List.length_cons, List.length_nil, List.length_set] <;> omega) | (repeat' (first | assumption | exact Pre.refl _ | refine Pre.push ?_ rfl | refine Pre.set ?_ ?_ rfl | omega | (simp only [List.length_append, List.length_cons, List.length_nil, List.length_set] <;> omega) | fail)) | fail) only [↓reduceIte, go_sem, Nat.reduceLT, Nat.reduceLeDiff, Nat.reduceEqDiff, Nat.reduceAdd, Nat.reduceMul, reduceCtorEq, Int.reduceToNat, Int.reduceLT, Int.reduceLE, Int.reduceAdd, Int.reduceSub, Int.reduceEq, Int.reduceBEq, Int.reduceBNe, Nat.reduceBEq, Nat.reduceBNe, Int.reduceMul, Int.reduceNeg, *]))
  · refine no _ ((Pre.refl H).push rfl) fun h => ?_
    unfold Bidr.ok at h; omega
  · refine no _ ((Pre.refl H).push rfl) fun h => ?_
    unfold Bidr.ok at h; omega
  · refine dvalidb_is (hl.mono ((Pre.refl H).push rfl)) (hb.mono ((Pre.refl H).push rfl)) hn fun H1 p1 b hbb => ?_
    have p1' := ((Pre.refl H).push rfl).trans p1
    have hrow : H1.row H.length = some [.int .i64 x.id, .int .i64 x.elig, .int .i64 x.waiv, x.blocks] := row_pfx' p1 row_new
    simp -implicitDefEqProofs (disch := first | omega | (simp only [List.length_append, List.length_cons, List.length_nil, List.length_set] <;> omega) | (repeat' (first | assumption | exact Pre.refl _ | refine Pre.push ?_ rfl | refine Pre.set ?_ ?_ rfl | omega | (simp only [List.length_append, List.length_cons, List.length_nil, List.length_set] <;> omega) | fail)) | fail) only [↓reduceIte, go_sem, Nat.reduceLT, Nat.reduceLeDiff, Nat.reduceEqDiff, Nat.reduceAdd, Nat.reduceMul, reduceCtorEq, Int.reduceToNat, Int.reduceLT, Int.reduceLE, Int.reduceAdd, Int.reduceSub, Int.reduceEq, Int.reduceBEq, Int.reduceBNe, Nat.reduceBEq, Nat.reduceBNe, Int.reduceMul, Int.reduceNeg, *]
    repeat' (first | (((first | refine wguard_split (fun hbr => ?_) (fun hbr => ?_) | refine wcond_split (fun hbr => ?_) (fun hbr => ?_) | refine wguard0_split (fun hbr => ?_) (fun hbr => ?_)) <;> (have hq := hbr; (try simp only [Bool.not_eq_true', Bool.not_eq_false', Bool.and_eq_true, Bool.and_eq_false_iff, Bool.or_eq_true, Bool.or_eq_false_iff, decide_eq_true_eq, decide_eq_false_iff_not, bne_iff_ne, beq_iff_eq, beq_eq_false_iff_ne, bne_eq_false_iff_eq, ne_eq, Int.not_lt, Int.not_le, Int.ofNat_inj, Bool.not_eq_true, Bool.not_eq_false] at hq))) <;> simp -implicitDefEqProofs (disch := first | omega | (simp only [List.length_append, List.length_cons, List.length_nil, List.length_set] <;> omega) | (repeat' (first | assumption | exact Pre.refl _ | refine Pre.push ?_ rfl | refine Pre.set ?_ ?_ rfl | omega | (simp only [List.length_append, List.length_cons, List.length_nil, List.length_set] <;> omega) | fail)) | fail) only [↓reduceIte, go_sem, Nat.reduceLT, Nat.reduceLeDiff, Nat.reduceEqDiff, Nat.reduceAdd, Nat.reduceMul, reduceCtorEq, Int.reduceToNat, Int.reduceLT, Int.reduceLE, Int.reduceAdd, Int.reduceSub, Int.reduceEq, Int.reduceBEq, Int.reduceBNe, Nat.reduceBEq, Nat.reduceBNe, Int.reduceMul, Int.reduceNeg, *]) | (apply And.intro; omega; try simp -implicitDefEqProofs (disch := first | omega | (simp only [List.length_append, List.length_cons, List.length_nil, List.length_set] <;> omega) | (repeat' (first | assumption | exact Pre.refl _ | refine Pre.push ?_ rfl | refine Pre.set ?_ ?_ rfl | omega | (simp only [List.length_append, List.length_cons, List.length_nil, List.length_set] <;> omega) | fail)) | fail) only [↓reduceIte, go_sem, Nat.reduceLT, Nat.reduceLeDiff, Nat.reduceEqDiff, Nat.reduceAdd, Nat.reduceMul, reduceCtorEq, Int.reduceToNat, Int.reduceLT, Int.reduceLE, Int.reduceAdd, Int.reduceSub, Int.reduceEq, Int.reduceBEq, Int.reduceBNe, Nat.reduceBEq, Nat.reduceBNe, Int.reduceMul, Int.reduceNeg, *]))
    · refine no _ p1' fun h => ?_
      unfold Bidr.ok at h
      have := hbb.2 ⟨h.2.2.2.2.2.2.1, h.2.2.2.2.2.2.2, by omega⟩
      simp_all
    · (refine wp_unroll ?_; simp -implicitDefEqProofs (disch := first | omega | (simp only [List.length_append, List.length_cons, List.length_nil, List.length_set] <;> omega) | (repeat' (first | assumption | exact Pre.refl _ | refine Pre.push ?_ rfl | refine Pre.set ?_ ?_ rfl | omega | (simp only [List.length_append, List.length_cons, List.length_nil, List.length_set] <;> omega) | fail)) | fail) only [↓reduceIte, go_sem, Nat.reduceLT, Nat.reduceLeDiff, Nat.reduceEqDiff, Nat.reduceAdd, Nat.reduceMul, reduceCtorEq, Int.reduceToNat, Int.reduceLT, Int.reduceLE, Int.reduceAdd, Int.reduceSub, Int.reduceEq, Int.reduceBEq, Int.reduceBNe, Nat.reduceBEq, Nat.reduceBNe, Int.reduceMul, Int.reduceNeg, *])
      refine pvalid_is (hl.mono p1') (by omega) fun H2 p2 => ?_
      have hb1 : b = true := by cases b <;> simp_all
      have hd := hbb.1 hb1
      have hu := units_bound hd.1 hn
      have := hR H2 (p1'.trans p2)
      rw [decide_eq_true (by unfold Bidr.ok; exact ⟨by omega, by omega, by omega, by omega, by omega, by omega, hd.1, by omega⟩)] at this
      have hv : decide (PValid l) = true := decide_eq_true hd.1.cat
      simp -implicitDefEqProofs (disch := first | omega | (simp only [List.length_append, List.length_cons, List.length_nil, List.length_set] <;> omega) | (repeat' (first | assumption | exact Pre.refl _ | refine Pre.push ?_ rfl | refine Pre.set ?_ ?_ rfl | omega | (simp only [List.length_append, List.length_cons, List.length_nil, List.length_set] <;> omega) | fail)) | fail) only [↓reduceIte, go_sem, Nat.reduceLT, Nat.reduceLeDiff, Nat.reduceEqDiff, Nat.reduceAdd, Nat.reduceMul, reduceCtorEq, Int.reduceToNat, Int.reduceLT, Int.reduceLE, Int.reduceAdd, Int.reduceSub, Int.reduceEq, Int.reduceBEq, Int.reduceBNe, Nat.reduceBEq, Nat.reduceBNe, Int.reduceMul, Int.reduceNeg, *]
      all_goals exact this

theorem rbidders_is {v0 v1 : Value} {l : List Prod} {x : Bidr} {bl : List Int} (hl : Sl LProd H v0 l) (hx : Sl LBid H v1 [x]) (hb : Sl (Lay.int .i64) H x.blocks bl) (hn : l.length ≤ 1000)
    (hR : ∀ H', Pre H H' → R (.ret (.bool (decide (x.ok l bl)))) H') : WF tab hook 28 [v0, v1] H R := by
  have no : ∀ H', Pre H H' → ¬ x.ok l bl → R (.ret (.bool false)) H' := fun H' hp hv => by have := hR H' hp; rwa [decide_eq_false hv] at this
  refine WF_def (tab := tab) (F := 28) rfl rfl ?_
  obtain ⟨b1, o1, c1, row1, rfl, h1⟩ := hx.into (by simp)
  have f1 := inBid1 h1
  have r1 := h1.hrow
  have lt1 := h1.lt
  simp -implicitDefEqProofs (disch := first | omega | (simp only [List.length_append, List.length_cons, List.length_nil, List.length_set] <;> omega) | (repeat' (first | assumption | exact Pre.refl _ | refine Pre.push ?_ rfl | refine Pre.set ?_ ?_ rfl | omega | (simp only [List.length_append, List.length_cons, List.length_nil, List.length_set] <;> omega) | fail)) | fail) only [↓reduceIte, go_sem, Nat.reduceLT, Nat.reduceLeDiff, Nat.reduceEqDiff, Nat.reduceAdd, Nat.reduceMul, reduceCtorEq, Int.reduceToNat, Int.reduceLT, Int.reduceLE, Int.reduceAdd, Int.reduceSub, Int.reduceEq, Int.reduceBEq, Int.reduceBNe, Nat.reduceBEq, Nat.reduceBNe, Int.reduceMul, Int.reduceNeg]
  (refine wp_unroll ?_; simp -implicitDefEqProofs (disch := first | omega | (simp only [List.length_append, List.length_cons, List.length_nil, List.length_set] <;> omega) | (repeat' (first | assumption | exact Pre.refl _ | refine Pre.push ?_ rfl | refine Pre.set ?_ ?_ rfl | omega | (simp only [List.length_append, List.length_cons, List.length_nil, List.length_set] <;> omega) | fail)) | fail) only [↓reduceIte, go_sem, Nat.reduceLT, Nat.reduceLeDiff, Nat.reduceEqDiff, Nat.reduceAdd, Nat.reduceMul, reduceCtorEq, Int.reduceToNat, Int.reduceLT, Int.reduceLE, Int.reduceAdd, Int.reduceSub, Int.reduceEq, Int.reduceBEq, Int.reduceBNe, Nat.reduceBEq, Nat.reduceBNe, Int.reduceMul, Int.reduceNeg, *])
  repeat' (first | (((first | refine wguard_split (fun hbr => ?_) (fun hbr => ?_) | refine wcond_split (fun hbr => ?_) (fun hbr => ?_) | refine wguard0_split (fun hbr => ?_) (fun hbr => ?_)) <;> (have hq := hbr; (try simp only [Bool.not_eq_true', Bool.not_eq_false', Bool.and_eq_true, Bool.and_eq_false_iff, Bool.or_eq_true, Bool.or_eq_false_iff, decide_eq_true_eq, decide_eq_false_iff_not, bne_iff_ne, beq_iff_eq, beq_eq_false_iff_ne, bne_eq_false_iff_eq, ne_eq, Int.not_lt, Int.not_le, Int.ofNat_inj, Bool.not_eq_true, Bool.not_eq_false] at hq))) <;> simp -implicitDefEqProofs (disch := first | omega | (simp only [List.length_append, List.length_cons, List.length_nil, List.length_set] <;> omega) | (repeat' (first | assumption | exact Pre.refl _ | refine Pre.push ?_ rfl | refine Pre.set ?_ ?_ rfl | omega | (simp only [List.length_append, List.length_cons, List.length_nil, List.length_set] <;> omega) | fail)) | fail) only [↓reduceIte, go_sem, Nat.reduceLT, Nat.reduceLeDiff, Nat.reduceEqDiff, Nat.reduceAdd, Nat.reduceMul, reduceCtorEq, Int.reduceToNat, Int.reduceLT, Int.reduceLE, Int.reduceAdd, Int.reduceSub, Int.reduceEq, Int.reduceBEq, Int.reduceBNe, Nat.reduceBEq, Nat.reduceBNe, Int.reduceMul, Int.reduceNeg, *]) | (apply And.intro; omega; try simp -implicitDefEqProofs (disch := first | omega | (simp only [List.length_append, List.length_cons, List.length_nil, List.length_set] <;> omega) | (repeat' (first | assumption | exact Pre.refl _ | refine Pre.push ?_ rfl | refine Pre.set ?_ ?_ rfl | omega | (simp only [List.length_append, List.length_cons, List.length_nil, List.length_set] <;> omega) | fail)) | fail) only [↓reduceIte, go_sem, Nat.reduceLT, Nat.reduceLeDiff, Nat.reduceEqDiff, Nat.reduceAdd, Nat.reduceMul, reduceCtorEq, Int.reduceToNat, Int.reduceLT, Int.reduceLE, Int.reduceAdd, Int.reduceSub, Int.reduceEq, Int.reduceBEq, Int.reduceBNe, Nat.reduceBEq, Nat.reduceBNe, Int.reduceMul, Int.reduceNeg, *]))
  all_goals first
    | (refine no _ ((Pre.refl H).push rfl) fun h => ?_; unfold Bidr.ok at h; omega)
    | skip
  refine runits_is (hl.mono ((Pre.refl H).push rfl)) (hb.mono ((Pre.refl H).push rfl)) hn fun H1 p1 => ?_
  have p1' := ((Pre.refl H).push rfl).trans p1
  have hrow : H1.row H.length = some [.int .i64 x.id, .int .i64 x.elig, .int .i64 x.waiv, x.blocks] := row_pfx' p1 row_new
  by_cases hd : DValid l bl
  · have hu := units_bound hd hn
    rw [dUnits_yes hd]
    simp -implicitDefEqProofs (disch := first | omega | (simp only [List.length_append, List.length_cons, List.length_nil, List.length_set] <;> omega) | (repeat' (first | assumption | exact Pre.refl _ | refine Pre.push ?_ rfl | refine Pre.set ?_ ?_ rfl | omega | (simp only [List.length_append, List.length_cons, List.length_nil, List.length_set] <;> omega) | fail)) | fail) only [↓reduceIte, go_sem, Nat.reduceLT, Nat.reduceLeDiff, Nat.reduceEqDiff, Nat.reduceAdd, Nat.reduceMul, reduceCtorEq, Int.reduceToNat, Int.reduceLT, Int.reduceLE, Int.reduceAdd, Int.reduceSub, Int.reduceEq, Int.reduceBEq, Int.reduceBNe, Nat.reduceBEq, Nat.reduceBNe, Int.reduceMul, Int.reduceNeg, *]
    repeat' (first | (((first | refine wguard_split (fun hbr => ?_) (fun hbr => ?_) | refine wcond_split (fun hbr => ?_) (fun hbr => ?_) | refine wguard0_split (fun hbr => ?_) (fun hbr => ?_)) <;> (have hq := hbr; (try simp only [Bool.not_eq_true', Bool.not_eq_false', Bool.and_eq_true, Bool.and_eq_false_iff, Bool.or_eq_true, Bool.or_eq_false_iff, decide_eq_true_eq, decide_eq_false_iff_not, bne_iff_ne, beq_iff_eq, beq_eq_false_iff_ne, bne_eq_false_iff_eq, ne_eq, Int.not_lt, Int.not_le, Int.ofNat_inj, Bool.not_eq_true, Bool.not_eq_false] at hq))) <;> simp -implicitDefEqProofs (disch := first | omega | (simp only [List.length_append, List.length_cons, List.length_nil, List.length_set] <;> omega) | (repeat' (first | assumption | exact Pre.refl _ | refine Pre.push ?_ rfl | refine Pre.set ?_ ?_ rfl | omega | (simp only [List.length_append, List.length_cons, List.length_nil, List.length_set] <;> omega) | fail)) | fail) only [↓reduceIte, go_sem, Nat.reduceLT, Nat.reduceLeDiff, Nat.reduceEqDiff, Nat.reduceAdd, Nat.reduceMul, reduceCtorEq, Int.reduceToNat, Int.reduceLT, Int.reduceLE, Int.reduceAdd, Int.reduceSub, Int.reduceEq, Int.reduceBEq, Int.reduceBNe, Nat.reduceBEq, Nat.reduceBNe, Int.reduceMul, Int.reduceNeg, *]) | (apply And.intro; omega; try simp -implicitDefEqProofs (disch := first | omega | (simp only [List.length_append, List.length_cons, List.length_nil, List.length_set] <;> omega) | (repeat' (first | assumption | exact Pre.refl _ | refine Pre.push ?_ rfl | refine Pre.set ?_ ?_ rfl | omega | (simp only [List.length_append, List.length_cons, List.length_nil, List.length_set] <;> omega) | fail)) | fail) only [↓reduceIte, go_sem, Nat.reduceLT, Nat.reduceLeDiff, Nat.reduceEqDiff, Nat.reduceAdd, Nat.reduceMul, reduceCtorEq, Int.reduceToNat, Int.reduceLT, Int.reduceLE, Int.reduceAdd, Int.reduceSub, Int.reduceEq, Int.reduceBEq, Int.reduceBNe, Nat.reduceBEq, Nat.reduceBNe, Int.reduceMul, Int.reduceNeg, *]))
    · refine no _ p1' fun h => ?_
      unfold Bidr.ok at h; omega
    · (refine wp_unroll ?_; simp -implicitDefEqProofs (disch := first | omega | (simp only [List.length_append, List.length_cons, List.length_nil, List.length_set] <;> omega) | (repeat' (first | assumption | exact Pre.refl _ | refine Pre.push ?_ rfl | refine Pre.set ?_ ?_ rfl | omega | (simp only [List.length_append, List.length_cons, List.length_nil, List.length_set] <;> omega) | fail)) | fail) only [↓reduceIte, go_sem, Nat.reduceLT, Nat.reduceLeDiff, Nat.reduceEqDiff, Nat.reduceAdd, Nat.reduceMul, reduceCtorEq, Int.reduceToNat, Int.reduceLT, Int.reduceLE, Int.reduceAdd, Int.reduceSub, Int.reduceEq, Int.reduceBEq, Int.reduceBNe, Nat.reduceBEq, Nat.reduceBNe, Int.reduceMul, Int.reduceNeg, *])
      refine rvalid_is (hl.mono p1') (by omega) fun H2 p2 => ?_
      have := hR H2 (p1'.trans p2)
      rw [decide_eq_true (by unfold Bidr.ok; exact ⟨by omega, by omega, by omega, by omega, by omega, by omega, hd, by omega⟩)] at this
      have hv : decide (PValid l) = true := decide_eq_true hd.cat
      simp -implicitDefEqProofs (disch := first | omega | (simp only [List.length_append, List.length_cons, List.length_nil, List.length_set] <;> omega) | (repeat' (first | assumption | exact Pre.refl _ | refine Pre.push ?_ rfl | refine Pre.set ?_ ?_ rfl | omega | (simp only [List.length_append, List.length_cons, List.length_nil, List.length_set] <;> omega) | fail)) | fail) only [↓reduceIte, go_sem, Nat.reduceLT, Nat.reduceLeDiff, Nat.reduceEqDiff, Nat.reduceAdd, Nat.reduceMul, reduceCtorEq, Int.reduceToNat, Int.reduceLT, Int.reduceLE, Int.reduceAdd, Int.reduceSub, Int.reduceEq, Int.reduceBEq, Int.reduceBNe, Nat.reduceBEq, Nat.reduceBNe, Int.reduceMul, Int.reduceNeg, *]
      all_goals exact this
  · rw [dUnits_no hd]
    simp -implicitDefEqProofs (disch := first | omega | (simp only [List.length_append, List.length_cons, List.length_nil, List.length_set] <;> omega) | (repeat' (first | assumption | exact Pre.refl _ | refine Pre.push ?_ rfl | refine Pre.set ?_ ?_ rfl | omega | (simp only [List.length_append, List.length_cons, List.length_nil, List.length_set] <;> omega) | fail)) | fail) only [↓reduceIte, go_sem, Nat.reduceLT, Nat.reduceLeDiff, Nat.reduceEqDiff, Nat.reduceAdd, Nat.reduceMul, reduceCtorEq, Int.reduceToNat, Int.reduceLT, Int.reduceLE, Int.reduceAdd, Int.reduceSub, Int.reduceEq, Int.reduceBEq, Int.reduceBNe, Nat.reduceBEq, Nat.reduceBNe, Int.reduceMul, Int.reduceNeg, *]
    repeat' (first | (((first | refine wguard_split (fun hbr => ?_) (fun hbr => ?_) | refine wcond_split (fun hbr => ?_) (fun hbr => ?_) | refine wguard0_split (fun hbr => ?_) (fun hbr => ?_)) <;> (have hq := hbr; (try simp only [Bool.not_eq_true', Bool.not_eq_false', Bool.and_eq_true, Bool.and_eq_false_iff, Bool.or_eq_true, Bool.or_eq_false_iff, decide_eq_true_eq, decide_eq_false_iff_not, bne_iff_ne, beq_iff_eq, beq_eq_false_iff_ne, bne_eq_false_iff_eq, ne_eq, Int.not_lt, Int.not_le, Int.ofNat_inj, Bool.not_eq_true, Bool.not_eq_false] at hq))) <;> simp -implicitDefEqProofs (disch := first | omega | (simp only [List.length_append, List.length_cons, List.length_nil, List.length_set] <;> omega) | (repeat' (first | assumption | exact Pre.refl _ | refine Pre.push ?_ rfl | refine Pre.set ?_ ?_ rfl | omega | (simp only [List.length_append, List.length_cons, List.length_nil, List.length_set] <;> omega) | fail)) | fail) only [↓reduceIte, go_sem, Nat.reduceLT, Nat.reduceLeDiff, Nat.reduceEqDiff, Nat.reduceAdd, Nat.reduceMul, reduceCtorEq, Int.reduceToNat, Int.reduceLT, Int.reduceLE, Int.reduceAdd, Int.reduceSub, Int.reduceEq, Int.reduceBEq, Int.reduceBNe, Nat.reduceBEq, Nat.reduceBNe, Int.reduceMul, Int.reduceNeg, *]) | (apply And.intro; omega; try simp -implicitDefEqProofs (disch := first | omega | (simp only [List.length_append, List.length_cons, List.length_nil, List.length_set] <;> omega) | (repeat' (first | assumption | exact Pre.refl _ | refine Pre.push ?_ rfl | refine Pre.set ?_ ?_ rfl | omega | (simp only [List.length_append, List.length_cons, List.length_nil, List.length_set] <;> omega) | fail)) | fail) only [↓reduceIte, go_sem, Nat.reduceLT, Nat.reduceLeDiff, Nat.reduceEqDiff, Nat.reduceAdd, Nat.reduceMul, reduceCtorEq, Int.reduceToNat, Int.reduceLT, Int.reduceLE, Int.reduceAdd, Int.reduceSub, Int.reduceEq, Int.reduceBEq, Int.reduceBNe, Nat.reduceBEq, Nat.reduceBNe, Int.reduceMul, Int.reduceNeg, *]))
    all_goals
      refine no _ p1' fun h => ?_
      unfold Bidr.ok at h; exact hd h.2.2.2.2.2.2.1

end Go.Proofs.Ytmjmnjfopgabjaa.Tab
