/- The law ActivitySettle: what its instructions answer, for every list of products, bidder and per cent. -/
import Derived.Test.YtmjmnjfopgabjaaAct2
namespace Go.Proofs.Ytmjmnjfopgabjaa.Tab
open Go Go.IM Go.RowKit
set_option maxRecDepth 100000
set_option linter.unusedSimpArgs false
set_option linter.unusedVariables false
set_option maxHeartbeats 4000000

def kHook : CallFn := closedHook 8 (.bool true)

variable {R : IEnd → Heap → Prop} {H : Heap}

theorem known_is (R : IEnd → Heap → Prop) : WF tab kHook 8 [] H R = R (.ret (.bool true)) H :=
  WF_eq (WF_hook (e := .ret (.bool true)) (H' := H) rfl (by simp [kHook, closedHook]) ⟨rfl, rfl⟩) R

theorem law_is {v0 : Value} {l : List Prod} {x : Bidr} {bl : List Int} {p : Int} (hl : Sl LProd H v0 l) (hb : Sl (Lay.int .i64) H x.blocks bl)
    (hR : ∀ H', R (.ret (.bool true)) H') : WF tab kHook 5 [v0, .agg (LBid.c x).toArray, .int .i64 p] H R := by
  refine WF_def (tab := tab) (F := 5) rfl rfl ?_
  obtain ⟨oa0, c0, hv0⟩ := hl.form
  obtain ⟨oa1, c1, hv1⟩ := hb.form
  simp -implicitDefEqProofs (disch := first | omega | (simp only [List.length_append, List.length_cons, List.length_nil, List.length_set] <;> omega) | (repeat' (first | assumption | exact Pre.refl _ | refine Pre.push ?_ rfl | refine Pre.set ?_ ?_ rfl | omega | (simp only [List.length_append, List.length_cons, List.length_nil, List.length_set] <;> omega) | fail)) | fail) only [↓reduceIte, go_sem, Nat.reduceLT, Nat.reduceLeDiff, Nat.reduceEqDiff, Nat.reduceAdd, Nat.reduceMul, reduceCtorEq, Int.reduceToNat, Int.reduceLT, Int.reduceLE, Int.reduceAdd, Int.reduceSub, Int.reduceEq, Int.reduceBEq, Int.reduceBNe, Nat.reduceBEq, Nat.reduceBNe, Int.reduceMul, Int.reduceNeg, LBid, hv0, hv1]
  repeat' (first | (((first | refine wguard_split (fun hbr => ?_) (fun hbr => ?_) | refine wcond_split (fun hbr => ?_) (fun hbr => ?_) | refine wguard0_split (fun hbr => ?_) (fun hbr => ?_)) <;> (have hq := hbr; (try simp only [Bool.not_eq_true', Bool.not_eq_false', Bool.and_eq_true, Bool.and_eq_false_iff, Bool.or_eq_true, Bool.or_eq_false_iff, decide_eq_true_eq, decide_eq_false_iff_not, bne_iff_ne, beq_iff_eq, beq_eq_false_iff_ne, bne_eq_false_iff_eq, ne_eq, Int.not_lt, Int.not_le, Int.ofNat_inj, Bool.not_eq_true, Bool.not_eq_false] at hq))) <;> simp -implicitDefEqProofs (disch := first | omega | (simp only [List.length_append, List.length_cons, List.length_nil, List.length_set] <;> omega) | (repeat' (first | assumption | exact Pre.refl _ | refine Pre.push ?_ rfl | refine Pre.set ?_ ?_ rfl | omega | (simp only [List.length_append, List.length_cons, List.length_nil, List.length_set] <;> omega) | fail)) | fail) only [↓reduceIte, go_sem, Nat.reduceLT, Nat.reduceLeDiff, Nat.reduceEqDiff, Nat.reduceAdd, Nat.reduceMul, reduceCtorEq, Int.reduceToNat, Int.reduceLT, Int.reduceLE, Int.reduceAdd, Int.reduceSub, Int.reduceEq, Int.reduceBEq, Int.reduceBNe, Nat.reduceBEq, Nat.reduceBNe, Int.reduceMul, Int.reduceNeg, *, known_is]) | (apply And.intro; omega; try simp -implicitDefEqProofs (disch := first | omega | (simp only [List.length_append, List.length_cons, List.length_nil, List.length_set] <;> omega) | (repeat' (first | assumption | exact Pre.refl _ | refine Pre.push ?_ rfl | refine Pre.set ?_ ?_ rfl | omega | (simp only [List.length_append, List.length_cons, List.length_nil, List.length_set] <;> omega) | fail)) | fail) only [↓reduceIte, go_sem, Nat.reduceLT, Nat.reduceLeDiff, Nat.reduceEqDiff, Nat.reduceAdd, Nat.reduceMul, reduceCtorEq, Int.reduceToNat, Int.reduceLT, Int.reduceLE, Int.reduceAdd, Int.reduceSub, Int.reduceEq, Int.reduceBEq, Int.reduceBNe, Nat.reduceBEq, Nat.reduceBNe, Int.reduceMul, Int.reduceNeg, *, known_is]))
  rw [← hv0, ← hv1]
  have p0 := (Pre.refl H).push (x := .cells [.int .i64 x.id, .int .i64 x.elig, .int .i64 x.waiv, x.blocks] false 0) rfl
  refine settle_is (x := x) (hl.mono p0) (hb.mono p0) (by omega) fun H1 w => ⟨fun hok ow => ?_, fun hno p1 => ?_⟩
  · have p1 := ow.pre
    have lp1 := p1.len; (try simp only [List.length_append, List.length_cons, List.length_nil, List.length_set] at lp1)
    have r4 : H1.row H.length = some [.int .i64 x.id, .int .i64 x.elig, .int .i64 x.waiv, x.blocks] := row_pfx' p1 (by simp [Heap.row])
    have hd : DValid l bl := by have := hok.1; unfold Bidr.ok at this; exact this.2.2.2.2.2.2.1
    simp -implicitDefEqProofs (disch := first | omega | (simp only [List.length_append, List.length_cons, List.length_nil, List.length_set] <;> omega) | (repeat' (first | assumption | exact Pre.refl _ | refine Pre.push ?_ rfl | refine Pre.set ?_ ?_ rfl | omega | (simp only [List.length_append, List.length_cons, List.length_nil, List.length_set] <;> omega) | fail)) | fail) only [↓reduceIte, go_sem, Nat.reduceLT, Nat.reduceLeDiff, Nat.reduceEqDiff, Nat.reduceAdd, Nat.reduceMul, reduceCtorEq, Int.reduceToNat, Int.reduceLT, Int.reduceLE, Int.reduceAdd, Int.reduceSub, Int.reduceEq, Int.reduceBEq, Int.reduceBNe, Nat.reduceBEq, Nat.reduceBNe, Int.reduceMul, Int.reduceNeg, *, LBid]
    rw [← hv1]
    have q1 := (p0.trans p1).push (x := .cells [.int .i64 x.id, .int .i64 (keepE x.elig x.waiv (unitsOf l bl) p), .int .i64 (keepW x.elig x.waiv (unitsOf l bl) p), w] false 0) rfl
    rw [← hv0]
    refine rsettle_is (x := x) (hl.mono q1) (hb.mono q1) (by omega) fun H2 w2 => ⟨fun _ ow2 => ?_, fun hno => absurd hok hno⟩
    have p2 := ow2.pre
    have lp2 := p2.len; (try simp only [List.length_append, List.length_cons, List.length_nil, List.length_set] at lp2)
    have r4' := row_pfx' p2 (row_pfx' ((Pre.refl H1).push (x := .cells [.int .i64 x.id, .int .i64 (keepE x.elig x.waiv (unitsOf l bl) p), .int .i64 (keepW x.elig x.waiv (unitsOf l bl) p), w] false 0) rfl) r4)
    have r7 : H2.row H1.length = some [.int .i64 x.id, .int .i64 (keepE x.elig x.waiv (unitsOf l bl) p), .int .i64 (keepW x.elig x.waiv (unitsOf l bl) p), w] := row_pfx' p2 (by simp [Heap.row])
    simp -implicitDefEqProofs (disch := first | omega | (simp only [List.length_append, List.length_cons, List.length_nil, List.length_set] <;> omega) | (repeat' (first | assumption | exact Pre.refl _ | refine Pre.push ?_ rfl | refine Pre.set ?_ ?_ rfl | omega | (simp only [List.length_append, List.length_cons, List.length_nil, List.length_set] <;> omega) | fail)) | fail) only [↓reduceIte, go_sem, Nat.reduceLT, Nat.reduceLeDiff, Nat.reduceEqDiff, Nat.reduceAdd, Nat.reduceMul, reduceCtorEq, Int.reduceToNat, Int.reduceLT, Int.reduceLE, Int.reduceAdd, Int.reduceSub, Int.reduceEq, Int.reduceBEq, Int.reduceBNe, Nat.reduceBEq, Nat.reduceBNe, Int.reduceMul, Int.reduceNeg, *, LBid]
    have q2 := (Pre.refl H2).push (x := .cells [.int .i64 x.id, .int .i64 (keepE x.elig x.waiv (unitsOf l bl) p), .int .i64 (keepW x.elig x.waiv (unitsOf l bl) p), w2] false 0) rfl
    have q1' := (Pre.refl H1).push (x := .cells [.int .i64 x.id, .int .i64 (keepE x.elig x.waiv (unitsOf l bl) p), .int .i64 (keepW x.elig x.waiv (unitsOf l bl) p), w] false 0) rfl
    refine rsame_is (x := ⟨x.id, keepE x.elig x.waiv (unitsOf l bl) p, keepW x.elig x.waiv (unitsOf l bl) p, w⟩) (bl := bl) (ow.sl.mono ((q1'.trans p2).trans q2)) (ow2.sl.mono q2) (by omega) fun H3 p3 => ?_
    have q3 := (q1'.trans p2).trans (q2.trans p3)
    have lp3 := p3.len; (try simp only [List.length_append, List.length_cons, List.length_nil, List.length_set] at lp3)
    have r4'' := row_pfx' (q2.trans p3) r4'
    have r7' := row_pfx' (q2.trans p3) r7
    simp -implicitDefEqProofs (disch := first | omega | (simp only [List.length_append, List.length_cons, List.length_nil, List.length_set] <;> omega) | (repeat' (first | assumption | exact Pre.refl _ | refine Pre.push ?_ rfl | refine Pre.set ?_ ?_ rfl | omega | (simp only [List.length_append, List.length_cons, List.length_nil, List.length_set] <;> omega) | fail)) | fail) only [↓reduceIte, go_sem, Nat.reduceLT, Nat.reduceLeDiff, Nat.reduceEqDiff, Nat.reduceAdd, Nat.reduceMul, reduceCtorEq, Int.reduceToNat, Int.reduceLT, Int.reduceLE, Int.reduceAdd, Int.reduceSub, Int.reduceEq, Int.reduceBEq, Int.reduceBNe, Nat.reduceBEq, Nat.reduceBNe, Int.reduceMul, Int.reduceNeg, *]
    ((first | refine wguard_split (fun hbr => ?_) (fun hbr => ?_) | refine wcond_split (fun hbr => ?_) (fun hbr => ?_) | refine wguard0_split (fun hbr => ?_) (fun hbr => ?_)) <;> (have hq := hbr; (try simp only [Bool.not_eq_true', Bool.not_eq_false', Bool.and_eq_true, Bool.and_eq_false_iff, Bool.or_eq_true, Bool.or_eq_false_iff, decide_eq_true_eq, decide_eq_false_iff_not, bne_iff_ne, beq_iff_eq, beq_eq_false_iff_ne, bne_eq_false_iff_eq, ne_eq, Int.not_lt, Int.not_le, Int.ofNat_inj, Bool.not_eq_true, Bool.not_eq_false] at hq)))
    · rw [hv1] at hb
      obtain ⟨b1, o1, row1, rfl, -, h1⟩ := hb.at (by omega)
      obtain ⟨b2, rfl, hb2, lt2, w2'⟩ := ow.into (by omega)
      have r1 := row_pfx' (p0.trans p1 |>.trans q3) h1.hrow
      have lt1 := h1.lt
      have f1 := h1.int 0 (by omega)
      simp only [Nat.add_zero] at f1
      have w2'' := wrow_pfx' q3 w2'
      have r2'' := row_wrow w2''
      obtain ⟨a, rest, rfl⟩ : ∃ a rest, bl = a :: rest := by cases bl with
        | nil => simp at hq
        | cons a rest => exact ⟨_, _, rfl⟩
      have ha := hd.each 0 (by simp) (by rw [← hd.len]; simp)
      have hs := hd.cat.ok 0 (by rw [← hd.len]; simp)
      unfold Prod.ok at hs
      simp only [List.getElem_cons_zero, List.flatMap_cons, Lay.int, List.cons_append, List.nil_append] at ha w2'' r2'' f1
      simp only [List.length_append, List.length_cons, List.length_nil] at hb2
      have hpos : (0 : Int) < ((rest.length + 1 : Nat) : Int) := by omega
      have ne12 : b2 ≠ b1 := by omega
      simp -implicitDefEqProofs (disch := first | omega | (simp only [List.length_append, List.length_cons, List.length_nil, List.length_set] <;> omega) | (repeat' (first | assumption | exact Pre.refl _ | refine Pre.push ?_ rfl | refine Pre.set ?_ ?_ rfl | omega | (simp only [List.length_append, List.length_cons, List.length_nil, List.length_set] <;> omega) | fail)) | fail) only [↓reduceIte, go_sem, Nat.reduceLT, Nat.reduceLeDiff, Nat.reduceEqDiff, Nat.reduceAdd, Nat.reduceMul, reduceCtorEq, Int.reduceToNat, Int.reduceLT, Int.reduceLE, Int.reduceAdd, Int.reduceSub, Int.reduceEq, Int.reduceBEq, Int.reduceBNe, Nat.reduceBEq, Nat.reduceBNe, Int.reduceMul, Int.reduceNeg, *, known_is]
    · simp -implicitDefEqProofs (disch := first | omega | (simp only [List.length_append, List.length_cons, List.length_nil, List.length_set] <;> omega) | (repeat' (first | assumption | exact Pre.refl _ | refine Pre.push ?_ rfl | refine Pre.set ?_ ?_ rfl | omega | (simp only [List.length_append, List.length_cons, List.length_nil, List.length_set] <;> omega) | fail)) | fail) only [↓reduceIte, go_sem, Nat.reduceLT, Nat.reduceLeDiff, Nat.reduceEqDiff, Nat.reduceAdd, Nat.reduceMul, reduceCtorEq, Int.reduceToNat, Int.reduceLT, Int.reduceLE, Int.reduceAdd, Int.reduceSub, Int.reduceEq, Int.reduceBEq, Int.reduceBNe, Nat.reduceBEq, Nat.reduceBNe, Int.reduceMul, Int.reduceNeg, *, known_is]
  · have r4 : H1.row H.length = some [.int .i64 x.id, .int .i64 x.elig, .int .i64 x.waiv, x.blocks] := row_pfx' p1 (by simp [Heap.row])
    have lp1 := p1.len; (try simp only [List.length_append, List.length_cons, List.length_nil, List.length_set] at lp1)
    simp -implicitDefEqProofs (disch := first | omega | (simp only [List.length_append, List.length_cons, List.length_nil, List.length_set] <;> omega) | (repeat' (first | assumption | exact Pre.refl _ | refine Pre.push ?_ rfl | refine Pre.set ?_ ?_ rfl | omega | (simp only [List.length_append, List.length_cons, List.length_nil, List.length_set] <;> omega) | fail)) | fail) only [↓reduceIte, go_sem, Nat.reduceLT, Nat.reduceLeDiff, Nat.reduceEqDiff, Nat.reduceAdd, Nat.reduceMul, reduceCtorEq, Int.reduceToNat, Int.reduceLT, Int.reduceLE, Int.reduceAdd, Int.reduceSub, Int.reduceEq, Int.reduceBEq, Int.reduceBNe, Nat.reduceBEq, Nat.reduceBNe, Int.reduceMul, Int.reduceNeg, *, LBid]
    rw [← hv0, ← hv1]
    have q1 := (p0.trans p1).push (x := .cells [.int .i64 0, .int .i64 0, .int .i64 0, .slice none 0 0] false 0) rfl
    refine rsettle_is (x := x) (hl.mono q1) (hb.mono q1) (by omega) fun H2 w2 => ⟨fun hok _ => absurd hok hno, fun _ p2 => ?_⟩
    have lp2 := p2.len; (try simp only [List.length_append, List.length_cons, List.length_nil, List.length_set] at lp2)
    have r4' := row_pfx' p2 (row_pfx' ((Pre.refl H1).push (x := .cells [.int .i64 0, .int .i64 0, .int .i64 0, .slice none 0 0] false 0) rfl) r4)
    have r7 : H2.row H1.length = some [.int .i64 0, .int .i64 0, .int .i64 0, .slice none 0 0] := row_pfx' p2 (by simp [Heap.row])
    simp -implicitDefEqProofs (disch := first | omega | (simp only [List.length_append, List.length_cons, List.length_nil, List.length_set] <;> omega) | (repeat' (first | assumption | exact Pre.refl _ | refine Pre.push ?_ rfl | refine Pre.set ?_ ?_ rfl | omega | (simp only [List.length_append, List.length_cons, List.length_nil, List.length_set] <;> omega) | fail)) | fail) only [↓reduceIte, go_sem, Nat.reduceLT, Nat.reduceLeDiff, Nat.reduceEqDiff, Nat.reduceAdd, Nat.reduceMul, reduceCtorEq, Int.reduceToNat, Int.reduceLT, Int.reduceLE, Int.reduceAdd, Int.reduceSub, Int.reduceEq, Int.reduceBEq, Int.reduceBNe, Nat.reduceBEq, Nat.reduceBNe, Int.reduceMul, Int.reduceNeg, *, LBid]
    refine rsame_is (x := ⟨0, 0, 0, .slice none 0 0⟩) (bl := []) ⟨.inl ⟨rfl, rfl⟩⟩ ⟨.inl ⟨rfl, rfl⟩⟩ (by simp) fun H3 p3 => ?_
    simp -implicitDefEqProofs (disch := first | omega | (simp only [List.length_append, List.length_cons, List.length_nil, List.length_set] <;> omega) | (repeat' (first | assumption | exact Pre.refl _ | refine Pre.push ?_ rfl | refine Pre.set ?_ ?_ rfl | omega | (simp only [List.length_append, List.length_cons, List.length_nil, List.length_set] <;> omega) | fail)) | fail) only [↓reduceIte, go_sem, Nat.reduceLT, Nat.reduceLeDiff, Nat.reduceEqDiff, Nat.reduceAdd, Nat.reduceMul, reduceCtorEq, Int.reduceToNat, Int.reduceLT, Int.reduceLE, Int.reduceAdd, Int.reduceSub, Int.reduceEq, Int.reduceBEq, Int.reduceBNe, Nat.reduceBEq, Nat.reduceBNe, Int.reduceMul, Int.reduceNeg, *, known_is]

end Go.Proofs.Ytmjmnjfopgabjaa.Tab
