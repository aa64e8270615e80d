/- Activity: the reference's settling of a bidder, and equality of bidders. A lemma for the laws. -/
import Derived.Test.YtmjmnjfopgabjaaAct1
namespace Go.Proofs.Ytmjmnjfopgabjaa.Tab
open Go Go.IM Go.RowKit
set_option maxRecDepth 100000
set_option linter.unusedSimpArgs false
set_option linter.unusedVariables false
set_option maxHeartbeats 4000000

variable {hook : CallFn} {R : IEnd → Heap → Prop} {H : Heap}

theorem sameb_is {v0 v1 : Value} {x : Bidr} {w : Value} {bl : List Int} (hx : Sl LBid H v0 [x]) (hy : Sl LBid H v1 [⟨x.id, x.elig, x.waiv, w⟩]) (hb : Sl (Lay.int .i64) H x.blocks bl) (hc : Sl (Lay.int .i64) H w bl) (hn : bl.length < 1000000)
    (hR : ∀ H', Pre H H' → R (.ret (.bool true)) H') : WF tab hook 23 [v0, v1] H R := by
  refine WF_def (tab := tab) (F := 23) rfl rfl ?_
  obtain ⟨b1, o1, c1, row1, rfl, h1⟩ := hx.into (by simp)
  have f1 := inBid1 h1
  have r1 := h1.hrow
  obtain ⟨b2, o2, c2, row2, rfl, h2⟩ := hy.into (by simp)
  have f2 := inBid1 h2
  have r2 := h2.hrow
  simp -implicitDefEqProofs (disch := first | omega | (simp only [List.length_append, List.length_cons, List.length_nil, List.length_set] <;> omega) | (repeat' (first | assumption | exact Pre.refl _ | refine Pre.push ?_ rfl | refine Pre.set ?_ ?_ rfl | omega | (simp only [List.length_append, List.length_cons, List.length_nil, List.length_set] <;> omega) | fail)) | fail) only [↓reduceIte, go_sem, Nat.reduceLT, Nat.reduceLeDiff, Nat.reduceEqDiff, Nat.reduceAdd, Nat.reduceMul, reduceCtorEq, Int.reduceToNat, Int.reduceLT, Int.reduceLE, Int.reduceAdd, Int.reduceSub, Int.reduceEq, Int.reduceBEq, Int.reduceBNe, Nat.reduceBEq, Nat.reduceBNe, Int.reduceMul, Int.reduceNeg]
  (refine wp_unroll ?_; simp -implicitDefEqProofs (disch := first | omega | (simp only [List.length_append, List.length_cons, List.length_nil, List.length_set] <;> omega) | (repeat' (first | assumption | exact Pre.refl _ | refine Pre.push ?_ rfl | refine Pre.set ?_ ?_ rfl | omega | (simp only [List.length_append, List.length_cons, List.length_nil, List.length_set] <;> omega) | fail)) | fail) only [↓reduceIte, go_sem, Nat.reduceLT, Nat.reduceLeDiff, Nat.reduceEqDiff, Nat.reduceAdd, Nat.reduceMul, reduceCtorEq, Int.reduceToNat, Int.reduceLT, Int.reduceLE, Int.reduceAdd, Int.reduceSub, Int.reduceEq, Int.reduceBEq, Int.reduceBNe, Nat.reduceBEq, Nat.reduceBNe, Int.reduceMul, Int.reduceNeg, *])
  refine same_is hb hc (by omega) ?_
  simp -implicitDefEqProofs (disch := first | omega | (simp only [List.length_append, List.length_cons, List.length_nil, List.length_set] <;> omega) | (repeat' (first | assumption | exact Pre.refl _ | refine Pre.push ?_ rfl | refine Pre.set ?_ ?_ rfl | omega | (simp only [List.length_append, List.length_cons, List.length_nil, List.length_set] <;> omega) | fail)) | fail) only [↓reduceIte, go_sem, Nat.reduceLT, Nat.reduceLeDiff, Nat.reduceEqDiff, Nat.reduceAdd, Nat.reduceMul, reduceCtorEq, Int.reduceToNat, Int.reduceLT, Int.reduceLE, Int.reduceAdd, Int.reduceSub, Int.reduceEq, Int.reduceBEq, Int.reduceBNe, Nat.reduceBEq, Nat.reduceBNe, Int.reduceMul, Int.reduceNeg, *]
  (refine wp_unroll ?_; simp -implicitDefEqProofs (disch := first | omega | (simp only [List.length_append, List.length_cons, List.length_nil, List.length_set] <;> omega) | (repeat' (first | assumption | exact Pre.refl _ | refine Pre.push ?_ rfl | refine Pre.set ?_ ?_ rfl | omega | (simp only [List.length_append, List.length_cons, List.length_nil, List.length_set] <;> omega) | fail)) | fail) only [↓reduceIte, go_sem, Nat.reduceLT, Nat.reduceLeDiff, Nat.reduceEqDiff, Nat.reduceAdd, Nat.reduceMul, reduceCtorEq, Int.reduceToNat, Int.reduceLT, Int.reduceLE, Int.reduceAdd, Int.reduceSub, Int.reduceEq, Int.reduceBEq, Int.reduceBNe, Nat.reduceBEq, Nat.reduceBNe, Int.reduceMul, Int.reduceNeg, *])
  all_goals exact hR _ (Pre.refl _)

theorem rsame_is {x : Bidr} {w : Value} {bl : List Int} (hb : Sl (Lay.int .i64) H x.blocks bl) (hc : Sl (Lay.int .i64) H w bl) (hn : bl.length < 1000000)
    (hR : ∀ H', Pre H H' → R (.ret (.bool true)) H') : WF tab hook 13 [.agg (LBid.c x).toArray, .agg (LBid.c ⟨x.id, x.elig, x.waiv, w⟩).toArray] H R := by
  refine WF_def (tab := tab) (F := 13) rfl rfl ?_
  simp -implicitDefEqProofs (disch := first | omega | (simp only [List.length_append, List.length_cons, List.length_nil, List.length_set] <;> omega) | (repeat' (first | assumption | exact Pre.refl _ | refine Pre.push ?_ rfl | refine Pre.set ?_ ?_ rfl | omega | (simp only [List.length_append, List.length_cons, List.length_nil, List.length_set] <;> omega) | fail)) | fail) only [↓reduceIte, go_sem, Nat.reduceLT, Nat.reduceLeDiff, Nat.reduceEqDiff, Nat.reduceAdd, Nat.reduceMul, reduceCtorEq, Int.reduceToNat, Int.reduceLT, Int.reduceLE, Int.reduceAdd, Int.reduceSub, Int.reduceEq, Int.reduceBEq, Int.reduceBNe, Nat.reduceBEq, Nat.reduceBNe, Int.reduceMul, Int.reduceNeg, LBid]
  have p0 := (((Pre.refl H).push (x := .cells [.int .i64 x.id, .int .i64 x.elig, .int .i64 x.waiv, x.blocks] false 0) rfl).push (x := .cells [.int .i64 x.id, .int .i64 x.elig, .int .i64 x.waiv, w] false 0) rfl |>.push (x := .cells [.int .i64 x.id, .int .i64 x.elig, .int .i64 x.waiv, x.blocks] false 0) rfl).push (x := .cells [.int .i64 x.id, .int .i64 x.elig, .int .i64 x.waiv, w] false 0) rfl
  refine sameb_is (x := x) (w := w) (bl := bl) ?hx ?hy (hb.mono p0) (hc.mono p0) hn fun H1 p1 => ?_
  case hx => exact (Sl.new (L := LBid) (l := [x]) rfl).mono ((Pre.refl _).push rfl)
  case hy => exact Sl.new (L := LBid) (l := [_]) rfl
  simp -implicitDefEqProofs (disch := first | omega | (simp only [List.length_append, List.length_cons, List.length_nil, List.length_set] <;> omega) | (repeat' (first | assumption | exact Pre.refl _ | refine Pre.push ?_ rfl | refine Pre.set ?_ ?_ rfl | omega | (simp only [List.length_append, List.length_cons, List.length_nil, List.length_set] <;> omega) | fail)) | fail) only [↓reduceIte, go_sem, Nat.reduceLT, Nat.reduceLeDiff, Nat.reduceEqDiff, Nat.reduceAdd, Nat.reduceMul, reduceCtorEq, Int.reduceToNat, Int.reduceLT, Int.reduceLE, Int.reduceAdd, Int.reduceSub, Int.reduceEq, Int.reduceBEq, Int.reduceBNe, Nat.reduceBEq, Nat.reduceBNe, Int.reduceMul, Int.reduceNeg]
  exact hR _ (p0.trans p1)

theorem rsettle_is {v0 : Value} {l : List Prod} {x : Bidr} {bl : List Int} {p : Int} (hl : Sl LProd H v0 l) (hb : Sl (Lay.int .i64) H x.blocks bl) (hn : l.length ≤ 1000)
    (hR : SettleR l x bl p H R) : WF tab hook 12 [v0, .agg (LBid.c x).toArray, .int .i64 p] H R := by
  refine WF_def (tab := tab) (F := 12) rfl rfl ?_
  simp -implicitDefEqProofs (disch := first | omega | (simp only [List.length_append, List.length_cons, List.length_nil, List.length_set] <;> omega) | (repeat' (first | assumption | exact Pre.refl _ | refine Pre.push ?_ rfl | refine Pre.set ?_ ?_ rfl | omega | (simp only [List.length_append, List.length_cons, List.length_nil, List.length_set] <;> omega) | fail)) | fail) only [↓reduceIte, go_sem, Nat.reduceLT, Nat.reduceLeDiff, Nat.reduceEqDiff, Nat.reduceAdd, Nat.reduceMul, reduceCtorEq, Int.reduceToNat, Int.reduceLT, Int.reduceLE, Int.reduceAdd, Int.reduceSub, Int.reduceEq, Int.reduceBEq, Int.reduceBNe, Nat.reduceBEq, Nat.reduceBNe, Int.reduceMul, Int.reduceNeg, LBid]
  have e6 : (H ++ [IObj.cells [.int .i64 x.id, .int .i64 x.elig, .int .i64 x.waiv, x.blocks] false 0]).length = H.length + 1 := by simp
  have p0 := ((Pre.refl H).push (x := .cells [.int .i64 x.id, .int .i64 x.elig, .int .i64 x.waiv, x.blocks] false 0) rfl).push (x := .cells [.int .i64 0, .int .i64 0, .int .i64 0, .slice none 0 0] false 0) rfl
  refine alone_is (x := x) (bl := bl) (hl.mono p0) (hb.mono p0) hn fun H1 p1 => ?_
  have p1' := p0.trans p1
  have lp1 := p1.len; (try simp only [List.length_append, List.length_cons, List.length_nil, List.length_set] at lp1)
  have w6 : H1.wrow (H.length + 1) = some ([.int .i64 0, .int .i64 0, .int .i64 0, .slice none 0 0], 0) := wrow_pfx' p1 (by simp [Heap.wrow])
  have r4 : H1.row H.length = some [.int .i64 x.id, .int .i64 x.elig, .int .i64 x.waiv, x.blocks] := row_pfx' p1 (by simp [Heap.row])
  by_cases hk : x.ok l bl
  · simp -implicitDefEqProofs (disch := first | omega | (simp only [List.length_append, List.length_cons, List.length_nil, List.length_set] <;> omega) | (repeat' (first | assumption | exact Pre.refl _ | refine Pre.push ?_ rfl | refine Pre.set ?_ ?_ rfl | omega | (simp only [List.length_append, List.length_cons, List.length_nil, List.length_set] <;> omega) | fail)) | fail) only [↓reduceIte, go_sem, Nat.reduceLT, Nat.reduceLeDiff, Nat.reduceEqDiff, Nat.reduceAdd, Nat.reduceMul, reduceCtorEq, Int.reduceToNat, Int.reduceLT, Int.reduceLE, Int.reduceAdd, Int.reduceSub, Int.reduceEq, Int.reduceBEq, Int.reduceBNe, Nat.reduceBEq, Nat.reduceBNe, Int.reduceMul, Int.reduceNeg, *]
    repeat' (first | (((first | refine wguard_split (fun hbr => ?_) (fun hbr => ?_) | refine wcond_split (fun hbr => ?_) (fun hbr => ?_) | refine wguard0_split (fun hbr => ?_) (fun hbr => ?_)) <;> (have hq := hbr; (try simp only [Bool.not_eq_true', Bool.not_eq_false', Bool.and_eq_true, Bool.and_eq_false_iff, Bool.or_eq_true, Bool.or_eq_false_iff, decide_eq_true_eq, decide_eq_false_iff_not, bne_iff_ne, beq_iff_eq, beq_eq_false_iff_ne, bne_eq_false_iff_eq, ne_eq, Int.not_lt, Int.not_le, Int.ofNat_inj, Bool.not_eq_true, Bool.not_eq_false] at hq))) <;> simp -implicitDefEqProofs (disch := first | omega | (simp only [List.length_append, List.length_cons, List.length_nil, List.length_set] <;> omega) | (repeat' (first | assumption | exact Pre.refl _ | refine Pre.push ?_ rfl | refine Pre.set ?_ ?_ rfl | omega | (simp only [List.length_append, List.length_cons, List.length_nil, List.length_set] <;> omega) | fail)) | fail) only [↓reduceIte, go_sem, Nat.reduceLT, Nat.reduceLeDiff, Nat.reduceEqDiff, Nat.reduceAdd, Nat.reduceMul, reduceCtorEq, Int.reduceToNat, Int.reduceLT, Int.reduceLE, Int.reduceAdd, Int.reduceSub, Int.reduceEq, Int.reduceBEq, Int.reduceBNe, Nat.reduceBEq, Nat.reduceBNe, Int.reduceMul, Int.reduceNeg, *, e6, w6]) | (apply And.intro; omega; try simp -implicitDefEqProofs (disch := first | omega | (simp only [List.length_append, List.length_cons, List.length_nil, List.length_set] <;> omega) | (repeat' (first | assumption | exact Pre.refl _ | refine Pre.push ?_ rfl | refine Pre.set ?_ ?_ rfl | omega | (simp only [List.length_append, List.length_cons, List.length_nil, List.length_set] <;> omega) | fail)) | fail) only [↓reduceIte, go_sem, Nat.reduceLT, Nat.reduceLeDiff, Nat.reduceEqDiff, Nat.reduceAdd, Nat.reduceMul, reduceCtorEq, Int.reduceToNat, Int.reduceLT, Int.reduceLE, Int.reduceAdd, Int.reduceSub, Int.reduceEq, Int.reduceBEq, Int.reduceBNe, Nat.reduceBEq, Nat.reduceBNe, Int.reduceMul, Int.reduceNeg, *, e6, w6]))
    · exact (hR _ (.slice none 0 0)).2 (fun h => by have := h.2; omega) (p1'.set (by omega) rfl)
    · exact (hR _ (.slice none 0 0)).2 (fun h => by have := h.2; omega) (p1'.set (by omega) rfl)
    · have hok : okSettle l x bl p := ⟨hk, by omega, by omega⟩
      have hg := good_of_ok hok
      have hd : DValid l bl := by unfold Bidr.ok at hk; exact hk.2.2.2.2.2.2.1
      have hu := units_bound hd hn
      have hue : unitsOf l bl ≤ x.elig := by unfold Bidr.ok at hk; exact hk.2.2.2.2.2.2.2
      refine runits_is (hl.mono p1') (hb.mono p1') hn fun H2 p2 => ?_
      have lp2 := p2.len; (try simp only [List.length_append, List.length_cons, List.length_nil, List.length_set] at lp2)
      have w6' := wrow_pfx' p2 w6
      have r4' := row_pfx' p2 r4
      rw [dUnits_yes hd]
      simp -implicitDefEqProofs (disch := first | omega | (simp only [List.length_append, List.length_cons, List.length_nil, List.length_set] <;> omega) | (repeat' (first | assumption | exact Pre.refl _ | refine Pre.push ?_ rfl | refine Pre.set ?_ ?_ rfl | omega | (simp only [List.length_append, List.length_cons, List.length_nil, List.length_set] <;> omega) | fail)) | fail) only [↓reduceIte, go_sem, Nat.reduceLT, Nat.reduceLeDiff, Nat.reduceEqDiff, Nat.reduceAdd, Nat.reduceMul, reduceCtorEq, Int.reduceToNat, Int.reduceLT, Int.reduceLE, Int.reduceAdd, Int.reduceSub, Int.reduceEq, Int.reduceBEq, Int.reduceBNe, Nat.reduceBEq, Nat.reduceBNe, Int.reduceMul, Int.reduceNeg, *]
      refine copyb_is (x := x) (bl := bl) ?hx (hb.mono ((p1'.trans p2).push rfl)) (by rw [hd.len]; exact hn) fun H3 v w hv ow => ?_
      case hx => exact Sl.new (L := LBid) (l := [_]) rfl
      have p3 := ow.pre
      have lp3 := p3.len; (try simp only [List.length_append, List.length_cons, List.length_nil, List.length_set] at lp3)
      obtain ⟨b1, o1, c1, row1, rfl, h1⟩ := hv.into (by simp)
      have f1 := inBid1 h1
      have r1 := h1.hrow
      have r4'' := row_pfx' p3 (row_pfx' ((Pre.refl H2).push (x := .cells [.int .i64 x.id, .int .i64 x.elig, .int .i64 x.waiv, x.blocks] false 0) rfl) r4')
      have w6'' := wrow_pfx' p3 (wrow_pfx' ((Pre.refl H2).push (x := .cells [.int .i64 x.id, .int .i64 x.elig, .int .i64 x.waiv, x.blocks] false 0) rfl) w6')
      obtain ⟨oa, cv, hv⟩ := ow.sl.form
      have lt4 := row_lt r4''
      have lt6 := wrow_lt w6''
      simp -implicitDefEqProofs (disch := first | omega | (simp only [List.length_append, List.length_cons, List.length_nil, List.length_set] <;> omega) | (repeat' (first | assumption | exact Pre.refl _ | refine Pre.push ?_ rfl | refine Pre.set ?_ ?_ rfl | omega | (simp only [List.length_append, List.length_cons, List.length_nil, List.length_set] <;> omega) | fail)) | fail) only [↓reduceIte, go_sem, Nat.reduceLT, Nat.reduceLeDiff, Nat.reduceEqDiff, Nat.reduceAdd, Nat.reduceMul, reduceCtorEq, Int.reduceToNat, Int.reduceLT, Int.reduceLE, Int.reduceAdd, Int.reduceSub, Int.reduceEq, Int.reduceBEq, Int.reduceBNe, Nat.reduceBEq, Nat.reduceBNe, Int.reduceMul, Int.reduceNeg, *, keepR_is _ _ _ _ hg ⟨hu.1, hue⟩]
      have ow3 := ow.other (H0 := H) (H3 := H3.set (H.length + 1) (.cells [.int .i64 x.id, .int .i64 (keepE x.elig x.waiv (unitsOf l bl) p), .int .i64 (keepW x.elig x.waiv (unitsOf l bl) p), .slice oa bl.length cv] false 0) ++ [.cells [.int .i64 x.id, .int .i64 (keepE x.elig x.waiv (unitsOf l bl) p), .int .i64 (keepW x.elig x.waiv (unitsOf l bl) p), .slice oa bl.length cv] false 0])
        (((((p1'.trans p2).push rfl).trans p3).set (by omega) rfl).push rfl) (by simp; omega) (fun i hi hi2 => by simp at hi; rw [List.getElem?_append_left (by simpa using hi2), List.getElem?_set_ne (by omega)])
      have := (hR _ _).1 hok ow3
      rw [hv] at this
      exact this
  · simp -implicitDefEqProofs (disch := first | omega | (simp only [List.length_append, List.length_cons, List.length_nil, List.length_set] <;> omega) | (repeat' (first | assumption | exact Pre.refl _ | refine Pre.push ?_ rfl | refine Pre.set ?_ ?_ rfl | omega | (simp only [List.length_append, List.length_cons, List.length_nil, List.length_set] <;> omega) | fail)) | fail) only [↓reduceIte, go_sem, Nat.reduceLT, Nat.reduceLeDiff, Nat.reduceEqDiff, Nat.reduceAdd, Nat.reduceMul, reduceCtorEq, Int.reduceToNat, Int.reduceLT, Int.reduceLE, Int.reduceAdd, Int.reduceSub, Int.reduceEq, Int.reduceBEq, Int.reduceBNe, Nat.reduceBEq, Nat.reduceBNe, Int.reduceMul, Int.reduceNeg, *]
    repeat' (first | (((first | refine wguard_split (fun hbr => ?_) (fun hbr => ?_) | refine wcond_split (fun hbr => ?_) (fun hbr => ?_) | refine wguard0_split (fun hbr => ?_) (fun hbr => ?_)) <;> (have hq := hbr; (try simp only [Bool.not_eq_true', Bool.not_eq_false', Bool.and_eq_true, Bool.and_eq_false_iff, Bool.or_eq_true, Bool.or_eq_false_iff, decide_eq_true_eq, decide_eq_false_iff_not, bne_iff_ne, beq_iff_eq, beq_eq_false_iff_ne, bne_eq_false_iff_eq, ne_eq, Int.not_lt, Int.not_le, Int.ofNat_inj, Bool.not_eq_true, Bool.not_eq_false] at hq))) <;> simp -implicitDefEqProofs (disch := first | omega | (simp only [List.length_append, List.length_cons, List.length_nil, List.length_set] <;> omega) | (repeat' (first | assumption | exact Pre.refl _ | refine Pre.push ?_ rfl | refine Pre.set ?_ ?_ rfl | omega | (simp only [List.length_append, List.length_cons, List.length_nil, List.length_set] <;> omega) | fail)) | fail) only [↓reduceIte, go_sem, Nat.reduceLT, Nat.reduceLeDiff, Nat.reduceEqDiff, Nat.reduceAdd, Nat.reduceMul, reduceCtorEq, Int.reduceToNat, Int.reduceLT, Int.reduceLE, Int.reduceAdd, Int.reduceSub, Int.reduceEq, Int.reduceBEq, Int.reduceBNe, Nat.reduceBEq, Nat.reduceBNe, Int.reduceMul, Int.reduceNeg, *]) | (apply And.intro; omega; try simp -implicitDefEqProofs (disch := first | omega | (simp only [List.length_append, List.length_cons, List.length_nil, List.length_set] <;> omega) | (repeat' (first | assumption | exact Pre.refl _ | refine Pre.push ?_ rfl | refine Pre.set ?_ ?_ rfl | omega | (simp only [List.length_append, List.length_cons, List.length_nil, List.length_set] <;> omega) | fail)) | fail) only [↓reduceIte, go_sem, Nat.reduceLT, Nat.reduceLeDiff, Nat.reduceEqDiff, Nat.reduceAdd, Nat.reduceMul, reduceCtorEq, Int.reduceToNat, Int.reduceLT, Int.reduceLE, Int.reduceAdd, Int.reduceSub, Int.reduceEq, Int.reduceBEq, Int.reduceBNe, Nat.reduceBEq, Nat.reduceBNe, Int.reduceMul, Int.reduceNeg, *]))
    all_goals exact (hR _ (.slice none 0 0)).2 (fun h => hk h.1) (p1'.set (by omega) rfl)

end Go.Proofs.Ytmjmnjfopgabjaa.Tab
