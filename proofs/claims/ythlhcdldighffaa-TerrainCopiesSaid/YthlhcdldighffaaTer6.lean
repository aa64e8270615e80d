/- Terrains: a copy, and the law on copies. A lemma for the statement. -/
import Derived.Test.YthlhcdldighffaaTer5
namespace Go.Proofs.Ythlhcdldighffaa.Tab
open Go Go.IM Go.RowKit
set_option maxRecDepth 100000
set_option linter.unusedSimpArgs false
set_option linter.unusedVariables false
set_option maxHeartbeats 4000000

variable {hook : CallFn} {R : IEnd → Heap → Prop} {H : Heap}

/-- A slice whose block is whole and its own, between two numbers of blocks. -/
def Own (lo hi : Nat) (H : Heap) (v : Value) (b : Nat) (l : List Int) : Prop :=
  0 < l.length → v = .slice (some ⟨b, 0, none⟩) l.length 1 ∧ lo ≤ b ∧ b < hi ∧ H.wrow b = some (l.flatMap (Lay.int .i64).c, 1)

theorem Own.of {H0 : Heap} {v : Value} {l : List Int} (h : Ow (Lay.int .i64) H0 H v l) : ∃ b, Own H0.length H.length H v b l := by
  by_cases e : 0 < l.length
  · obtain ⟨b, h1, h2, h3, h4⟩ := h.into e
    exact ⟨b, fun _ => ⟨h1, h2, h3, h4⟩⟩
  · exact ⟨0, fun h => absurd h e⟩

theorem Own.sl {lo hi b : Nat} {H' : Heap} {v : Value} {l : List Int} (h : Own lo hi H' v b l) (hs : Sl (Lay.int .i64) H v l) : Sl (Lay.int .i64) H' v l := by
  by_cases e : 0 < l.length
  · obtain ⟨h1, h2, h3, h4⟩ := h e
    exact ⟨.inr ⟨b, 0, 1, h1, .inr ⟨_, row_wrow h4, [], [], by simp, rfl⟩⟩⟩
  · have : l = [] := List.eq_nil_of_length_eq_zero (by omega)
    obtain ⟨h | ⟨b, o, c, h1, h2⟩⟩ := hs
    · exact ⟨.inl h⟩
    · exact ⟨.inr ⟨b, o, c, h1, .inl this⟩⟩

/-- A block of another was written. -/
theorem Own.other {lo hi b b' : Nat} {x : IObj} {v : Value} {l : List Int} (h : Own lo hi H v b l) (hb : b' < lo ∨ hi ≤ b') : Own lo hi (H.set b' x) v b l := fun e => by
  obtain ⟨h1, h2, h3, h4⟩ := h e
  exact ⟨h1, h2, h3, by rw [wrow_set_ne (by omega)]; exact h4⟩

theorem Own.mono {lo hi lo' hi' b : Nat} {H' : Heap} {v : Value} {l : List Int} (h : Own lo hi H v b l) (hp : Pre H H') (h1 : lo' ≤ lo) (h2 : hi ≤ hi') : Own lo' hi' H' v b l := fun e => by
  obtain ⟨x1, x2, x3, x4⟩ := h e
  exact ⟨x1, by omega, by omega, wrow_pfx' hp x4⟩

theorem Own.put {lo hi b i : Nat} {v : Value} {l : List Int} (h : Own lo hi H v b l) (hi' : i < l.length) (x : Int) :
    Own lo hi (H.set b (.cells (lay (l.flatMap (Lay.int .i64).c) (i * 1) ((Lay.int .i64).c x)) false 1)) v b (l.set i x) := fun e => by
  obtain ⟨x1, x2, x3, x4⟩ := h (by omega)
  refine ⟨by rw [List.length_set]; exact x1, x2, x3, ?_⟩
  have := lay_flatMap (L := Lay.int .i64) l i x hi'
  rw [wrow_set_same (wrow_lt x4)]
  exact congrArg (fun c => some (c, 1)) this

theorem copy_is {t : Ter} {gl pl : List Int} (ht : TerIn H t gl pl) (hg : gl.length ≤ 1000000) (hp : pl.length ≤ 1000000)
    (hR : ∀ H' v1 v2 b1 b2 m, Pre H H' → H.length ≤ m → m ≤ H'.length → Sl (Lay.int .i64) H' v1 gl → Sl (Lay.int .i64) H' v2 pl → Own H.length m H' v1 b1 gl → Own m H'.length H' v2 b2 pl → R (.ret (.agg #[.int .i64 t.w, .int .i64 t.h, v1, v2])) H') :
    WF tab hook 40 [.agg t.cs.toArray] H R := by
  refine WF_def (tab := tab) (F := 40) rfl rfl ?_
  have e4 : ∀ o : IObj, (H ++ [o]).length = H.length + 1 := fun o => by simp
  simp -implicitDefEqProofs (disch := first | omega | (simp only [List.length_append, List.length_cons, List.length_nil, List.length_set] <;> omega) | (repeat' (first | assumption | exact Pre.refl _ | refine Pre.push ?_ rfl | refine Pre.set ?_ ?_ rfl | omega | (simp only [List.length_append, List.length_cons, List.length_nil, List.length_set] <;> omega) | fail)) | fail) only [↓reduceIte, go_sem, Nat.reduceLT, Nat.reduceLeDiff, Nat.reduceEqDiff, Nat.reduceAdd, Nat.reduceMul, reduceCtorEq, Int.reduceToNat, Int.reduceLT, Int.reduceLE, Int.reduceAdd, Int.reduceSub, Int.reduceEq, Int.reduceBEq, Int.reduceBNe, Nat.reduceBEq, Nat.reduceBNe, Int.reduceMul, Int.reduceNeg, Ter.cs, e4]
  refine clone_is (ht.g.mono (by (repeat' (first | assumption | exact Pre.refl _ | refine Pre.push ?_ rfl | refine Pre.set ?_ ?_ rfl | omega | (simp only [List.length_append, List.length_cons, List.length_nil, List.length_set] <;> omega) | fail)))) hg fun H1 v1 ow1 => ?_
  obtain ⟨b1, n1⟩ := Own.of ow1
  have p1 := ow1.pre
  have sl1 := ow1.sl
  obtain ⟨o1, c1, rfl⟩ := sl1.form
  have q1 : Pre H H1 := (((Pre.refl H).push rfl).push rfl).trans p1
  have r1 : H1.row H.length = some [.int .i64 t.w, .int .i64 t.h, t.g, t.p] := row_pfx' p1 (by rw [row_push (by simp), row_new])
  have w1 : H1.wrow (H.length + 1) = some ([.int .i64 0, .int .i64 0, .slice none 0 0, .slice none 0 0], 0) := wrow_pfx' p1 (wrow_new' (by simp))
  simp -implicitDefEqProofs (disch := first | omega | (simp only [List.length_append, List.length_cons, List.length_nil, List.length_set] <;> omega) | (repeat' (first | assumption | exact Pre.refl _ | refine Pre.push ?_ rfl | refine Pre.set ?_ ?_ rfl | omega | (simp only [List.length_append, List.length_cons, List.length_nil, List.length_set] <;> omega) | fail)) | fail) only [↓reduceIte, go_sem, Nat.reduceLT, Nat.reduceLeDiff, Nat.reduceEqDiff, Nat.reduceAdd, Nat.reduceMul, reduceCtorEq, Int.reduceToNat, Int.reduceLT, Int.reduceLE, Int.reduceAdd, Int.reduceSub, Int.reduceEq, Int.reduceBEq, Int.reduceBNe, Nat.reduceBEq, Nat.reduceBNe, Int.reduceMul, Int.reduceNeg, *]
  refine clone_is (ht.p.mono q1) hp fun H2 v2 ow2 => ?_
  obtain ⟨b2, n2⟩ := Own.of ow2
  have p2 := ow2.pre
  have sl2 := ow2.sl
  obtain ⟨o2, c2, rfl⟩ := sl2.form
  clear ow1 ow2
  have q2 := q1.trans p2
  have w2 := wrow_pfx' p2 w1
  have l2 := wrow_lt w1
  have l3 := p2.len
  have lp1 := p1.len
  simp only [List.length_append, List.length_cons, List.length_nil] at lp1
  have z2 := row_set_same (H := H2) (b := H.length + 1) (c := [.int .i64 t.w, .int .i64 t.h, .slice o1 gl.length c1, .slice o2 pl.length c2]) (ro := false) (lo := 0) (by omega)
  simp -implicitDefEqProofs (disch := first | omega | (simp only [List.length_append, List.length_cons, List.length_nil, List.length_set] <;> omega) | (repeat' (first | assumption | exact Pre.refl _ | refine Pre.push ?_ rfl | refine Pre.set ?_ ?_ rfl | omega | (simp only [List.length_append, List.length_cons, List.length_nil, List.length_set] <;> omega) | fail)) | fail) only [↓reduceIte, go_sem, Nat.reduceLT, Nat.reduceLeDiff, Nat.reduceEqDiff, Nat.reduceAdd, Nat.reduceMul, reduceCtorEq, Int.reduceToNat, Int.reduceLT, Int.reduceLE, Int.reduceAdd, Int.reduceSub, Int.reduceEq, Int.reduceBEq, Int.reduceBNe, Nat.reduceBEq, Nat.reduceBNe, Int.reduceMul, Int.reduceNeg, *]
  simp only [List.length_append, List.length_cons, List.length_nil] at n1
  have n3 := ((n1.mono p2 (lo' := H.length + 2) (hi' := H1.length) (by omega) (by omega)).other (b' := H.length + 1) (x := IObj.cells [.int .i64 t.w, .int .i64 t.h, .slice o1 gl.length c1, .slice o2 pl.length c2] false 0) (.inl (by omega))).mono (lo' := H.length) (hi' := H1.length) (Pre.refl _) (by omega) (by omega)
  have n4 := (n2.other (b' := H.length + 1) (x := IObj.cells [.int .i64 t.w, .int .i64 t.h, .slice o1 gl.length c1, .slice o2 pl.length c2] false 0) (.inl (by omega)))
  refine hR _ _ _ b1 b2 H1.length (q2.set (by omega) rfl) (by omega) (by simpa using l3) (n3.sl sl1) (n4.sl sl2) n3 ?_
  simpa using n4

theorem lawCopies_is {a b : Ter} {ga pa gb pb : List Int} (ha : TerIn H a ga pa) (hb : TerIn H b gb pb) (hR : ∀ H', R (.ret (.bool true)) H') :
    WF tab kHook 10 [.agg a.cs.toArray, .agg b.cs.toArray] H R := by
  refine WF_def (tab := tab) (F := 10) rfl rfl ?_
  have e4 : ∀ o : IObj, (H ++ [o]).length = H.length + 1 := fun o => by simp
  simp -implicitDefEqProofs (disch := first | omega | (simp only [List.length_append, List.length_cons, List.length_nil, List.length_set] <;> omega) | (repeat' (first | assumption | exact Pre.refl _ | refine Pre.push ?_ rfl | refine Pre.set ?_ ?_ rfl | omega | (simp only [List.length_append, List.length_cons, List.length_nil, List.length_set] <;> omega) | fail)) | fail) only [↓reduceIte, go_sem, Nat.reduceLT, Nat.reduceLeDiff, Nat.reduceEqDiff, Nat.reduceAdd, Nat.reduceMul, reduceCtorEq, Int.reduceToNat, Int.reduceLT, Int.reduceLE, Int.reduceAdd, Int.reduceSub, Int.reduceEq, Int.reduceBEq, Int.reduceBNe, Nat.reduceBEq, Nat.reduceBNe, Int.reduceMul, Int.reduceNeg, Ter.cs, e4]
  refine big_is (t := a) (ha.mono (by (repeat' (first | assumption | exact Pre.refl _ | refine Pre.push ?_ rfl | refine Pre.set ?_ ?_ rfl | omega | (simp only [List.length_append, List.length_cons, List.length_nil, List.length_set] <;> omega) | fail)))) fun H1 p1 b1 hb1 => ?_
  have r1 : H1.row H.length = some [.int .i64 a.w, .int .i64 a.h, a.g, a.p] := row_pfx' p1 (by rw [row_push (by simp), row_new])
  have s1 : H1.row (H.length + 1) = some [.int .i64 b.w, .int .i64 b.h, b.g, b.p] := row_pfx' p1 (row_new' (by simp))
  have q1 : Pre H H1 := (((Pre.refl H).push rfl).push rfl).trans p1
  cases b1
  case true => simp -implicitDefEqProofs (disch := first | omega | (simp only [List.length_append, List.length_cons, List.length_nil, List.length_set] <;> omega) | (repeat' (first | assumption | exact Pre.refl _ | refine Pre.push ?_ rfl | refine Pre.set ?_ ?_ rfl | omega | (simp only [List.length_append, List.length_cons, List.length_nil, List.length_set] <;> omega) | fail)) | fail) only [↓reduceIte, go_sem, Nat.reduceLT, Nat.reduceLeDiff, Nat.reduceEqDiff, Nat.reduceAdd, Nat.reduceMul, reduceCtorEq, Int.reduceToNat, Int.reduceLT, Int.reduceLE, Int.reduceAdd, Int.reduceSub, Int.reduceEq, Int.reduceBEq, Int.reduceBNe, Nat.reduceBEq, Nat.reduceBNe, Int.reduceMul, Int.reduceNeg, *, known_is]
  have hg1 : ga.length ≤ 300 ∧ pa.length ≤ 300 := by
    have := (not_congr hb1).1 (by decide)
    omega
  clear hb1
  simp -implicitDefEqProofs (disch := first | omega | (simp only [List.length_append, List.length_cons, List.length_nil, List.length_set] <;> omega) | (repeat' (first | assumption | exact Pre.refl _ | refine Pre.push ?_ rfl | refine Pre.set ?_ ?_ rfl | omega | (simp only [List.length_append, List.length_cons, List.length_nil, List.length_set] <;> omega) | fail)) | fail) only [↓reduceIte, go_sem, Nat.reduceLT, Nat.reduceLeDiff, Nat.reduceEqDiff, Nat.reduceAdd, Nat.reduceMul, reduceCtorEq, Int.reduceToNat, Int.reduceLT, Int.reduceLE, Int.reduceAdd, Int.reduceSub, Int.reduceEq, Int.reduceBEq, Int.reduceBNe, Nat.reduceBEq, Nat.reduceBNe, Int.reduceMul, Int.reduceNeg, *]
  refine big_is (t := b) (hb.mono q1) fun H2 p2 b2 hb2 => ?_
  have q2 := q1.trans p2
  have r2 := row_pfx' p2 r1
  have s2 := row_pfx' p2 s1
  cases b2
  case true => simp -implicitDefEqProofs (disch := first | omega | (simp only [List.length_append, List.length_cons, List.length_nil, List.length_set] <;> omega) | (repeat' (first | assumption | exact Pre.refl _ | refine Pre.push ?_ rfl | refine Pre.set ?_ ?_ rfl | omega | (simp only [List.length_append, List.length_cons, List.length_nil, List.length_set] <;> omega) | fail)) | fail) only [↓reduceIte, go_sem, Nat.reduceLT, Nat.reduceLeDiff, Nat.reduceEqDiff, Nat.reduceAdd, Nat.reduceMul, reduceCtorEq, Int.reduceToNat, Int.reduceLT, Int.reduceLE, Int.reduceAdd, Int.reduceSub, Int.reduceEq, Int.reduceBEq, Int.reduceBNe, Nat.reduceBEq, Nat.reduceBNe, Int.reduceMul, Int.reduceNeg, *, known_is]
  have hg2 : gb.length ≤ 300 ∧ pb.length ≤ 300 := by
    have := (not_congr hb2).1 (by decide)
    omega
  clear hb2
  simp -implicitDefEqProofs (disch := first | omega | (simp only [List.length_append, List.length_cons, List.length_nil, List.length_set] <;> omega) | (repeat' (first | assumption | exact Pre.refl _ | refine Pre.push ?_ rfl | refine Pre.set ?_ ?_ rfl | omega | (simp only [List.length_append, List.length_cons, List.length_nil, List.length_set] <;> omega) | fail)) | fail) only [↓reduceIte, go_sem, Nat.reduceLT, Nat.reduceLeDiff, Nat.reduceEqDiff, Nat.reduceAdd, Nat.reduceMul, reduceCtorEq, Int.reduceToNat, Int.reduceLT, Int.reduceLE, Int.reduceAdd, Int.reduceSub, Int.reduceEq, Int.reduceBEq, Int.reduceBNe, Nat.reduceBEq, Nat.reduceBNe, Int.reduceMul, Int.reduceNeg, *]
  refine tequal_is (a := a) (b := b) (ha.mono q2) (hb.mono q2) (by omega) (by omega) fun H3 p3 => ?_
  have q3 := q2.trans p3
  have r3 := row_pfx' p3 r2
  have s3 := row_pfx' p3 s2
  simp -implicitDefEqProofs (disch := first | omega | (simp only [List.length_append, List.length_cons, List.length_nil, List.length_set] <;> omega) | (repeat' (first | assumption | exact Pre.refl _ | refine Pre.push ?_ rfl | refine Pre.set ?_ ?_ rfl | omega | (simp only [List.length_append, List.length_cons, List.length_nil, List.length_set] <;> omega) | fail)) | fail) only [↓reduceIte, go_sem, Nat.reduceLT, Nat.reduceLeDiff, Nat.reduceEqDiff, Nat.reduceAdd, Nat.reduceMul, reduceCtorEq, Int.reduceToNat, Int.reduceLT, Int.reduceLE, Int.reduceAdd, Int.reduceSub, Int.reduceEq, Int.reduceBEq, Int.reduceBNe, Nat.reduceBEq, Nat.reduceBNe, Int.reduceMul, Int.reduceNeg, *]
  refine requal_is (a := a) (b := b) (ha.mono q3) (hb.mono q3) (by omega) (by omega) fun H4 p4 => ?_
  have q4 := q3.trans p4
  have r4 := row_pfx' p4 r3
  have s4 := row_pfx' p4 s3
  simp -implicitDefEqProofs (disch := first | omega | (simp only [List.length_append, List.length_cons, List.length_nil, List.length_set] <;> omega) | (repeat' (first | assumption | exact Pre.refl _ | refine Pre.push ?_ rfl | refine Pre.set ?_ ?_ rfl | omega | (simp only [List.length_append, List.length_cons, List.length_nil, List.length_set] <;> omega) | fail)) | fail) only [↓reduceIte, go_sem, Nat.reduceLT, Nat.reduceLeDiff, Nat.reduceEqDiff, Nat.reduceAdd, Nat.reduceMul, reduceCtorEq, Int.reduceToNat, Int.reduceLT, Int.reduceLE, Int.reduceAdd, Int.reduceSub, Int.reduceEq, Int.reduceBEq, Int.reduceBNe, Nat.reduceBEq, Nat.reduceBNe, Int.reduceMul, Int.reduceNeg, *]
  refine tequal_is (a := a) (b := a) (ha.mono q4) (ha.mono q4) (by omega) (by omega) fun H5 p5 => ?_
  rw [decide_eq_true (show TEq a a ga pa ga pa from ⟨⟨rfl, rfl⟩, rfl, rfl⟩)]
  have q5 := q4.trans p5
  have r5 := row_pfx' p5 r4
  have l5 := row_lt r5
  clear p1 r1 s1 r2 s2 r3 s3 r4 s4 p2 p3 p4 p5
  have eg : elems (H5 ++ [.cells [] false 0]) 1 a.g = some (ga.length, ga.flatMap (Lay.int .i64).c) := ((ha.g.mono q5).mono ((Pre.refl H5).push rfl)).elems
  have ow0 : Ow (Lay.int .i64) (H5 ++ [.cells [] false 0]) (H5 ++ [.cells [] false 0]) (.slice (some ⟨H5.length, 0, none⟩) 0 0) [] := ⟨Pre.refl _, .inr (.inr ⟨_, _, rfl, rfl⟩)⟩
  obtain ⟨v3, H6, e6, ow6, -⟩ := ow0.app (l2 := ga) (n := ga.length) (bytes := 8) (xs := ga.flatMap (Lay.int .i64).c) rfl rfl (by simp; omega) (by simp; omega)
  have e6' : iapp 1 8 (.slice (some ⟨H5.length, 0, none⟩) 0 0) ga.length (ga.flatMap (Lay.int .i64).c) (H5 ++ [.cells [] false 0]) = some (v3, H6) := e6
  simp only [List.nil_append] at ow6
  have g6 := ow6.pre
  have p6 := ((Pre.refl H5).push rfl).trans g6
  have q6 := q5.trans p6
  have r6 := row_pfx' p6 r5
  have sl6 := ow6.sl
  obtain ⟨o3, c3, rfl⟩ := sl6.form
  have ep : elems (H6 ++ [.cells [] false 0]) 1 a.p = some (pa.length, pa.flatMap (Lay.int .i64).c) := ((ha.p.mono q6).mono ((Pre.refl H6).push rfl)).elems
  have ow0' : Ow (Lay.int .i64) (H6 ++ [.cells [] false 0]) (H6 ++ [.cells [] false 0]) (.slice (some ⟨H6.length, 0, none⟩) 0 0) [] := ⟨Pre.refl _, .inr (.inr ⟨_, _, rfl, rfl⟩)⟩
  obtain ⟨v4, H7, e7, ow7, -⟩ := ow0'.app (l2 := pa) (n := pa.length) (bytes := 8) (xs := pa.flatMap (Lay.int .i64).c) rfl rfl (by simp; omega) (by simp; omega)
  have e7' : iapp 1 8 (.slice (some ⟨H6.length, 0, none⟩) 0 0) pa.length (pa.flatMap (Lay.int .i64).c) (H6 ++ [.cells [] false 0]) = some (v4, H7) := e7
  simp only [List.nil_append] at ow7
  have g7 := ow7.pre
  have p7 := ((Pre.refl H6).push rfl).trans g7
  have q7 := q6.trans p7
  have r7 := row_pfx' p7 r6
  have l6 := row_lt r6
  have l7 := row_lt r7
  have sl7 := ow7.sl
  have sl6' := sl6.mono p7
  obtain ⟨o4, c4, rfl⟩ := sl7.form
  clear e6 e7 ow6 ow7 ow0 ow0'
  simp -implicitDefEqProofs (disch := first | omega | (simp only [List.length_append, List.length_cons, List.length_nil, List.length_set] <;> omega) | (repeat' (first | assumption | exact Pre.refl _ | refine Pre.push ?_ rfl | refine Pre.set ?_ ?_ rfl | omega | (simp only [List.length_append, List.length_cons, List.length_nil, List.length_set] <;> omega) | fail)) | fail) only [↓reduceIte, go_sem, Nat.reduceLT, Nat.reduceLeDiff, Nat.reduceEqDiff, Nat.reduceAdd, Nat.reduceMul, reduceCtorEq, Int.reduceToNat, Int.reduceLT, Int.reduceLE, Int.reduceAdd, Int.reduceSub, Int.reduceEq, Int.reduceBEq, Int.reduceBNe, Nat.reduceBEq, Nat.reduceBNe, Int.reduceMul, Int.reduceNeg, *]
  refine copy_is (t := a) (ha.mono (by (repeat' (first | assumption | exact Pre.refl _ | refine Pre.push ?_ rfl | refine Pre.set ?_ ?_ rfl | omega | (simp only [List.length_append, List.length_cons, List.length_nil, List.length_set] <;> omega) | fail)))) (by omega) (by omega) fun H8 v5 v6 b5 b6 m p8 m1 m2 sl5 sl8 n5 n6 => ?_
  have q8 : Pre H H8 := Pre.trans (by (repeat' (first | assumption | exact Pre.refl _ | refine Pre.push ?_ rfl | refine Pre.set ?_ ?_ rfl | omega | (simp only [List.length_append, List.length_cons, List.length_nil, List.length_set] <;> omega) | fail))) p8
  have r8 := row_pfx' p8 ((row_push l7).trans r7)
  have w8 : H8.row H7.length = some [.int .i64 a.w, .int .i64 a.h, .slice o3 ga.length c3, .slice o4 pa.length c4] := row_pfx' p8 row_new
  obtain ⟨o5, c5, rfl⟩ := sl5.form
  obtain ⟨o6, c6, rfl⟩ := sl8.form
  have l8 := row_lt r8
  have lw8 := row_lt w8
  clear e6' e7' eg ep
  simp -implicitDefEqProofs (disch := first | omega | (simp only [List.length_append, List.length_cons, List.length_nil, List.length_set] <;> omega) | (repeat' (first | assumption | exact Pre.refl _ | refine Pre.push ?_ rfl | refine Pre.set ?_ ?_ rfl | omega | (simp only [List.length_append, List.length_cons, List.length_nil, List.length_set] <;> omega) | fail)) | fail) only [↓reduceIte, go_sem, Nat.reduceLT, Nat.reduceLeDiff, Nat.reduceEqDiff, Nat.reduceAdd, Nat.reduceMul, reduceCtorEq, Int.reduceToNat, Int.reduceLT, Int.reduceLE, Int.reduceAdd, Int.reduceSub, Int.reduceEq, Int.reduceBEq, Int.reduceBNe, Nat.reduceBEq, Nat.reduceBNe, Int.reduceMul, Int.reduceNeg, *]
  refine requal_is (a := ⟨a.w, a.h, .slice o5 ga.length c5, .slice o6 pa.length c6⟩) (b := a) (ga := ga) (pa := pa) (gb := ga) (pb := pa) ⟨sl5.mono (by (repeat' (first | assumption | exact Pre.refl _ | refine Pre.push ?_ rfl | refine Pre.set ?_ ?_ rfl | omega | (simp only [List.length_append, List.length_cons, List.length_nil, List.length_set] <;> omega) | fail))), sl8.mono (by (repeat' (first | assumption | exact Pre.refl _ | refine Pre.push ?_ rfl | refine Pre.set ?_ ?_ rfl | omega | (simp only [List.length_append, List.length_cons, List.length_nil, List.length_set] <;> omega) | fail)))⟩ (ha.mono (by (repeat' (first | assumption | exact Pre.refl _ | refine Pre.push ?_ rfl | refine Pre.set ?_ ?_ rfl | omega | (simp only [List.length_append, List.length_cons, List.length_nil, List.length_set] <;> omega) | fail)))) (by omega) (by omega) fun H9 p9 => ?_
  rw [decide_eq_true (show TEq ⟨a.w, a.h, .slice o5 ga.length c5, .slice o6 pa.length c6⟩ a ga pa ga pa from ⟨⟨rfl, rfl⟩, rfl, rfl⟩)]
  have z8 : Pre H8 H9 := ((Pre.refl H8).push rfl).trans p9
  have r9 := row_pfx' p9 ((row_push l8).trans r8)
  have u9 := row_pfx' p9 ((row_push lw8).trans w8)
  have w9 := row_pfx' p9 row_new
  have k8 := p8.len
  simp only [List.length_append, List.length_cons, List.length_nil] at k8 m1 n5
  have n5' := n5.mono z8 (lo' := H7.length + 1) (hi' := m) (by omega) (by omega)
  have n6' := n6.mono z8 (lo' := m) (hi' := H8.length) (by omega) (by omega)
  have pc : Pre (H7 ++ [IObj.cells [.int .i64 a.w, .int .i64 a.h, .slice o3 ga.length c3, .slice o4 pa.length c4] false 0]) H9 := p8.trans z8
  have lc : (H7 ++ [IObj.cells [.int .i64 a.w, .int .i64 a.h, .slice o3 ga.length c3, .slice o4 pa.length c4] false 0]).length = H7.length + 1 := by simp
  have hpc : Pre H (H7 ++ [IObj.cells [.int .i64 a.w, .int .i64 a.h, .slice o3 ga.length c3, .slice o4 pa.length c4] false 0]) := by (repeat' (first | assumption | exact Pre.refl _ | refine Pre.push ?_ rfl | refine Pre.set ?_ ?_ rfl | omega | (simp only [List.length_append, List.length_cons, List.length_nil, List.length_set] <;> omega) | fail))
  have rc : (H7 ++ [IObj.cells [.int .i64 a.w, .int .i64 a.h, .slice o3 ga.length c3, .slice o4 pa.length c4] false 0]).row H.length = some [.int .i64 a.w, .int .i64 a.h, a.g, a.p] := (row_push l7).trans r7
  have wc : (H7 ++ [IObj.cells [.int .i64 a.w, .int .i64 a.h, .slice o3 ga.length c3, .slice o4 pa.length c4] false 0]).row H7.length = some [.int .i64 a.w, .int .i64 a.h, .slice o3 ga.length c3, .slice o4 pa.length c4] := row_new
  have wc3 : Sl (Lay.int .i64) (H7 ++ [IObj.cells [.int .i64 a.w, .int .i64 a.h, .slice o3 ga.length c3, .slice o4 pa.length c4] false 0]) (.slice o3 ga.length c3) ga := sl6'.mono (by (repeat' (first | assumption | exact Pre.refl _ | refine Pre.push ?_ rfl | refine Pre.set ?_ ?_ rfl | omega | (simp only [List.length_append, List.length_cons, List.length_nil, List.length_set] <;> omega) | fail)))
  have wc4 : Sl (Lay.int .i64) (H7 ++ [IObj.cells [.int .i64 a.w, .int .i64 a.h, .slice o3 ga.length c3, .slice o4 pa.length c4] false 0]) (.slice o4 pa.length c4) pa := sl7.mono (by (repeat' (first | assumption | exact Pre.refl _ | refine Pre.push ?_ rfl | refine Pre.set ?_ ?_ rfl | omega | (simp only [List.length_append, List.length_cons, List.length_nil, List.length_set] <;> omega) | fail)))
  have l9 := z8.len
  clear p9 z8 r8 w8 l8 lw8 p8 n5 n6 sl5 sl8 q8 r9 u9 r7 r6 r5 q2 q3 q4 q5 q6
  simp -implicitDefEqProofs (disch := first | omega | (simp only [List.length_append, List.length_cons, List.length_nil, List.length_set] <;> omega) | (repeat' (first | assumption | exact Pre.refl _ | refine Pre.push ?_ rfl | refine Pre.set ?_ ?_ rfl | omega | (simp only [List.length_append, List.length_cons, List.length_nil, List.length_set] <;> omega) | fail)) | fail) only [↓reduceIte, go_sem, Nat.reduceLT, Nat.reduceLeDiff, Nat.reduceEqDiff, Nat.reduceAdd, Nat.reduceMul, reduceCtorEq, Int.reduceToNat, Int.reduceLT, Int.reduceLE, Int.reduceAdd, Int.reduceSub, Int.reduceEq, Int.reduceBEq, Int.reduceBNe, Nat.reduceBEq, Nat.reduceBNe, Int.reduceMul, Int.reduceNeg, *]
  generalize H7 ++ [IObj.cells [.int .i64 a.w, .int .i64 a.h, .slice o3 ga.length c3, .slice o4 pa.length c4] false 0] = Hc at *
  refine wp_for [2, 4, 5, 6, 8, 62, 63, 64, 65, 66, 67, 68, 69, 70, 71, 72, 73, 74, 75, 76, 77, 78, 79, 80, 81] ga.length (fun i g H' => g 7 = .int .i64 (i : Int) ∧ Pre Hc H' ∧ H8.length ≤ H'.length ∧ H'.row H8.length = some [.int .i64 a.w, .int .i64 a.h, .slice o5 ga.length c5, .slice o6 pa.length c6] ∧ (∃ l', l'.length = ga.length ∧ Own (H7.length + 1) m H' (.slice o5 ga.length c5) b5 l') ∧ Own m H8.length H' (.slice o6 pa.length c6) b6 pa) ?_ 0 _ (by omega) ?_
  · rintro i g H2 hi hk ⟨e7, q2, ln, r2, ⟨l', hl', on5⟩, on6⟩
    simp -implicitDefEqProofs (disch := first | omega | (simp only [List.length_append, List.length_cons, List.length_nil, List.length_set] <;> omega) | (repeat' (first | assumption | exact Pre.refl _ | refine Pre.push ?_ rfl | refine Pre.set ?_ ?_ rfl | omega | (simp only [List.length_append, List.length_cons, List.length_nil, List.length_set] <;> omega) | fail)) | fail) only [↓reduceIte, go_sem, Nat.reduceLT, Nat.reduceLeDiff, Nat.reduceEqDiff, Nat.reduceAdd, Nat.reduceMul, reduceCtorEq, Int.reduceToNat, Int.reduceLT, Int.reduceLE, Int.reduceAdd, Int.reduceSub, Int.reduceEq, Int.reduceBEq, Int.reduceBNe, Nat.reduceBEq, Nat.reduceBNe, Int.reduceMul, Int.reduceNeg] at hk
    simp -implicitDefEqProofs (disch := first | omega | (simp only [List.length_append, List.length_cons, List.length_nil, List.length_set] <;> omega) | (repeat' (first | assumption | exact Pre.refl _ | refine Pre.push ?_ rfl | refine Pre.set ?_ ?_ rfl | omega | (simp only [List.length_append, List.length_cons, List.length_nil, List.length_set] <;> omega) | fail)) | fail) only [↓reduceIte, go_sem, Nat.reduceLT, Nat.reduceLeDiff, Nat.reduceEqDiff, Nat.reduceAdd, Nat.reduceMul, reduceCtorEq, Int.reduceToNat, Int.reduceLT, Int.reduceLE, Int.reduceAdd, Int.reduceSub, Int.reduceEq, Int.reduceBEq, Int.reduceBNe, Nat.reduceBEq, Nat.reduceBNe, Int.reduceMul, Int.reduceNeg, *]
    ((first | refine wguard_split (fun hbr => ?_) (fun hbr => ?_) | refine wcond_split (fun hbr => ?_) (fun hbr => ?_) | refine wguard0_split (fun hbr => ?_) (fun hbr => ?_)) <;> (have hq := hbr; (try simp only [Bool.not_eq_true', Bool.not_eq_false', Bool.and_eq_true, Bool.and_eq_false_iff, Bool.or_eq_true, Bool.or_eq_false_iff, decide_eq_true_eq, decide_eq_false_iff_not, bne_iff_ne, beq_iff_eq, beq_eq_false_iff_ne, bne_eq_false_iff_eq, ne_eq, Int.not_lt, Int.not_le, Int.ofNat_inj, Bool.not_eq_true, Bool.not_eq_false] at hq)))
    · (try simp only [Bool.not_eq_true', Bool.not_eq_false', Bool.and_eq_true, Bool.and_eq_false_iff, Bool.or_eq_true, Bool.or_eq_false_iff, decide_eq_true_eq, decide_eq_false_iff_not, bne_iff_ne, beq_iff_eq, beq_eq_false_iff_ne, bne_eq_false_iff_eq, ne_eq, Int.not_lt, Int.not_le, Int.ofNat_inj, Bool.not_eq_true, Bool.not_eq_false] at *)
      have hi2 : i < l'.length := by omega
      obtain ⟨x1, x2, x3, x4⟩ := on5 (by omega)
      injection x1 with y1 y2 y3
      subst y1; subst y3; clear y2
      have X := SlIn.of (L := Lay.int .i64) (l := l') (row_wrow x4) (pre := []) (post := []) (by simp) rfl
      have f1 := X.int i hi2
      rw [List.length_nil, Nat.zero_add] at f1
      clear X
      have u1 := row_wrow x4
      simp -implicitDefEqProofs (disch := first | omega | (simp only [List.length_append, List.length_cons, List.length_nil, List.length_set] <;> omega) | (repeat' (first | assumption | exact Pre.refl _ | refine Pre.push ?_ rfl | refine Pre.set ?_ ?_ rfl | omega | (simp only [List.length_append, List.length_cons, List.length_nil, List.length_set] <;> omega) | fail)) | fail) only [↓reduceIte, go_sem, Nat.reduceLT, Nat.reduceLeDiff, Nat.reduceEqDiff, Nat.reduceAdd, Nat.reduceMul, reduceCtorEq, Int.reduceToNat, Int.reduceLT, Int.reduceLE, Int.reduceAdd, Int.reduceSub, Int.reduceEq, Int.reduceBEq, Int.reduceBNe, Nat.reduceBEq, Nat.reduceBNe, Int.reduceMul, Int.reduceNeg, *]
      refine ⟨by rw [flatMap_len]; simp [Lay.int]; omega, ⟨l'.set i (IntKind.i64.wrap (l'[i] + 1)), by rw [List.length_set]; exact hl', ?_⟩, on6.other (.inl x3)⟩
      simpa [lay, Lay.int] using on5.put hi2 (IntKind.i64.wrap (l'[i] + 1))
    · (try simp only [Bool.not_eq_true', Bool.not_eq_false', Bool.and_eq_true, Bool.and_eq_false_iff, Bool.or_eq_true, Bool.or_eq_false_iff, decide_eq_true_eq, decide_eq_false_iff_not, bne_iff_ne, beq_iff_eq, beq_eq_false_iff_ne, bne_eq_false_iff_eq, ne_eq, Int.not_lt, Int.not_le, Int.ofNat_inj, Bool.not_eq_true, Bool.not_eq_false] at *)
      clear hl' on5 l' e7 hi hq hbr n5' n6' w9
      simp -implicitDefEqProofs (disch := first | omega | (simp only [List.length_append, List.length_cons, List.length_nil, List.length_set] <;> omega) | (repeat' (first | assumption | exact Pre.refl _ | refine Pre.push ?_ rfl | refine Pre.set ?_ ?_ rfl | omega | (simp only [List.length_append, List.length_cons, List.length_nil, List.length_set] <;> omega) | fail)) | fail) only [↓reduceIte, go_sem, Nat.reduceLT, Nat.reduceLeDiff, Nat.reduceEqDiff, Nat.reduceAdd, Nat.reduceMul, reduceCtorEq, Int.reduceToNat, Int.reduceLT, Int.reduceLE, Int.reduceAdd, Int.reduceSub, Int.reduceEq, Int.reduceBEq, Int.reduceBNe, Nat.reduceBEq, Nat.reduceBNe, Int.reduceMul, Int.reduceNeg, *]
      refine wp_for [2, 4, 5, 6, 76, 77, 78, 79, 80, 81] pa.length (fun i g H' => g 8 = .int .i64 (i : Int) ∧ Pre Hc H' ∧ H8.length ≤ H'.length ∧ H'.row H8.length = some [.int .i64 a.w, .int .i64 a.h, .slice o5 ga.length c5, .slice o6 pa.length c6] ∧ (∃ l', l'.length = pa.length ∧ Own m H8.length H' (.slice o6 pa.length c6) b6 l')) ?_ 0 _ (by omega) ?_
      · clear q2 ln r2 on6
        rintro i g2 H2 hi hk2 ⟨e7, q2, ln, r2, ⟨l', hl', on6⟩⟩
        simp -implicitDefEqProofs (disch := first | omega | (simp only [List.length_append, List.length_cons, List.length_nil, List.length_set] <;> omega) | (repeat' (first | assumption | exact Pre.refl _ | refine Pre.push ?_ rfl | refine Pre.set ?_ ?_ rfl | omega | (simp only [List.length_append, List.length_cons, List.length_nil, List.length_set] <;> omega) | fail)) | fail) only [↓reduceIte, go_sem, Nat.reduceLT, Nat.reduceLeDiff, Nat.reduceEqDiff, Nat.reduceAdd, Nat.reduceMul, reduceCtorEq, Int.reduceToNat, Int.reduceLT, Int.reduceLE, Int.reduceAdd, Int.reduceSub, Int.reduceEq, Int.reduceBEq, Int.reduceBNe, Nat.reduceBEq, Nat.reduceBNe, Int.reduceMul, Int.reduceNeg, hk] at hk2
        simp -implicitDefEqProofs (disch := first | omega | (simp only [List.length_append, List.length_cons, List.length_nil, List.length_set] <;> omega) | (repeat' (first | assumption | exact Pre.refl _ | refine Pre.push ?_ rfl | refine Pre.set ?_ ?_ rfl | omega | (simp only [List.length_append, List.length_cons, List.length_nil, List.length_set] <;> omega) | fail)) | fail) only [↓reduceIte, go_sem, Nat.reduceLT, Nat.reduceLeDiff, Nat.reduceEqDiff, Nat.reduceAdd, Nat.reduceMul, reduceCtorEq, Int.reduceToNat, Int.reduceLT, Int.reduceLE, Int.reduceAdd, Int.reduceSub, Int.reduceEq, Int.reduceBEq, Int.reduceBNe, Nat.reduceBEq, Nat.reduceBNe, Int.reduceMul, Int.reduceNeg, *]
        ((first | refine wguard_split (fun hbr => ?_) (fun hbr => ?_) | refine wcond_split (fun hbr => ?_) (fun hbr => ?_) | refine wguard0_split (fun hbr => ?_) (fun hbr => ?_)) <;> (have hq := hbr; (try simp only [Bool.not_eq_true', Bool.not_eq_false', Bool.and_eq_true, Bool.and_eq_false_iff, Bool.or_eq_true, Bool.or_eq_false_iff, decide_eq_true_eq, decide_eq_false_iff_not, bne_iff_ne, beq_iff_eq, beq_eq_false_iff_ne, bne_eq_false_iff_eq, ne_eq, Int.not_lt, Int.not_le, Int.ofNat_inj, Bool.not_eq_true, Bool.not_eq_false] at hq)))
        · (try simp only [Bool.not_eq_true', Bool.not_eq_false', Bool.and_eq_true, Bool.and_eq_false_iff, Bool.or_eq_true, Bool.or_eq_false_iff, decide_eq_true_eq, decide_eq_false_iff_not, bne_iff_ne, beq_iff_eq, beq_eq_false_iff_ne, bne_eq_false_iff_eq, ne_eq, Int.not_lt, Int.not_le, Int.ofNat_inj, Bool.not_eq_true, Bool.not_eq_false] at *)
          have hi2 : i < l'.length := by omega
          obtain ⟨x1, x2, x3, x4⟩ := on6 (by omega)
          injection x1 with y1 y2 y3
          subst y1; subst y3; clear y2
          have X := SlIn.of (L := Lay.int .i64) (l := l') (row_wrow x4) (pre := []) (post := []) (by simp) rfl
          have f1 := X.int i hi2
          rw [List.length_nil, Nat.zero_add] at f1
          clear X
          have u1 := row_wrow x4
          simp -implicitDefEqProofs (disch := first | omega | (simp only [List.length_append, List.length_cons, List.length_nil, List.length_set] <;> omega) | (repeat' (first | assumption | exact Pre.refl _ | refine Pre.push ?_ rfl | refine Pre.set ?_ ?_ rfl | omega | (simp only [List.length_append, List.length_cons, List.length_nil, List.length_set] <;> omega) | fail)) | fail) only [↓reduceIte, go_sem, Nat.reduceLT, Nat.reduceLeDiff, Nat.reduceEqDiff, Nat.reduceAdd, Nat.reduceMul, reduceCtorEq, Int.reduceToNat, Int.reduceLT, Int.reduceLE, Int.reduceAdd, Int.reduceSub, Int.reduceEq, Int.reduceBEq, Int.reduceBNe, Nat.reduceBEq, Nat.reduceBNe, Int.reduceMul, Int.reduceNeg, *]
          refine ⟨by rw [flatMap_len]; simp [Lay.int]; omega, ⟨l'.set i (IntKind.i64.wrap (l'[i] + 1)), by rw [List.length_set]; exact hl', ?_⟩⟩
          simpa [lay, Lay.int] using on6.put hi2 (IntKind.i64.wrap (l'[i] + 1))
        · (try simp only [Bool.not_eq_true', Bool.not_eq_false', Bool.and_eq_true, Bool.and_eq_false_iff, Bool.or_eq_true, Bool.or_eq_false_iff, decide_eq_true_eq, decide_eq_false_iff_not, bne_iff_ne, beq_iff_eq, beq_eq_false_iff_ne, bne_eq_false_iff_eq, ne_eq, Int.not_lt, Int.not_le, Int.ofNat_inj, Bool.not_eq_true, Bool.not_eq_false] at *)
          have y1 := row_pfx' q2 rc
          have y2 := row_pfx' q2 wc
          have y3 := hpc.trans q2
          clear hl' on6 l' e7 hi hq hbr
          simp -implicitDefEqProofs (disch := first | omega | (simp only [List.length_append, List.length_cons, List.length_nil, List.length_set] <;> omega) | (repeat' (first | assumption | exact Pre.refl _ | refine Pre.push ?_ rfl | refine Pre.set ?_ ?_ rfl | omega | (simp only [List.length_append, List.length_cons, List.length_nil, List.length_set] <;> omega) | fail)) | fail) only [↓reduceIte, go_sem, Nat.reduceLT, Nat.reduceLeDiff, Nat.reduceEqDiff, Nat.reduceAdd, Nat.reduceMul, reduceCtorEq, Int.reduceToNat, Int.reduceLT, Int.reduceLE, Int.reduceAdd, Int.reduceSub, Int.reduceEq, Int.reduceBEq, Int.reduceBNe, Nat.reduceBEq, Nat.reduceBNe, Int.reduceMul, Int.reduceNeg, *]
          refine requal_is (a := a) (b := ⟨a.w, a.h, .slice o3 ga.length c3, .slice o4 pa.length c4⟩) (ga := ga) (pa := pa) (gb := ga) (pb := pa) (ha.mono y3) ⟨wc3.mono q2, wc4.mono q2⟩ (by omega) (by omega) fun H10 p10 => ?_
          rw [decide_eq_true (show TEq a ⟨a.w, a.h, .slice o3 ga.length c3, .slice o4 pa.length c4⟩ ga pa ga pa from ⟨⟨rfl, rfl⟩, rfl, rfl⟩)]
          simp -implicitDefEqProofs (disch := first | omega | (simp only [List.length_append, List.length_cons, List.length_nil, List.length_set] <;> omega) | (repeat' (first | assumption | exact Pre.refl _ | refine Pre.push ?_ rfl | refine Pre.set ?_ ?_ rfl | omega | (simp only [List.length_append, List.length_cons, List.length_nil, List.length_set] <;> omega) | fail)) | fail) only [↓reduceIte, go_sem, Nat.reduceLT, Nat.reduceLeDiff, Nat.reduceEqDiff, Nat.reduceAdd, Nat.reduceMul, reduceCtorEq, Int.reduceToNat, Int.reduceLT, Int.reduceLE, Int.reduceAdd, Int.reduceSub, Int.reduceEq, Int.reduceBEq, Int.reduceBNe, Nat.reduceBEq, Nat.reduceBNe, Int.reduceMul, Int.reduceNeg, *, known_is]
      · simp -implicitDefEqProofs (disch := first | omega | (simp only [List.length_append, List.length_cons, List.length_nil, List.length_set] <;> omega) | (repeat' (first | assumption | exact Pre.refl _ | refine Pre.push ?_ rfl | refine Pre.set ?_ ?_ rfl | omega | (simp only [List.length_append, List.length_cons, List.length_nil, List.length_set] <;> omega) | fail)) | fail) only [↓reduceIte, go_sem, Nat.reduceLT, Nat.reduceLeDiff, Nat.reduceEqDiff, Nat.reduceAdd, Nat.reduceMul, reduceCtorEq, Int.reduceToNat, Int.reduceLT, Int.reduceLE, Int.reduceAdd, Int.reduceSub, Int.reduceEq, Int.reduceBEq, Int.reduceBNe, Nat.reduceBEq, Nat.reduceBNe, Int.reduceMul, Int.reduceNeg, *]
        exact ⟨pa, rfl, on6⟩
  · simp -implicitDefEqProofs (disch := first | omega | (simp only [List.length_append, List.length_cons, List.length_nil, List.length_set] <;> omega) | (repeat' (first | assumption | exact Pre.refl _ | refine Pre.push ?_ rfl | refine Pre.set ?_ ?_ rfl | omega | (simp only [List.length_append, List.length_cons, List.length_nil, List.length_set] <;> omega) | fail)) | fail) only [↓reduceIte, go_sem, Nat.reduceLT, Nat.reduceLeDiff, Nat.reduceEqDiff, Nat.reduceAdd, Nat.reduceMul, reduceCtorEq, Int.reduceToNat, Int.reduceLT, Int.reduceLE, Int.reduceAdd, Int.reduceSub, Int.reduceEq, Int.reduceBEq, Int.reduceBNe, Nat.reduceBEq, Nat.reduceBNe, Int.reduceMul, Int.reduceNeg, *]
    exact ⟨ga, rfl, n5'⟩

end Go.Proofs.Ythlhcdldighffaa.Tab
