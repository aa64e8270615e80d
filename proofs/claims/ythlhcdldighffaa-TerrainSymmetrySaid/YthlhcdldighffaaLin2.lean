/- Lines: the cells between two cells, in the program and in the reference. A lemma for the laws. -/
import Derived.Test.YthlhcdldighffaaLin1
namespace Go.Proofs.Ythlhcdldighffaa.Tab
open Go Go.IM Go.RowKit
set_option maxRecDepth 100000
set_option linter.unusedSimpArgs false
set_option linter.unusedVariables false
set_option maxHeartbeats 4000000

variable {hook : CallFn} {R : IEnd → Heap → Prop} {H : Heap}

structure Cell where
  x : Int
  y : Int
def LCell : Lay Cell := ⟨2, fun p => [.int .i64 p.x, .int .i64 p.y], fun _ => rfl, by decide⟩
theorem inCell {H : Heap} {b o : Nat} {l : List Cell} {row : List Value} (h : SlIn LCell H b o l row) :
    (∀ (j : Nat) (hj : j < l.length), row[o + j * 2]? = some (.int .i64 l[j].x)) ∧
    (∀ (j : Nat) (hj : j < l.length), row[o + j * 2 + 1]? = some (.int .i64 l[j].y)) ∧
    (∀ (j : Nat) (hj : j < l.length), cut row (o + j * 2) 2 = some [.int .i64 l[j].x, .int .i64 l[j].y]) :=
  ⟨fun j hj => h.get j 0 hj (by decide), fun j hj => h.get j 1 hj (by decide), fun j hj => h.cut j hj⟩


def lcell (a b dx dy n : Int) (j : Nat) : Cell := ⟨rnd a ((j + 1 : Nat) : Int) dx n, rnd b ((j + 1 : Nat) : Int) dy n⟩
def lineOf (a b dx dy n : Int) : List Cell := (List.range (n - 1).toNat).map (lcell a b dx dy n)

theorem lineOf_len (a b dx dy n : Int) : (lineOf a b dx dy n).length = (n - 1).toNat := by simp [lineOf]
theorem lineOf_take {a b dx dy n : Int} {i : Nat} (h : i < (n - 1).toNat) : (lineOf a b dx dy n).take (i + 1) = (lineOf a b dx dy n).take i ++ [lcell a b dx dy n i] := by
  rw [List.take_add_one, List.getElem?_eq_getElem (by rw [lineOf_len]; exact h)]
  simp [lineOf]

theorem span_bound {dx dy : Int} (hx : -63 ≤ dx ∧ dx ≤ 63) (hy : -63 ≤ dy ∧ dy ≤ 63) : 0 ≤ spanOf dx dy ∧ spanOf dx dy ≤ 63 ∧ (-spanOf dx dy ≤ dx ∧ dx ≤ spanOf dx dy) ∧ -spanOf dx dy ≤ dy ∧ dy ≤ spanOf dx dy := by
  unfold spanOf; omega

theorem quo_bound {x n f : Int} (hn : 1 ≤ n) (hb : -7938 ≤ x ∧ x ≤ 7938 ∧ 0 ≤ f ∧ f ≤ 7938 ∧ 0 ≤ x + f) (h2 : n ≤ 63) : -7938 ≤ (x + n) / (2 * n) ∧ (x + n) / (2 * n) ≤ 8001 :=
  ⟨Int.le_ediv_of_mul_le (by omega) (by omega), Int.ediv_le_of_le_mul (by omega) (by omega)⟩

theorem rline_is {a b c d : Int} (ha : 0 ≤ a ∧ a ≤ 63) (hb : 0 ≤ b ∧ b ≤ 63) (hc : 0 ≤ c ∧ c ≤ 63) (hd : 0 ≤ d ∧ d ≤ 63)
    (hR : ∀ H' v, Ow LCell H H' v (lineOf a b (c - a) (d - b) (spanOf (c - a) (d - b))) → R (.ret v) H') :
    WF tab hook 22 [.agg #[.int .i64 a, .int .i64 b], .agg #[.int .i64 c, .int .i64 d]] H R := by
  refine WF_def (tab := tab) (F := 22) rfl rfl ?_
  simp -implicitDefEqProofs (disch := first | omega | (simp only [List.length_append, List.length_cons, List.length_nil, List.length_set] <;> omega) | (repeat' (first | assumption | exact Pre.refl _ | refine Pre.push ?_ rfl | refine Pre.app ?_ (by assumption) | refine Pre.set ?_ ?_ rfl | omega | (simp only [List.length_append, List.length_cons, List.length_nil, List.length_set] <;> omega) | fail)) | fail) only [↓reduceIte, go_sem, Nat.sub_zero, List.length_replicate, Nat.reduceLT, Nat.reduceLeDiff, Nat.reduceEqDiff, Nat.reduceAdd, Nat.reduceMul, reduceCtorEq, Int.reduceToNat, Int.reduceLT, Int.reduceLE, Int.reduceAdd, Int.reduceSub, Int.reduceEq, Int.reduceBEq, Int.reduceBNe, Nat.reduceBEq, Nat.reduceBNe, Int.reduceMul, Int.reduceNeg]
  refine span_is ha hb hc hd fun H1 p1 => ?_
  have q1 := p1
  obtain ⟨hn1, hn2, hx, hy⟩ := span_bound (dx := c - a) (dy := d - b) (by omega) (by omega)
  generalize spanOf (c - a) (d - b) = n at *
  simp -implicitDefEqProofs (disch := first | omega | (simp only [List.length_append, List.length_cons, List.length_nil, List.length_set] <;> omega) | (repeat' (first | assumption | exact Pre.refl _ | refine Pre.push ?_ rfl | refine Pre.app ?_ (by assumption) | refine Pre.set ?_ ?_ rfl | omega | (simp only [List.length_append, List.length_cons, List.length_nil, List.length_set] <;> omega) | fail)) | fail) only [↓reduceIte, go_sem, Nat.sub_zero, List.length_replicate, Nat.reduceLT, Nat.reduceLeDiff, Nat.reduceEqDiff, Nat.reduceAdd, Nat.reduceMul, reduceCtorEq, Int.reduceToNat, Int.reduceLT, Int.reduceLE, Int.reduceAdd, Int.reduceSub, Int.reduceEq, Int.reduceBEq, Int.reduceBNe, Nat.reduceBEq, Nat.reduceBNe, Int.reduceMul, Int.reduceNeg]
  refine wp_for [2, 3, 4, 6, 52] (n - 1).toNat (fun i g H' => g 7 = .int .i64 ((i + 1 : Nat) : Int) ∧ Ow LCell H1 H' (g 5) ((lineOf a b (c - a) (d - b) n).take i)) ?_ 0 _ (by omega) ?_
  · rintro i g H2 hi hk ⟨e7, ow⟩
    simp -implicitDefEqProofs (disch := first | omega | (simp only [List.length_append, List.length_cons, List.length_nil, List.length_set] <;> omega) | (repeat' (first | assumption | exact Pre.refl _ | refine Pre.push ?_ rfl | refine Pre.app ?_ (by assumption) | refine Pre.set ?_ ?_ rfl | omega | (simp only [List.length_append, List.length_cons, List.length_nil, List.length_set] <;> omega) | fail)) | fail) only [↓reduceIte, go_sem, Nat.sub_zero, List.length_replicate, Nat.reduceLT, Nat.reduceLeDiff, Nat.reduceEqDiff, Nat.reduceAdd, Nat.reduceMul, reduceCtorEq, Int.reduceToNat, Int.reduceLT, Int.reduceLE, Int.reduceAdd, Int.reduceSub, Int.reduceEq, Int.reduceBEq, Int.reduceBNe, Nat.reduceBEq, Nat.reduceBNe, Int.reduceMul, Int.reduceNeg] at hk
    simp -implicitDefEqProofs (disch := first | omega | (simp only [List.length_append, List.length_cons, List.length_nil, List.length_set] <;> omega) | (repeat' (first | assumption | exact Pre.refl _ | refine Pre.push ?_ rfl | refine Pre.app ?_ (by assumption) | refine Pre.set ?_ ?_ rfl | omega | (simp only [List.length_append, List.length_cons, List.length_nil, List.length_set] <;> omega) | fail)) | fail) only [↓reduceIte, go_sem, Nat.sub_zero, List.length_replicate, Nat.reduceLT, Nat.reduceLeDiff, Nat.reduceEqDiff, Nat.reduceAdd, Nat.reduceMul, reduceCtorEq, Int.reduceToNat, Int.reduceLT, Int.reduceLE, Int.reduceAdd, Int.reduceSub, Int.reduceEq, Int.reduceBEq, Int.reduceBNe, Nat.reduceBEq, Nat.reduceBNe, Int.reduceMul, Int.reduceNeg, hk, e7]
    ((first | refine wguard_split (fun hbr => ?_) (fun hbr => ?_) | refine wcond_split (fun hbr => ?_) (fun hbr => ?_) | refine wguard0_split (fun hbr => ?_) (fun hbr => ?_)) <;> (have hq := hbr; (try simp only [Bool.not_eq_true', Bool.not_eq_false', Bool.and_eq_true, Bool.and_eq_false_iff, Bool.or_eq_true, Bool.or_eq_false_iff, decide_eq_true_eq, decide_eq_false_iff_not, bne_iff_ne, beq_iff_eq, beq_eq_false_iff_ne, bne_eq_false_iff_eq, ne_eq, Int.not_lt, Int.not_le, Int.ofNat_inj, Bool.not_eq_true, Bool.not_eq_false] at hq)))
    · (try simp only [Bool.not_eq_true', Bool.not_eq_false', Bool.and_eq_true, Bool.and_eq_false_iff, Bool.or_eq_true, Bool.or_eq_false_iff, decide_eq_true_eq, decide_eq_false_iff_not, bne_iff_ne, beq_iff_eq, beq_eq_false_iff_ne, bne_eq_false_iff_eq, ne_eq, Int.not_lt, Int.not_le, Int.ofNat_inj, Bool.not_eq_true, Bool.not_eq_false] at *)
      have q0 : i < (n - 1).toNat := by omega
      have hb1 := rnd_bound (i := ((i + 1 : Nat) : Int)) (d := c - a) (n := n) (by omega) (by omega) hx
      have hb2 := rnd_bound (i := ((i + 1 : Nat) : Int)) (d := d - b) (n := n) (by omega) (by omega) hy
      have hc1 := quo_bound (show 1 ≤ n by omega) hb1 (by omega)
      have hc2 := quo_bound (show 1 ≤ n by omega) hb2 (by omega)
      have ef1 : a + (2 * ((i + 1 : Nat) : Int) * (c - a) + n) / (2 * n) = (lcell a b (c - a) (d - b) n i).x := rfl
      have ef2 : b + (2 * ((i + 1 : Nat) : Int) * (d - b) + n) / (2 * n) = (lcell a b (c - a) (d - b) n i).y := rfl
      generalize hz : lcell a b (c - a) (d - b) n i = z at *
      have hlen : ((lineOf a b (c - a) (d - b) n).take i).length = i := by rw [List.length_take, lineOf_len]; omega
      obtain ⟨v', H', e, ow2, -⟩ := ow.app (l2 := [z]) (n := 1) (bytes := 16) (xs := [.int .i64 z.x, .int .i64 z.y]) rfl rfl (by simp [hlen]; omega) (by simp [hlen]; omega)
      have e' : iapp 2 16 (g 5) 1 [.int .i64 z.x, .int .i64 z.y] H2 = some (v', H') := e
      have z1 := (lineOf_take (a := a) (b := b) (dx := c - a) (dy := d - b) (n := n) q0).trans (by rw [hz])
      simp -implicitDefEqProofs (disch := first | omega | (simp only [List.length_append, List.length_cons, List.length_nil, List.length_set] <;> omega) | (repeat' (first | assumption | exact Pre.refl _ | refine Pre.push ?_ rfl | refine Pre.app ?_ (by assumption) | refine Pre.set ?_ ?_ rfl | omega | (simp only [List.length_append, List.length_cons, List.length_nil, List.length_set] <;> omega) | fail)) | fail) only [↓reduceIte, go_sem, Nat.sub_zero, List.length_replicate, Nat.reduceLT, Nat.reduceLeDiff, Nat.reduceEqDiff, Nat.reduceAdd, Nat.reduceMul, reduceCtorEq, Int.reduceToNat, Int.reduceLT, Int.reduceLE, Int.reduceAdd, Int.reduceSub, Int.reduceEq, Int.reduceBEq, Int.reduceBNe, Nat.reduceBEq, Nat.reduceBNe, Int.reduceMul, Int.reduceNeg, hk, *, floor_is]
    · (try simp only [Bool.not_eq_true', Bool.not_eq_false', Bool.and_eq_true, Bool.and_eq_false_iff, Bool.or_eq_true, Bool.or_eq_false_iff, decide_eq_true_eq, decide_eq_false_iff_not, bne_iff_ne, beq_iff_eq, beq_eq_false_iff_ne, bne_eq_false_iff_eq, ne_eq, Int.not_lt, Int.not_le, Int.ofNat_inj, Bool.not_eq_true, Bool.not_eq_false] at *)
      have : (lineOf a b (c - a) (d - b) n).take i = lineOf a b (c - a) (d - b) n := List.take_of_length_le (by rw [lineOf_len]; omega)
      rw [this] at ow
      simp -implicitDefEqProofs (disch := first | omega | (simp only [List.length_append, List.length_cons, List.length_nil, List.length_set] <;> omega) | (repeat' (first | assumption | exact Pre.refl _ | refine Pre.push ?_ rfl | refine Pre.app ?_ (by assumption) | refine Pre.set ?_ ?_ rfl | omega | (simp only [List.length_append, List.length_cons, List.length_nil, List.length_set] <;> omega) | fail)) | fail) only [↓reduceIte, go_sem, Nat.sub_zero, List.length_replicate, Nat.reduceLT, Nat.reduceLeDiff, Nat.reduceEqDiff, Nat.reduceAdd, Nat.reduceMul, reduceCtorEq, Int.reduceToNat, Int.reduceLT, Int.reduceLE, Int.reduceAdd, Int.reduceSub, Int.reduceEq, Int.reduceBEq, Int.reduceBNe, Nat.reduceBEq, Nat.reduceBNe, Int.reduceMul, Int.reduceNeg, hk]
      all_goals exact hR _ _ (ow.other (q1.trans ow.pre) q1.len fun _ _ _ => rfl)
  · simp -implicitDefEqProofs (disch := first | omega | (simp only [List.length_append, List.length_cons, List.length_nil, List.length_set] <;> omega) | (repeat' (first | assumption | exact Pre.refl _ | refine Pre.push ?_ rfl | refine Pre.app ?_ (by assumption) | refine Pre.set ?_ ?_ rfl | omega | (simp only [List.length_append, List.length_cons, List.length_nil, List.length_set] <;> omega) | fail)) | fail) only [↓reduceIte, go_sem, Nat.sub_zero, List.length_replicate, Nat.reduceLT, Nat.reduceLeDiff, Nat.reduceEqDiff, Nat.reduceAdd, Nat.reduceMul, reduceCtorEq, Int.reduceToNat, Int.reduceLT, Int.reduceLE, Int.reduceAdd, Int.reduceSub, Int.reduceEq, Int.reduceBEq, Int.reduceBNe, Nat.reduceBEq, Nat.reduceBNe, Int.reduceMul, Int.reduceNeg]
    exact Ow.nil (Pre.refl _)

/-- A coordinate of a cell that a terrain may have. -/
def Side (x : Int) : Prop := 0 ≤ x ∧ x ≤ 63

theorem tline_is {a b c d : Int} (hno : ¬ (Side a ∧ Side b ∧ Side c ∧ Side d) → ∀ H', Pre H H' → R (.ret (.tuple #[.slice none 0 0, .int .i64 2])) H')
    (hR : Side a ∧ Side b ∧ Side c ∧ Side d → ∀ H' v, Ow LCell H H' v (lineOf a b (c - a) (d - b) (spanOf (c - a) (d - b))) → R (.ret (.tuple #[v, .int .i64 0])) H') :
    WF tab hook 20 [.agg #[.int .i64 a, .int .i64 b], .agg #[.int .i64 c, .int .i64 d]] H R := by
  refine WF_def (tab := tab) (F := 20) rfl rfl ?_
  simp -implicitDefEqProofs (disch := first | omega | (simp only [List.length_append, List.length_cons, List.length_nil, List.length_set] <;> omega) | (repeat' (first | assumption | exact Pre.refl _ | refine Pre.push ?_ rfl | refine Pre.app ?_ (by assumption) | refine Pre.set ?_ ?_ rfl | omega | (simp only [List.length_append, List.length_cons, List.length_nil, List.length_set] <;> omega) | fail)) | fail) only [↓reduceIte, go_sem, Nat.sub_zero, List.length_replicate, Nat.reduceLT, Nat.reduceLeDiff, Nat.reduceEqDiff, Nat.reduceAdd, Nat.reduceMul, reduceCtorEq, Int.reduceToNat, Int.reduceLT, Int.reduceLE, Int.reduceAdd, Int.reduceSub, Int.reduceEq, Int.reduceBEq, Int.reduceBNe, Nat.reduceBEq, Nat.reduceBNe, Int.reduceMul, Int.reduceNeg]
  refine all_is (a := [a, b, c, d]) ⟨.inr ⟨H.length, 0, 8, rfl, .inr ⟨_, row_new, [], [], by simp [Lay.int], rfl⟩⟩⟩ (by simp) fun H1 bb p1 hball => ?_
  have q1 : Pre H H1 := ((Pre.refl H).push rfl).trans p1
  cases bb
  case false =>
    have : ¬ (Side a ∧ Side b ∧ Side c ∧ Side d) := fun h => by
      have := hball.2 fun j hj => by
        obtain ⟨h1, h2, h3, h4⟩ := h
        match j, hj with
        | 0, _ => exact h1
        | 1, _ => exact h2
        | 2, _ => exact h3
        | 3, _ => exact h4
      cases this
    clear hball
    simp -implicitDefEqProofs (disch := first | omega | (simp only [List.length_append, List.length_cons, List.length_nil, List.length_set] <;> omega) | (repeat' (first | assumption | exact Pre.refl _ | refine Pre.push ?_ rfl | refine Pre.app ?_ (by assumption) | refine Pre.set ?_ ?_ rfl | omega | (simp only [List.length_append, List.length_cons, List.length_nil, List.length_set] <;> omega) | fail)) | fail) only [↓reduceIte, go_sem, Nat.sub_zero, List.length_replicate, Nat.reduceLT, Nat.reduceLeDiff, Nat.reduceEqDiff, Nat.reduceAdd, Nat.reduceMul, reduceCtorEq, Int.reduceToNat, Int.reduceLT, Int.reduceLE, Int.reduceAdd, Int.reduceSub, Int.reduceEq, Int.reduceBEq, Int.reduceBNe, Nat.reduceBEq, Nat.reduceBNe, Int.reduceMul, Int.reduceNeg]
    all_goals exact hno this _ q1
  have hs : Side a ∧ Side b ∧ Side c ∧ Side d := by
    have := hball.1 rfl
    exact ⟨this 0 (by simp), this 1 (by simp), this 2 (by simp), this 3 (by simp)⟩
  have hR' := hR hs
  have ha := hs.1
  have hb := hs.2.1
  have hc := hs.2.2.1
  have hd := hs.2.2.2
  unfold Side at ha hb hc hd
  clear hno hR hs hball p1
  have es : (if max (c - a) (-(c - a)) < max (d - b) (-(d - b)) then max (d - b) (-(d - b)) else max (c - a) (-(c - a))) = spanOf (c - a) (d - b) := by
    unfold spanOf; split <;> omega
  obtain ⟨hn1, hn2, hx, hy⟩ := span_bound (dx := c - a) (dy := d - b) (by omega) (by omega)
  simp -implicitDefEqProofs (disch := first | omega | (simp only [List.length_append, List.length_cons, List.length_nil, List.length_set] <;> omega) | (repeat' (first | assumption | exact Pre.refl _ | refine Pre.push ?_ rfl | refine Pre.app ?_ (by assumption) | refine Pre.set ?_ ?_ rfl | omega | (simp only [List.length_append, List.length_cons, List.length_nil, List.length_set] <;> omega) | fail)) | fail) only [↓reduceIte, go_sem, Nat.sub_zero, List.length_replicate, Nat.reduceLT, Nat.reduceLeDiff, Nat.reduceEqDiff, Nat.reduceAdd, Nat.reduceMul, reduceCtorEq, Int.reduceToNat, Int.reduceLT, Int.reduceLE, Int.reduceAdd, Int.reduceSub, Int.reduceEq, Int.reduceBEq, Int.reduceBNe, Nat.reduceBEq, Nat.reduceBNe, Int.reduceMul, Int.reduceNeg, es, abs_is]
  clear es
  generalize spanOf (c - a) (d - b) = n at *
  refine wp_for [2, 4, 5, 6, 7, 8, 58] (n - 1).toNat (fun i g H' => g 10 = .int .i64 ((i + 1 : Nat) : Int) ∧ Ow LCell H1 H' (g 9) ((lineOf a b (c - a) (d - b) n).take i)) ?_ 0 _ (by omega) ?_
  · rintro i g H2 hi hk ⟨e7, ow⟩
    simp -implicitDefEqProofs (disch := first | omega | (simp only [List.length_append, List.length_cons, List.length_nil, List.length_set] <;> omega) | (repeat' (first | assumption | exact Pre.refl _ | refine Pre.push ?_ rfl | refine Pre.app ?_ (by assumption) | refine Pre.set ?_ ?_ rfl | omega | (simp only [List.length_append, List.length_cons, List.length_nil, List.length_set] <;> omega) | fail)) | fail) only [↓reduceIte, go_sem, Nat.sub_zero, List.length_replicate, Nat.reduceLT, Nat.reduceLeDiff, Nat.reduceEqDiff, Nat.reduceAdd, Nat.reduceMul, reduceCtorEq, Int.reduceToNat, Int.reduceLT, Int.reduceLE, Int.reduceAdd, Int.reduceSub, Int.reduceEq, Int.reduceBEq, Int.reduceBNe, Nat.reduceBEq, Nat.reduceBNe, Int.reduceMul, Int.reduceNeg] at hk
    simp -implicitDefEqProofs (disch := first | omega | (simp only [List.length_append, List.length_cons, List.length_nil, List.length_set] <;> omega) | (repeat' (first | assumption | exact Pre.refl _ | refine Pre.push ?_ rfl | refine Pre.app ?_ (by assumption) | refine Pre.set ?_ ?_ rfl | omega | (simp only [List.length_append, List.length_cons, List.length_nil, List.length_set] <;> omega) | fail)) | fail) only [↓reduceIte, go_sem, Nat.sub_zero, List.length_replicate, Nat.reduceLT, Nat.reduceLeDiff, Nat.reduceEqDiff, Nat.reduceAdd, Nat.reduceMul, reduceCtorEq, Int.reduceToNat, Int.reduceLT, Int.reduceLE, Int.reduceAdd, Int.reduceSub, Int.reduceEq, Int.reduceBEq, Int.reduceBNe, Nat.reduceBEq, Nat.reduceBNe, Int.reduceMul, Int.reduceNeg, hk, e7]
    ((first | refine wguard_split (fun hbr => ?_) (fun hbr => ?_) | refine wcond_split (fun hbr => ?_) (fun hbr => ?_) | refine wguard0_split (fun hbr => ?_) (fun hbr => ?_)) <;> (have hq := hbr; (try simp only [Bool.not_eq_true', Bool.not_eq_false', Bool.and_eq_true, Bool.and_eq_false_iff, Bool.or_eq_true, Bool.or_eq_false_iff, decide_eq_true_eq, decide_eq_false_iff_not, bne_iff_ne, beq_iff_eq, beq_eq_false_iff_ne, bne_eq_false_iff_eq, ne_eq, Int.not_lt, Int.not_le, Int.ofNat_inj, Bool.not_eq_true, Bool.not_eq_false] at hq)))
    · (try simp only [Bool.not_eq_true', Bool.not_eq_false', Bool.and_eq_true, Bool.and_eq_false_iff, Bool.or_eq_true, Bool.or_eq_false_iff, decide_eq_true_eq, decide_eq_false_iff_not, bne_iff_ne, beq_iff_eq, beq_eq_false_iff_ne, bne_eq_false_iff_eq, ne_eq, Int.not_lt, Int.not_le, Int.ofNat_inj, Bool.not_eq_true, Bool.not_eq_false] at *)
      have q0 : i < (n - 1).toNat := by omega
      have ef1 : rnd a ((i + 1 : Nat) : Int) (c - a) n = (lcell a b (c - a) (d - b) n i).x := rfl
      have ef2 : rnd b ((i + 1 : Nat) : Int) (d - b) n = (lcell a b (c - a) (d - b) n i).y := rfl
      generalize hz : lcell a b (c - a) (d - b) n i = z at *
      have hlen : ((lineOf a b (c - a) (d - b) n).take i).length = i := by rw [List.length_take, lineOf_len]; omega
      obtain ⟨v', H', e, ow2, -⟩ := ow.app (l2 := [z]) (n := 1) (bytes := 16) (xs := [.int .i64 z.x, .int .i64 z.y]) rfl rfl (by simp [hlen]; omega) (by simp [hlen]; omega)
      have e' : iapp 2 16 (g 9) 1 [.int .i64 z.x, .int .i64 z.y] H2 = some (v', H') := e
      have z1 := (lineOf_take (a := a) (b := b) (dx := c - a) (dy := d - b) (n := n) q0).trans (by rw [hz])
      simp -implicitDefEqProofs (disch := first | omega | (simp only [List.length_append, List.length_cons, List.length_nil, List.length_set] <;> omega) | (repeat' (first | assumption | exact Pre.refl _ | refine Pre.push ?_ rfl | refine Pre.app ?_ (by assumption) | refine Pre.set ?_ ?_ rfl | omega | (simp only [List.length_append, List.length_cons, List.length_nil, List.length_set] <;> omega) | fail)) | fail) only [↓reduceIte, go_sem, Nat.sub_zero, List.length_replicate, Nat.reduceLT, Nat.reduceLeDiff, Nat.reduceEqDiff, Nat.reduceAdd, Nat.reduceMul, reduceCtorEq, Int.reduceToNat, Int.reduceLT, Int.reduceLE, Int.reduceAdd, Int.reduceSub, Int.reduceEq, Int.reduceBEq, Int.reduceBNe, Nat.reduceBEq, Nat.reduceBNe, Int.reduceMul, Int.reduceNeg, hk, *, round_is]
    · (try simp only [Bool.not_eq_true', Bool.not_eq_false', Bool.and_eq_true, Bool.and_eq_false_iff, Bool.or_eq_true, Bool.or_eq_false_iff, decide_eq_true_eq, decide_eq_false_iff_not, bne_iff_ne, beq_iff_eq, beq_eq_false_iff_ne, bne_eq_false_iff_eq, ne_eq, Int.not_lt, Int.not_le, Int.ofNat_inj, Bool.not_eq_true, Bool.not_eq_false] at *)
      have : (lineOf a b (c - a) (d - b) n).take i = lineOf a b (c - a) (d - b) n := List.take_of_length_le (by rw [lineOf_len]; omega)
      rw [this] at ow
      simp -implicitDefEqProofs (disch := first | omega | (simp only [List.length_append, List.length_cons, List.length_nil, List.length_set] <;> omega) | (repeat' (first | assumption | exact Pre.refl _ | refine Pre.push ?_ rfl | refine Pre.app ?_ (by assumption) | refine Pre.set ?_ ?_ rfl | omega | (simp only [List.length_append, List.length_cons, List.length_nil, List.length_set] <;> omega) | fail)) | fail) only [↓reduceIte, go_sem, Nat.sub_zero, List.length_replicate, Nat.reduceLT, Nat.reduceLeDiff, Nat.reduceEqDiff, Nat.reduceAdd, Nat.reduceMul, reduceCtorEq, Int.reduceToNat, Int.reduceLT, Int.reduceLE, Int.reduceAdd, Int.reduceSub, Int.reduceEq, Int.reduceBEq, Int.reduceBNe, Nat.reduceBEq, Nat.reduceBNe, Int.reduceMul, Int.reduceNeg, hk]
      all_goals exact hR' _ _ (ow.other (q1.trans ow.pre) q1.len fun _ _ _ => rfl)
  · simp -implicitDefEqProofs (disch := first | omega | (simp only [List.length_append, List.length_cons, List.length_nil, List.length_set] <;> omega) | (repeat' (first | assumption | exact Pre.refl _ | refine Pre.push ?_ rfl | refine Pre.app ?_ (by assumption) | refine Pre.set ?_ ?_ rfl | omega | (simp only [List.length_append, List.length_cons, List.length_nil, List.length_set] <;> omega) | fail)) | fail) only [↓reduceIte, go_sem, Nat.sub_zero, List.length_replicate, Nat.reduceLT, Nat.reduceLeDiff, Nat.reduceEqDiff, Nat.reduceAdd, Nat.reduceMul, reduceCtorEq, Int.reduceToNat, Int.reduceLT, Int.reduceLE, Int.reduceAdd, Int.reduceSub, Int.reduceEq, Int.reduceBEq, Int.reduceBNe, Nat.reduceBEq, Nat.reduceBNe, Int.reduceMul, Int.reduceNeg]
    exact Ow.nil (Pre.refl _)

end Go.Proofs.Ythlhcdldighffaa.Tab
