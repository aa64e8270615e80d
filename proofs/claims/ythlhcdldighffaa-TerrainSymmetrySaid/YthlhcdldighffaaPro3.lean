/- Profiles: the program's and the reference's, and the law. A lemma for the statement. -/
import Derived.Test.YthlhcdldighffaaPro2
namespace Go.Proofs.Ythlhcdldighffaa.Tab
open Go Go.IM Go.RowKit
set_option maxRecDepth 100000
set_option linter.unusedSimpArgs false
set_option linter.unusedVariables false
set_option maxHeartbeats 4000000

variable {hook : CallFn} {R : IEnd → Heap → Prop} {H : Heap}

theorem rnd_btw {f i d n : Int} (hn : 1 ≤ n) (hi : 0 ≤ i ∧ i ≤ n) : min f (f + d) ≤ rnd f i d n ∧ rnd f i d n ≤ max f (f + d) := by
  unfold rnd
  have h2 : (0 : Int) < 2 * n := by omega
  by_cases hd : 0 ≤ d
  · have m1 := Int.mul_le_mul_of_nonneg_right hi.2 hd
    have m2 := Int.mul_nonneg hi.1 hd
    have e1 : 2 * i * d = 2 * (i * d) := by rw [Int.mul_assoc]
    have a : 0 ≤ (2 * i * d + n) / (2 * n) := Int.ediv_nonneg (by omega) (by omega)
    have b : (2 * i * d + n) / (2 * n) < d + 1 := Int.ediv_lt_of_lt_mul h2 (by
      have e2 : (d + 1) * (2 * n) = 2 * (n * d) + 2 * n := by rw [Int.add_mul, Int.one_mul, Int.mul_comm d, Int.mul_assoc]
      omega)
    omega
  · have m1 : n * d ≤ i * d := Int.mul_le_mul_of_nonpos_right hi.2 (by omega)
    have m2 : i * d ≤ 0 := Int.mul_nonpos_of_nonneg_of_nonpos hi.1 (by omega)
    have e1 : 2 * i * d = 2 * (i * d) := by rw [Int.mul_assoc]
    have a : d ≤ (2 * i * d + n) / (2 * n) := Int.le_ediv_of_mul_le h2 (by
      have e2 : d * (2 * n) = 2 * (n * d) := by rw [Int.mul_comm d, Int.mul_assoc]
      omega)
    have b : (2 * i * d + n) / (2 * n) < 1 := Int.ediv_lt_of_lt_mul h2 (by omega)
    omega

/-- The cells of the line lie in the terrain. -/
theorem line_has {t : Ter} {gl pl : List Int} {ax ay bx byy : Int} (h1 : THas t gl pl ax ay) (h2 : THas t gl pl bx byy) : ∀ c ∈ lineOf ax ay (bx - ax) (byy - ay) (spanOf (bx - ax) (byy - ay)), THas t gl pl c.x c.y := by
  intro c hc
  unfold lineOf at hc
  rw [List.mem_map] at hc
  obtain ⟨j, hj, rfl⟩ := hc
  rw [List.mem_range] at hj
  obtain ⟨hv, a1⟩ := h1
  obtain ⟨_, a2⟩ := h2
  generalize spanOf (bx - ax) (byy - ay) = n at *
  have x1 := rnd_btw (f := ax) (i := ((j + 1 : Nat) : Int)) (d := bx - ax) (n := n) (by omega) (by omega)
  have y1 := rnd_btw (f := ay) (i := ((j + 1 : Nat) : Int)) (d := byy - ay) (n := n) (by omega) (by omega)
  refine ⟨hv, ?_⟩
  simp only [lcell]
  omega

def gv (gl : List Int) (w : Int) (c : Cell) : Int := gl.getD (c.y * w + c.x).toNat 0

theorem gv_at {t : Ter} {gl pl : List Int} {x y : Int} (h : THas t gl pl x y) : ∃ k : Nat, ∃ hk : k < gl.length, y * t.w + x = k ∧ gv gl t.w ⟨x, y⟩ = gl[k] := by
  have hb := idx_bound h
  obtain ⟨k, hk⟩ := Int.eq_ofNat_of_zero_le hb.2.2.1
  have k1 : k < gl.length := by omega
  exact ⟨k, k1, hk, by unfold gv; rw [hk]; simp [k1]⟩

def mid (ax ay bx byy : Int) : List Cell := lineOf ax ay (bx - ax) (byy - ay) (spanOf (bx - ax) (byy - ay))
def endc (ax ay bx byy : Int) : List Cell := if ax = bx ∧ ay = byy then [] else [⟨bx, byy⟩]
def profC (ax ay bx byy : Int) : List Cell := [⟨ax, ay⟩] ++ mid ax ay bx byy ++ endc ax ay bx byy
def profL (gl : List Int) (w ax ay bx byy : Int) : List Int := (profC ax ay bx byy).map (gv gl w)

theorem mid_len {t : Ter} {gl pl : List Int} {ax ay bx byy : Int} (h1 : THas t gl pl ax ay) (h2 : THas t gl pl bx byy) : (mid ax ay bx byy).length ≤ 63 := by
  obtain ⟨hv, a1⟩ := h1
  obtain ⟨_, a2⟩ := h2
  have hw := hv.w
  have hh := hv.h
  have := (span_bound (dx := bx - ax) (dy := byy - ay) (by omega) (by omega))
  unfold mid
  rw [lineOf_len]; omega

theorem rprofile_is {t : Ter} {gl pl : List Int} {ax ay bx byy : Int} (ht : TerIn H t gl pl) (h1 : THas t gl pl ax ay) (h2 : THas t gl pl bx byy)
    (hR : ∀ H' v, Pre H H' → Sl (Lay.int .i64) H' v (profL gl t.w ax ay bx byy) → R (.ret v) H') :
    WF tab hook 26 [.agg t.cs.toArray, .agg #[.int .i64 ax, .int .i64 ay], .agg #[.int .i64 bx, .int .i64 byy]] H R := by
  refine WF_def (tab := tab) (F := 26) rfl rfl ?_
  have hw := h1.1.w
  have hh := h1.1.h
  have a1 := h1.2
  have a2 := h2.2
  obtain ⟨k1, l1, e1, g1⟩ := gv_at h1
  obtain ⟨k2, l2, e2, g2⟩ := gv_at h2
  have i1 := fun H R => rindex_is (hook := hook) (H := H) h1 R
  have i2 := fun H R => rindex_is (hook := hook) (H := H) h2 R
  unfold Ter.cs at i1 i2
  rw [e1] at i1
  rw [e2] at i2
  obtain ⟨bb, oo, cc, row, eg, hin⟩ := ht.g.into (by omega)
  rw [eg] at i1 i2
  have r1 := hin.hrow
  have lt1 := hin.lt
  have f1 := hin.int
  have ff1 := f1 k1 l1
  have ff2 := f1 k2 l2
  simp -implicitDefEqProofs (disch := first | omega | (simp only [List.length_append, List.length_cons, List.length_nil, List.length_set] <;> omega) | (repeat' (first | assumption | exact Pre.refl _ | refine Pre.push ?_ rfl | refine Pre.app ?_ (by assumption) | refine Pre.set ?_ ?_ rfl | omega | (simp only [List.length_append, List.length_cons, List.length_nil, List.length_set] <;> omega) | fail)) | fail) only [↓reduceIte, go_sem, Nat.sub_zero, List.length_replicate, Nat.reduceLT, Nat.reduceLeDiff, Nat.reduceEqDiff, Nat.reduceAdd, Nat.reduceMul, reduceCtorEq, Int.reduceToNat, Int.reduceLT, Int.reduceLE, Int.reduceAdd, Int.reduceSub, Int.reduceEq, Int.reduceBEq, Int.reduceBNe, Nat.reduceBEq, Nat.reduceBNe, Int.reduceMul, Int.reduceNeg, Ter.cs, i1, eg, r1, lt1, ff1, l1]
  refine rline_is (a := ax) (b := ay) (c := bx) (d := byy) (by omega) (by omega) (by omega) (by omega) fun H1 v ow => ?_
  have gr := (Gr.lit (L := Lay.int .i64) (H0 := H) (H := H) (c := [.int .i64 gl[k1]]) (lo := 0) (l := [gl[k1]]) (Pre.refl H) (by simp [Lay.int])).mono ow.pre
  have hp1 : Pre H H1 := Pre.trans (by (repeat' (first | assumption | exact Pre.refl _ | refine Pre.push ?_ rfl | refine Pre.app ?_ (by assumption) | refine Pre.set ?_ ?_ rfl | omega | (simp only [List.length_append, List.length_cons, List.length_nil, List.length_set] <;> omega) | fail))) ow.pre
  have hml := mid_len h1 h2
  have hmem := line_has h1 h2
  have sl := ow.sl
  have hoff : ∀ b o k c, v = .slice (some ⟨b, o, none⟩) k c → 0 < k → Off (.slice (some ⟨H.length, 0, none⟩) 1 2) b := by
    intro b o k c hv hk
    obtain ⟨_, ⟨q, _⟩ | ⟨b', q1, q2, q3⟩ | ⟨b', o', q1, q2⟩⟩ := ow
    · rw [hv] at q; simp at q
    · rw [hv] at q1; simp at q1 q2; exact Off.ge (by omega)
    · rw [hv] at q1; simp at q1; omega
  rw [show lineOf ax ay (bx - ax) (byy - ay) (spanOf (bx - ax) (byy - ay)) = mid ax ay bx byy from rfl] at sl hmem
  clear ow
  generalize hM : mid ax ay bx byy = M at *
  have sl0 := sl
  obtain ⟨o1, c1, rfl⟩ := sl0.form
  simp -implicitDefEqProofs (disch := first | omega | (simp only [List.length_append, List.length_cons, List.length_nil, List.length_set] <;> omega) | (repeat' (first | assumption | exact Pre.refl _ | refine Pre.push ?_ rfl | refine Pre.app ?_ (by assumption) | refine Pre.set ?_ ?_ rfl | omega | (simp only [List.length_append, List.length_cons, List.length_nil, List.length_set] <;> omega) | fail)) | fail) only [↓reduceIte, go_sem, Nat.sub_zero, List.length_replicate, Nat.reduceLT, Nat.reduceLeDiff, Nat.reduceEqDiff, Nat.reduceAdd, Nat.reduceMul, reduceCtorEq, Int.reduceToNat, Int.reduceLT, Int.reduceLE, Int.reduceAdd, Int.reduceSub, Int.reduceEq, Int.reduceBEq, Int.reduceBNe, Nat.reduceBEq, Nat.reduceBNe, Int.reduceMul, Int.reduceNeg]
  refine wp_for [3, 4, 5, 6, 8, 40, 41, 42, 43, 44, 46, 47, 48, 49, 50, 51, 52, 53, 54] M.length (fun i g H' => g 9 = .int .i64 (i : Int) ∧ Gr (Lay.int .i64) H H' (g 7) (gl[k1] :: (M.take i).map (gv gl t.w)) ∧ Sl LCell H' (.slice o1 M.length c1) M ∧ ∀ b o k c, (Value.slice o1 M.length c1) = .slice (some ⟨b, o, none⟩) k c → 0 < k → Off (g 7) b) ?_ 0 _ (by omega) ?_
  · rintro i g H2 hi hk ⟨e7, gr2, sl2, off⟩
    have p2 := gr2.pre
    simp -implicitDefEqProofs (disch := first | omega | (simp only [List.length_append, List.length_cons, List.length_nil, List.length_set] <;> omega) | (repeat' (first | assumption | exact Pre.refl _ | refine Pre.push ?_ rfl | refine Pre.app ?_ (by assumption) | refine Pre.set ?_ ?_ rfl | omega | (simp only [List.length_append, List.length_cons, List.length_nil, List.length_set] <;> omega) | fail)) | fail) only [↓reduceIte, go_sem, Nat.sub_zero, List.length_replicate, Nat.reduceLT, Nat.reduceLeDiff, Nat.reduceEqDiff, Nat.reduceAdd, Nat.reduceMul, reduceCtorEq, Int.reduceToNat, Int.reduceLT, Int.reduceLE, Int.reduceAdd, Int.reduceSub, Int.reduceEq, Int.reduceBEq, Int.reduceBNe, Nat.reduceBEq, Nat.reduceBNe, Int.reduceMul, Int.reduceNeg] at hk
    simp -implicitDefEqProofs (disch := first | omega | (simp only [List.length_append, List.length_cons, List.length_nil, List.length_set] <;> omega) | (repeat' (first | assumption | exact Pre.refl _ | refine Pre.push ?_ rfl | refine Pre.app ?_ (by assumption) | refine Pre.set ?_ ?_ rfl | omega | (simp only [List.length_append, List.length_cons, List.length_nil, List.length_set] <;> omega) | fail)) | fail) only [↓reduceIte, go_sem, Nat.sub_zero, List.length_replicate, Nat.reduceLT, Nat.reduceLeDiff, Nat.reduceEqDiff, Nat.reduceAdd, Nat.reduceMul, reduceCtorEq, Int.reduceToNat, Int.reduceLT, Int.reduceLE, Int.reduceAdd, Int.reduceSub, Int.reduceEq, Int.reduceBEq, Int.reduceBNe, Nat.reduceBEq, Nat.reduceBNe, Int.reduceMul, Int.reduceNeg, hk, e7]
    ((first | refine wguard_split (fun hbr => ?_) (fun hbr => ?_) | refine wcond_split (fun hbr => ?_) (fun hbr => ?_) | refine wguard0_split (fun hbr => ?_) (fun hbr => ?_)) <;> (have hq := hbr; (try simp only [Bool.not_eq_true', Bool.not_eq_false', Bool.and_eq_true, Bool.and_eq_false_iff, Bool.or_eq_true, Bool.or_eq_false_iff, decide_eq_true_eq, decide_eq_false_iff_not, bne_iff_ne, beq_iff_eq, beq_eq_false_iff_ne, bne_eq_false_iff_eq, ne_eq, Int.not_lt, Int.not_le, Int.ofNat_inj, Bool.not_eq_true, Bool.not_eq_false] at hq)))
    · (try simp only [Bool.not_eq_true', Bool.not_eq_false', Bool.and_eq_true, Bool.and_eq_false_iff, Bool.or_eq_true, Bool.or_eq_false_iff, decide_eq_true_eq, decide_eq_false_iff_not, bne_iff_ne, beq_iff_eq, beq_eq_false_iff_ne, bne_eq_false_iff_eq, ne_eq, Int.not_lt, Int.not_le, Int.ofNat_inj, Bool.not_eq_true, Bool.not_eq_false] at *)
      have q1 : i < M.length := by omega
      obtain ⟨b2, o2, row2, rfl, -, hin2⟩ := sl2.at (by omega)
      have r2 := hin2.hrow
      have c2 := hin2.cut i q1
      have hi3 := hmem M[i] (List.getElem_mem q1)
      obtain ⟨k3, l3, e3, g3⟩ := gv_at hi3
      have i3 := fun H R => rindex_is (hook := hook) (H := H) hi3 R
      unfold Ter.cs at i3
      rw [e3, eg] at i3
      have r3 := row_pfx' p2 r1
      have ff3 := f1 k3 l3
      have tk : (M.take (i + 1)).map (gv gl t.w) = (M.take i).map (gv gl t.w) ++ [gl[k3]] := by
        rw [List.take_add_one, List.getElem?_eq_getElem q1, List.map_append]
        simp only [Option.toList_some, List.map_cons, List.map_nil]
        rw [← g3]
      have c2' : cut row2 (o2 + i * 2) 2 = some [.int .i64 M[i].x, .int .i64 M[i].y] := c2
      obtain ⟨v', H', e, gr3, hsep, -⟩ := gr2.app (l2 := [gl[k3]]) (n := 1) (bytes := 8) (xs := [.int .i64 gl[k3]]) rfl rfl (by simp; omega) (by simp; omega)
      have e' : iapp 1 8 (g 7) 1 [.int .i64 gl[k3]] H2 = some (v', H') := e
      have hs := hsep b2 hin2.lt (off b2 o2 _ _ rfl (by omega))
      have sl3 : Sl LCell H' (.slice (some ⟨b2, o2, none⟩) M.length c1) M := sl2.keep fun b o k c hb => by simp at hb; obtain ⟨⟨rfl, -⟩, -⟩ := hb; exact hs.1
      clear hR
      simp -implicitDefEqProofs (disch := first | omega | (simp only [List.length_append, List.length_cons, List.length_nil, List.length_set] <;> omega) | (repeat' (first | assumption | exact Pre.refl _ | refine Pre.push ?_ rfl | refine Pre.app ?_ (by assumption) | refine Pre.set ?_ ?_ rfl | omega | (simp only [List.length_append, List.length_cons, List.length_nil, List.length_set] <;> omega) | fail)) | fail) only [↓reduceIte, go_sem, Nat.sub_zero, List.length_replicate, Nat.reduceLT, Nat.reduceLeDiff, Nat.reduceEqDiff, Nat.reduceAdd, Nat.reduceMul, reduceCtorEq, Int.reduceToNat, Int.reduceLT, Int.reduceLE, Int.reduceAdd, Int.reduceSub, Int.reduceEq, Int.reduceBEq, Int.reduceBNe, Nat.reduceBEq, Nat.reduceBNe, Int.reduceMul, Int.reduceNeg, hk, e7, i3, eg, r2, c2', r3, ff3, e', tk, l3, hbr]
      refine ⟨by simpa using gr3, sl3, fun b o k c hb _ => ?_⟩
      simp at hb
      obtain ⟨⟨rfl, -⟩, -⟩ := hb
      exact hs.2
    · (try simp only [Bool.not_eq_true', Bool.not_eq_false', Bool.and_eq_true, Bool.and_eq_false_iff, Bool.or_eq_true, Bool.or_eq_false_iff, decide_eq_true_eq, decide_eq_false_iff_not, bne_iff_ne, beq_iff_eq, beq_eq_false_iff_ne, bne_eq_false_iff_eq, ne_eq, Int.not_lt, Int.not_le, Int.ofNat_inj, Bool.not_eq_true, Bool.not_eq_false] at *)
      have hMt : M.take i = M := List.take_of_length_le (by omega)
      rw [hMt] at gr2
      have r3 := row_pfx' p2 r1
      simp -implicitDefEqProofs (disch := first | omega | (simp only [List.length_append, List.length_cons, List.length_nil, List.length_set] <;> omega) | (repeat' (first | assumption | exact Pre.refl _ | refine Pre.push ?_ rfl | refine Pre.app ?_ (by assumption) | refine Pre.set ?_ ?_ rfl | omega | (simp only [List.length_append, List.length_cons, List.length_nil, List.length_set] <;> omega) | fail)) | fail) only [↓reduceIte, go_sem, Nat.sub_zero, List.length_replicate, Nat.reduceLT, Nat.reduceLeDiff, Nat.reduceEqDiff, Nat.reduceAdd, Nat.reduceMul, reduceCtorEq, Int.reduceToNat, Int.reduceLT, Int.reduceLE, Int.reduceAdd, Int.reduceSub, Int.reduceEq, Int.reduceBEq, Int.reduceBNe, Nat.reduceBEq, Nat.reduceBNe, Int.reduceMul, Int.reduceNeg, hk, e7]
      refine span_is (a := ax) (b := ay) (c := bx) (d := byy) (by omega) (by omega) (by omega) (by omega) fun H3 p3 => ?_
      have gr3 := gr2.mono p3
      have r4 := row_pfx' p3 r3
      by_cases hab : ax = bx ∧ ay = byy
      · have hs0 : ¬ 0 < spanOf (bx - ax) (byy - ay) := by unfold spanOf; omega
        have hl : profL gl t.w ax ay bx byy = gl[k1] :: M.map (gv gl t.w) := by unfold profL profC; rw [hM, show endc ax ay bx byy = [] from if_pos hab]; simp [g1]
        simp -implicitDefEqProofs (disch := first | omega | (simp only [List.length_append, List.length_cons, List.length_nil, List.length_set] <;> omega) | (repeat' (first | assumption | exact Pre.refl _ | refine Pre.push ?_ rfl | refine Pre.app ?_ (by assumption) | refine Pre.set ?_ ?_ rfl | omega | (simp only [List.length_append, List.length_cons, List.length_nil, List.length_set] <;> omega) | fail)) | fail) only [↓reduceIte, go_sem, Nat.sub_zero, List.length_replicate, Nat.reduceLT, Nat.reduceLeDiff, Nat.reduceEqDiff, Nat.reduceAdd, Nat.reduceMul, reduceCtorEq, Int.reduceToNat, Int.reduceLT, Int.reduceLE, Int.reduceAdd, Int.reduceSub, Int.reduceEq, Int.reduceBEq, Int.reduceBNe, Nat.reduceBEq, Nat.reduceBNe, Int.reduceMul, Int.reduceNeg, hk, e7, hs0]
        exact hR _ _ (gr3.pre) (by rw [hl]; exact gr3.sl)
      · have hs0 : 0 < spanOf (bx - ax) (byy - ay) := by unfold spanOf; omega
        have hl : profL gl t.w ax ay bx byy = (gl[k1] :: M.map (gv gl t.w)) ++ [gl[k2]] := by unfold profL profC; rw [hM, show endc ax ay bx byy = [⟨bx, byy⟩] from if_neg hab]; simp [g1, g2]
        obtain ⟨v', H', e, gr4, -, -⟩ := gr3.app (l2 := [gl[k2]]) (n := 1) (bytes := 8) (xs := [.int .i64 gl[k2]]) rfl rfl (by simp; omega) (by simp; omega)
        have e' : iapp 1 8 (g 7) 1 [.int .i64 gl[k2]] H3 = some (v', H') := e
        simp -implicitDefEqProofs (disch := first | omega | (simp only [List.length_append, List.length_cons, List.length_nil, List.length_set] <;> omega) | (repeat' (first | assumption | exact Pre.refl _ | refine Pre.push ?_ rfl | refine Pre.app ?_ (by assumption) | refine Pre.set ?_ ?_ rfl | omega | (simp only [List.length_append, List.length_cons, List.length_nil, List.length_set] <;> omega) | fail)) | fail) only [↓reduceIte, go_sem, Nat.sub_zero, List.length_replicate, Nat.reduceLT, Nat.reduceLeDiff, Nat.reduceEqDiff, Nat.reduceAdd, Nat.reduceMul, reduceCtorEq, Int.reduceToNat, Int.reduceLT, Int.reduceLE, Int.reduceAdd, Int.reduceSub, Int.reduceEq, Int.reduceBEq, Int.reduceBNe, Nat.reduceBEq, Nat.reduceBNe, Int.reduceMul, Int.reduceNeg, hk, e7, hs0, i2, eg, r4, ff2, e', l2]
        exact hR _ _ gr4.pre (by rw [hl]; exact gr4.sl)
  · simp -implicitDefEqProofs (disch := first | omega | (simp only [List.length_append, List.length_cons, List.length_nil, List.length_set] <;> omega) | (repeat' (first | assumption | exact Pre.refl _ | refine Pre.push ?_ rfl | refine Pre.app ?_ (by assumption) | refine Pre.set ?_ ?_ rfl | omega | (simp only [List.length_append, List.length_cons, List.length_nil, List.length_set] <;> omega) | fail)) | fail) only [↓reduceIte, go_sem, Nat.sub_zero, List.length_replicate, Nat.reduceLT, Nat.reduceLeDiff, Nat.reduceEqDiff, Nat.reduceAdd, Nat.reduceMul, reduceCtorEq, Int.reduceToNat, Int.reduceLT, Int.reduceLE, Int.reduceAdd, Int.reduceSub, Int.reduceEq, Int.reduceBEq, Int.reduceBNe, Nat.reduceBEq, Nat.reduceBNe, Int.reduceMul, Int.reduceNeg]
    exact ⟨gr, sl, fun b o k c hb hk => hoff b o k c hb hk⟩


theorem tprofile_is {t : Ter} {gl pl : List Int} {ax ay bx byy : Int} (ht : TerIn H t gl pl) (hg : gl.length ≤ 1000000) (hp : pl.length ≤ 1000000)
    (hno : ¬ (THas t gl pl ax ay ∧ THas t gl pl bx byy) → ∀ H', Pre H H' → R (.ret (.tuple #[.slice none 0 0, .int .i64 2])) H')
    (hR : THas t gl pl ax ay ∧ THas t gl pl bx byy → ∀ H' v, Pre H H' → Sl (Lay.int .i64) H' v (profL gl t.w ax ay bx byy) → R (.ret (.tuple #[v, .int .i64 0])) H') :
    WF tab hook 23 [.agg t.cs.toArray, .agg #[.int .i64 ax, .int .i64 ay], .agg #[.int .i64 bx, .int .i64 byy]] H R := by
  refine WF_def (tab := tab) (F := 23) rfl rfl ?_
  simp -implicitDefEqProofs (disch := first | omega | (simp only [List.length_append, List.length_cons, List.length_nil, List.length_set] <;> omega) | (repeat' (first | assumption | exact Pre.refl _ | refine Pre.push ?_ rfl | refine Pre.app ?_ (by assumption) | refine Pre.set ?_ ?_ rfl | omega | (simp only [List.length_append, List.length_cons, List.length_nil, List.length_set] <;> omega) | fail)) | fail) only [↓reduceIte, go_sem, Nat.sub_zero, List.length_replicate, Nat.reduceLT, Nat.reduceLeDiff, Nat.reduceEqDiff, Nat.reduceAdd, Nat.reduceMul, reduceCtorEq, Int.reduceToNat, Int.reduceLT, Int.reduceLE, Int.reduceAdd, Int.reduceSub, Int.reduceEq, Int.reduceBEq, Int.reduceBNe, Nat.reduceBEq, Nat.reduceBNe, Int.reduceMul, Int.reduceNeg, Ter.cs]
  refine has_is (t := t) ht hg hp fun H1 p1 => ?_
  by_cases h1 : THas t gl pl ax ay
  case neg =>
    simp -implicitDefEqProofs (disch := first | omega | (simp only [List.length_append, List.length_cons, List.length_nil, List.length_set] <;> omega) | (repeat' (first | assumption | exact Pre.refl _ | refine Pre.push ?_ rfl | refine Pre.app ?_ (by assumption) | refine Pre.set ?_ ?_ rfl | omega | (simp only [List.length_append, List.length_cons, List.length_nil, List.length_set] <;> omega) | fail)) | fail) only [↓reduceIte, go_sem, Nat.sub_zero, List.length_replicate, Nat.reduceLT, Nat.reduceLeDiff, Nat.reduceEqDiff, Nat.reduceAdd, Nat.reduceMul, reduceCtorEq, Int.reduceToNat, Int.reduceLT, Int.reduceLE, Int.reduceAdd, Int.reduceSub, Int.reduceEq, Int.reduceBEq, Int.reduceBNe, Nat.reduceBEq, Nat.reduceBNe, Int.reduceMul, Int.reduceNeg, decide_eq_false h1]
    exact hno (fun h => h1 h.1) _ p1
  simp -implicitDefEqProofs (disch := first | omega | (simp only [List.length_append, List.length_cons, List.length_nil, List.length_set] <;> omega) | (repeat' (first | assumption | exact Pre.refl _ | refine Pre.push ?_ rfl | refine Pre.app ?_ (by assumption) | refine Pre.set ?_ ?_ rfl | omega | (simp only [List.length_append, List.length_cons, List.length_nil, List.length_set] <;> omega) | fail)) | fail) only [↓reduceIte, go_sem, Nat.sub_zero, List.length_replicate, Nat.reduceLT, Nat.reduceLeDiff, Nat.reduceEqDiff, Nat.reduceAdd, Nat.reduceMul, reduceCtorEq, Int.reduceToNat, Int.reduceLT, Int.reduceLE, Int.reduceAdd, Int.reduceSub, Int.reduceEq, Int.reduceBEq, Int.reduceBNe, Nat.reduceBEq, Nat.reduceBNe, Int.reduceMul, Int.reduceNeg, decide_eq_true h1]
  refine has_is (t := t) (ht.mono p1) hg hp fun H2 p2 => ?_
  by_cases h2 : THas t gl pl bx byy
  case neg =>
    simp -implicitDefEqProofs (disch := first | omega | (simp only [List.length_append, List.length_cons, List.length_nil, List.length_set] <;> omega) | (repeat' (first | assumption | exact Pre.refl _ | refine Pre.push ?_ rfl | refine Pre.app ?_ (by assumption) | refine Pre.set ?_ ?_ rfl | omega | (simp only [List.length_append, List.length_cons, List.length_nil, List.length_set] <;> omega) | fail)) | fail) only [↓reduceIte, go_sem, Nat.sub_zero, List.length_replicate, Nat.reduceLT, Nat.reduceLeDiff, Nat.reduceEqDiff, Nat.reduceAdd, Nat.reduceMul, reduceCtorEq, Int.reduceToNat, Int.reduceLT, Int.reduceLE, Int.reduceAdd, Int.reduceSub, Int.reduceEq, Int.reduceBEq, Int.reduceBNe, Nat.reduceBEq, Nat.reduceBNe, Int.reduceMul, Int.reduceNeg, decide_eq_false h2]
    exact hno (fun h => h2 h.2) _ (p1.trans p2)
  simp -implicitDefEqProofs (disch := first | omega | (simp only [List.length_append, List.length_cons, List.length_nil, List.length_set] <;> omega) | (repeat' (first | assumption | exact Pre.refl _ | refine Pre.push ?_ rfl | refine Pre.app ?_ (by assumption) | refine Pre.set ?_ ?_ rfl | omega | (simp only [List.length_append, List.length_cons, List.length_nil, List.length_set] <;> omega) | fail)) | fail) only [↓reduceIte, go_sem, Nat.sub_zero, List.length_replicate, Nat.reduceLT, Nat.reduceLeDiff, Nat.reduceEqDiff, Nat.reduceAdd, Nat.reduceMul, reduceCtorEq, Int.reduceToNat, Int.reduceLT, Int.reduceLE, Int.reduceAdd, Int.reduceSub, Int.reduceEq, Int.reduceBEq, Int.reduceBNe, Nat.reduceBEq, Nat.reduceBNe, Int.reduceMul, Int.reduceNeg, decide_eq_true h2]
  have hR' := hR ⟨h1, h2⟩
  clear hR hno
  have q2 := p1.trans p2
  have hw := h1.1.w
  have hh := h1.1.h
  have a1 := h1.2
  have a2 := h2.2
  obtain ⟨k1, l1, e1, g1⟩ := gv_at h1
  obtain ⟨bb, oo, cc, row, eg, hin⟩ := ht.g.into (by omega)
  have r1 := hin.hrow
  have f1 := hin.int
  refine tline_is (a := ax) (b := ay) (c := bx) (d := byy) (fun h => absurd (by unfold Side; omega) h) fun _ H3 v ow => ?_
  have hml := mid_len h1 h2
  have hmem := line_has h1 h2
  have sl := ow.sl
  have p3 := ow.pre
  rw [show lineOf ax ay (bx - ax) (byy - ay) (spanOf (bx - ax) (byy - ay)) = mid ax ay bx byy from rfl] at sl hmem
  clear ow
  generalize hM : mid ax ay bx byy = M at *
  have gc := (Gr.lit (L := LCell) (H0 := H3) (H := H3) (c := [.int .i64 ax, .int .i64 ay]) (lo := 0) (l := [⟨ax, ay⟩]) (Pre.refl H3) rfl)
  have el := (sl.app (G := [.cells [.int .i64 ax, .int .i64 ay] false 0])).elems
  obtain ⟨v2, H4, e2, gc2, -, -⟩ := gc.app (l2 := M) (n := M.length) (bytes := 16) rfl rfl (by simp; omega) (by simp; omega)
  have el' : elems (H3 ++ [.cells [.int .i64 ax, .int .i64 ay] false 0]) 2 v = some (M.length, M.flatMap LCell.c) := el
  have e2' : iapp 2 16 (.slice (some ⟨H3.length, 0, none⟩) 1 2) M.length (M.flatMap LCell.c) (H3 ++ [.cells [.int .i64 ax, .int .i64 ay] false 0]) = some (v2, H4) := e2
  have hmemC : ∀ c ∈ profC ax ay bx byy, THas t gl pl c.x c.y := by
    intro c hc
    unfold profC endc at hc
    rw [hM] at hc
    simp only [List.mem_append, List.mem_singleton] at hc
    rcases hc with (rfl | hc) | hc
    · exact h1
    · exact hmem c hc
    · split at hc
      · cases hc
      · simp at hc; subst hc; exact h2
  by_cases hab : ax = bx ∧ ay = byy
  · have hc : ((ax == bx) && (ay == byy)) = true := by simp [hab]
    have gC : Gr LCell H3 H4 v2 (profC ax ay bx byy) := by
      unfold profC; rw [hM, show endc ax ay bx byy = [] from if_pos hab, List.append_nil]; exact gc2
    simp -implicitDefEqProofs (disch := first | omega | (simp only [List.length_append, List.length_cons, List.length_nil, List.length_set] <;> omega) | (repeat' (first | assumption | exact Pre.refl _ | refine Pre.push ?_ rfl | refine Pre.app ?_ (by assumption) | refine Pre.set ?_ ?_ rfl | omega | (simp only [List.length_append, List.length_cons, List.length_nil, List.length_set] <;> omega) | fail)) | fail) only [↓reduceIte, go_sem, Nat.sub_zero, List.length_replicate, Nat.reduceLT, Nat.reduceLeDiff, Nat.reduceEqDiff, Nat.reduceAdd, Nat.reduceMul, reduceCtorEq, Int.reduceToNat, Int.reduceLT, Int.reduceLE, Int.reduceAdd, Int.reduceSub, Int.reduceEq, Int.reduceBEq, Int.reduceBNe, Nat.reduceBEq, Nat.reduceBNe, Int.reduceMul, Int.reduceNeg, el', e2', seqs, seq1, hc]
    generalize H4 = H5 at *
    have p5 := gC.pre
    have slC := gC.sl
    have hlC : (profC ax ay bx byy).length ≤ 65 := by unfold profC endc; rw [hM]; split <;> simp <;> omega
    generalize hC : profC ax ay bx byy = C at *
    obtain ⟨oC, cC, rfl⟩ := slC.form
    simp -implicitDefEqProofs (disch := first | omega | (simp only [List.length_append, List.length_cons, List.length_nil, List.length_set] <;> omega) | (repeat' (first | assumption | exact Pre.refl _ | refine Pre.push ?_ rfl | refine Pre.app ?_ (by assumption) | refine Pre.set ?_ ?_ rfl | omega | (simp only [List.length_append, List.length_cons, List.length_nil, List.length_set] <;> omega) | fail)) | fail) only [↓reduceIte, go_sem, Nat.sub_zero, List.length_replicate, Nat.reduceLT, Nat.reduceLeDiff, Nat.reduceEqDiff, Nat.reduceAdd, Nat.reduceMul, reduceCtorEq, Int.reduceToNat, Int.reduceLT, Int.reduceLE, Int.reduceAdd, Int.reduceSub, Int.reduceEq, Int.reduceBEq, Int.reduceBNe, Nat.reduceBEq, Nat.reduceBNe, Int.reduceMul, Int.reduceNeg]
    -- the heights
    have gr := (Gr.make (L := Lay.int .i64) (H0 := H5) (H := H5) (c := List.replicate C.length (.int .i64 0)) (k := C.length) (lo := 0) (Pre.refl H5) (by simp [Lay.int]))
    have slC2 := slC.app (G := [.cells (List.replicate C.length (.int .i64 0)) false 0])
    have erep : (List.replicate C.length [Value.int .i64 0]).flatten = List.replicate C.length (.int .i64 0) := by simp
    have hlow : ∀ b o k c, (Value.slice oC C.length cC) = .slice (some ⟨b, o, none⟩) k c → 0 < k → b < H5.length := by
      intro b o k c hb hk
      simp at hb
      obtain ⟨rfl, rfl, rfl⟩ := hb
      obtain ⟨b', o', row', hx, -, hin'⟩ := slC.at hk
      simp at hx
      obtain ⟨rfl, rfl⟩ := hx
      exact hin'.lt
    simp -implicitDefEqProofs (disch := first | omega | (simp only [List.length_append, List.length_cons, List.length_nil, List.length_set] <;> omega) | (repeat' (first | assumption | exact Pre.refl _ | refine Pre.push ?_ rfl | refine Pre.app ?_ (by assumption) | refine Pre.set ?_ ?_ rfl | omega | (simp only [List.length_append, List.length_cons, List.length_nil, List.length_set] <;> omega) | fail)) | fail) only [↓reduceIte, go_sem, Nat.sub_zero, List.length_replicate, Nat.reduceLT, Nat.reduceLeDiff, Nat.reduceEqDiff, Nat.reduceAdd, Nat.reduceMul, reduceCtorEq, Int.reduceToNat, Int.reduceLT, Int.reduceLE, Int.reduceAdd, Int.reduceSub, Int.reduceEq, Int.reduceBEq, Int.reduceBNe, Nat.reduceBEq, Nat.reduceBNe, Int.reduceMul, Int.reduceNeg, erep]
    refine ⟨by omega, ?_⟩
    refine wp_for [3, 6, 7, 44, 45, 61] C.length (fun i g H' => g 46 = .int .i64 (i : Int) ∧ Gr (Lay.int .i64) H5 H' (g 11) ((C.take i).map (gv gl t.w)) ∧ Sl LCell H' (.slice oC C.length cC) C ∧ ∀ b o k c, (Value.slice oC C.length cC) = .slice (some ⟨b, o, none⟩) k c → 0 < k → Off (g 11) b) ?_ 0 _ (by omega) ?_
    · rintro i g H6 hi hk ⟨e7, gr2, sl2, off⟩
      have p6 := gr2.pre
      have q6 : Pre H H6 := q2.trans (p3.trans (p5.trans p6))
      simp -implicitDefEqProofs (disch := first | omega | (simp only [List.length_append, List.length_cons, List.length_nil, List.length_set] <;> omega) | (repeat' (first | assumption | exact Pre.refl _ | refine Pre.push ?_ rfl | refine Pre.app ?_ (by assumption) | refine Pre.set ?_ ?_ rfl | omega | (simp only [List.length_append, List.length_cons, List.length_nil, List.length_set] <;> omega) | fail)) | fail) only [↓reduceIte, go_sem, Nat.sub_zero, List.length_replicate, Nat.reduceLT, Nat.reduceLeDiff, Nat.reduceEqDiff, Nat.reduceAdd, Nat.reduceMul, reduceCtorEq, Int.reduceToNat, Int.reduceLT, Int.reduceLE, Int.reduceAdd, Int.reduceSub, Int.reduceEq, Int.reduceBEq, Int.reduceBNe, Nat.reduceBEq, Nat.reduceBNe, Int.reduceMul, Int.reduceNeg] at hk
      simp -implicitDefEqProofs (disch := first | omega | (simp only [List.length_append, List.length_cons, List.length_nil, List.length_set] <;> omega) | (repeat' (first | assumption | exact Pre.refl _ | refine Pre.push ?_ rfl | refine Pre.app ?_ (by assumption) | refine Pre.set ?_ ?_ rfl | omega | (simp only [List.length_append, List.length_cons, List.length_nil, List.length_set] <;> omega) | fail)) | fail) only [↓reduceIte, go_sem, Nat.sub_zero, List.length_replicate, Nat.reduceLT, Nat.reduceLeDiff, Nat.reduceEqDiff, Nat.reduceAdd, Nat.reduceMul, reduceCtorEq, Int.reduceToNat, Int.reduceLT, Int.reduceLE, Int.reduceAdd, Int.reduceSub, Int.reduceEq, Int.reduceBEq, Int.reduceBNe, Nat.reduceBEq, Nat.reduceBNe, Int.reduceMul, Int.reduceNeg, hk, e7]
      ((first | refine wguard_split (fun hbr => ?_) (fun hbr => ?_) | refine wcond_split (fun hbr => ?_) (fun hbr => ?_) | refine wguard0_split (fun hbr => ?_) (fun hbr => ?_)) <;> (have hq := hbr; (try simp only [Bool.not_eq_true', Bool.not_eq_false', Bool.and_eq_true, Bool.and_eq_false_iff, Bool.or_eq_true, Bool.or_eq_false_iff, decide_eq_true_eq, decide_eq_false_iff_not, bne_iff_ne, beq_iff_eq, beq_eq_false_iff_ne, bne_eq_false_iff_eq, ne_eq, Int.not_lt, Int.not_le, Int.ofNat_inj, Bool.not_eq_true, Bool.not_eq_false] at hq)))
      · (try simp only [Bool.not_eq_true', Bool.not_eq_false', Bool.and_eq_true, Bool.and_eq_false_iff, Bool.or_eq_true, Bool.or_eq_false_iff, decide_eq_true_eq, decide_eq_false_iff_not, bne_iff_ne, beq_iff_eq, beq_eq_false_iff_ne, bne_eq_false_iff_eq, ne_eq, Int.not_lt, Int.not_le, Int.ofNat_inj, Bool.not_eq_true, Bool.not_eq_false] at *)
        have q1 : i < C.length := by omega
        obtain ⟨b2, o2, row2, rfl, -, hin2⟩ := sl2.at (by omega)
        have r2 := hin2.hrow
        have c2 := hin2.cut i q1
        have hi3 := hmemC C[i] (List.getElem_mem q1)
        obtain ⟨k3, l3, e3, g3⟩ := gv_at hi3
        have i3 := fun H R => tindex_is (hook := hook) (H := H) hi3 R
        unfold Ter.cs at i3
        rw [e3, eg] at i3
        have r3 := row_pfx' q6 r1
        have ff3 := f1 k3 l3
        have tk : (C.take (i + 1)).map (gv gl t.w) = (C.take i).map (gv gl t.w) ++ [gl[k3]] := by
          rw [List.take_add_one, List.getElem?_eq_getElem q1, List.map_append]
          simp only [Option.toList_some, List.map_cons, List.map_nil]
          rw [← g3]
        have c2' : cut row2 (o2 + i * 2) 2 = some [.int .i64 C[i].x, .int .i64 C[i].y] := c2
        obtain ⟨v', H', e, gr3, hsep, -⟩ := gr2.app (l2 := [gl[k3]]) (n := 1) (bytes := 8) (xs := [.int .i64 gl[k3]]) rfl rfl (by simp; omega) (by simp; omega)
        have e' : iapp 1 8 (g 11) 1 [.int .i64 gl[k3]] H6 = some (v', H') := e
        have hs := hsep b2 hin2.lt (off b2 o2 _ _ rfl (by omega))
        have sl3 : Sl LCell H' (.slice (some ⟨b2, o2, none⟩) C.length cC) C := sl2.keep fun b o k c hb => by simp at hb; obtain ⟨⟨rfl, -⟩, -⟩ := hb; exact hs.1
        clear hR'
        simp -implicitDefEqProofs (disch := first | omega | (simp only [List.length_append, List.length_cons, List.length_nil, List.length_set] <;> omega) | (repeat' (first | assumption | exact Pre.refl _ | refine Pre.push ?_ rfl | refine Pre.app ?_ (by assumption) | refine Pre.set ?_ ?_ rfl | omega | (simp only [List.length_append, List.length_cons, List.length_nil, List.length_set] <;> omega) | fail)) | fail) only [↓reduceIte, go_sem, Nat.sub_zero, List.length_replicate, Nat.reduceLT, Nat.reduceLeDiff, Nat.reduceEqDiff, Nat.reduceAdd, Nat.reduceMul, reduceCtorEq, Int.reduceToNat, Int.reduceLT, Int.reduceLE, Int.reduceAdd, Int.reduceSub, Int.reduceEq, Int.reduceBEq, Int.reduceBNe, Nat.reduceBEq, Nat.reduceBNe, Int.reduceMul, Int.reduceNeg, hk, e7, i3, eg, r2, c2', r3, ff3, e', tk, l3, hbr]
        refine ⟨by simpa using gr3, sl3, fun b o k c hb _ => ?_⟩
        simp at hb
        obtain ⟨⟨rfl, -⟩, -⟩ := hb
        exact hs.2
      · (try simp only [Bool.not_eq_true', Bool.not_eq_false', Bool.and_eq_true, Bool.and_eq_false_iff, Bool.or_eq_true, Bool.or_eq_false_iff, decide_eq_true_eq, decide_eq_false_iff_not, bne_iff_ne, beq_iff_eq, beq_eq_false_iff_ne, bne_eq_false_iff_eq, ne_eq, Int.not_lt, Int.not_le, Int.ofNat_inj, Bool.not_eq_true, Bool.not_eq_false] at *)
        have hCt : C.take i = C := List.take_of_length_le (by omega)
        rw [hCt] at gr2
        simp -implicitDefEqProofs (disch := first | omega | (simp only [List.length_append, List.length_cons, List.length_nil, List.length_set] <;> omega) | (repeat' (first | assumption | exact Pre.refl _ | refine Pre.push ?_ rfl | refine Pre.app ?_ (by assumption) | refine Pre.set ?_ ?_ rfl | omega | (simp only [List.length_append, List.length_cons, List.length_nil, List.length_set] <;> omega) | fail)) | fail) only [↓reduceIte, go_sem, Nat.sub_zero, List.length_replicate, Nat.reduceLT, Nat.reduceLeDiff, Nat.reduceEqDiff, Nat.reduceAdd, Nat.reduceMul, reduceCtorEq, Int.reduceToNat, Int.reduceLT, Int.reduceLE, Int.reduceAdd, Int.reduceSub, Int.reduceEq, Int.reduceBEq, Int.reduceBNe, Nat.reduceBEq, Nat.reduceBNe, Int.reduceMul, Int.reduceNeg, hk, e7]
        exact hR' _ _ q6 (by unfold profL; rw [hC]; exact gr2.sl)
    · simp -implicitDefEqProofs (disch := first | omega | (simp only [List.length_append, List.length_cons, List.length_nil, List.length_set] <;> omega) | (repeat' (first | assumption | exact Pre.refl _ | refine Pre.push ?_ rfl | refine Pre.app ?_ (by assumption) | refine Pre.set ?_ ?_ rfl | omega | (simp only [List.length_append, List.length_cons, List.length_nil, List.length_set] <;> omega) | fail)) | fail) only [↓reduceIte, go_sem, Nat.sub_zero, List.length_replicate, Nat.reduceLT, Nat.reduceLeDiff, Nat.reduceEqDiff, Nat.reduceAdd, Nat.reduceMul, reduceCtorEq, Int.reduceToNat, Int.reduceLT, Int.reduceLE, Int.reduceAdd, Int.reduceSub, Int.reduceEq, Int.reduceBEq, Int.reduceBNe, Nat.reduceBEq, Nat.reduceBNe, Int.reduceMul, Int.reduceNeg]
      exact ⟨gr, slC2, fun b o k c hb hk => Off.ge (by have := hlow b o k c hb hk; omega)⟩
  · have hc : ((ax == bx) && (ay == byy)) = false := by simp; omega
    obtain ⟨v3, H5, e3, gc3, -, -⟩ := gc2.app (l2 := [⟨bx, byy⟩]) (n := 1) (bytes := 16) (xs := [.int .i64 bx, .int .i64 byy]) rfl rfl (by simp; omega) (by simp; omega)
    have e3' : iapp 2 16 v2 1 [.int .i64 bx, .int .i64 byy] H4 = some (v3, H5) := e3
    have gC : Gr LCell H3 H5 v3 (profC ax ay bx byy) := by
      unfold profC; rw [hM, show endc ax ay bx byy = [⟨bx, byy⟩] from if_neg hab]; exact gc3
    simp -implicitDefEqProofs (disch := first | omega | (simp only [List.length_append, List.length_cons, List.length_nil, List.length_set] <;> omega) | (repeat' (first | assumption | exact Pre.refl _ | refine Pre.push ?_ rfl | refine Pre.app ?_ (by assumption) | refine Pre.set ?_ ?_ rfl | omega | (simp only [List.length_append, List.length_cons, List.length_nil, List.length_set] <;> omega) | fail)) | fail) only [↓reduceIte, go_sem, Nat.sub_zero, List.length_replicate, Nat.reduceLT, Nat.reduceLeDiff, Nat.reduceEqDiff, Nat.reduceAdd, Nat.reduceMul, reduceCtorEq, Int.reduceToNat, Int.reduceLT, Int.reduceLE, Int.reduceAdd, Int.reduceSub, Int.reduceEq, Int.reduceBEq, Int.reduceBNe, Nat.reduceBEq, Nat.reduceBNe, Int.reduceMul, Int.reduceNeg, el', e2', seqs, seq1, hc, e3']
    have p5 := gC.pre
    have slC := gC.sl
    have hlC : (profC ax ay bx byy).length ≤ 65 := by unfold profC endc; rw [hM]; split <;> simp <;> omega
    generalize hC : profC ax ay bx byy = C at *
    obtain ⟨oC, cC, rfl⟩ := slC.form
    simp -implicitDefEqProofs (disch := first | omega | (simp only [List.length_append, List.length_cons, List.length_nil, List.length_set] <;> omega) | (repeat' (first | assumption | exact Pre.refl _ | refine Pre.push ?_ rfl | refine Pre.app ?_ (by assumption) | refine Pre.set ?_ ?_ rfl | omega | (simp only [List.length_append, List.length_cons, List.length_nil, List.length_set] <;> omega) | fail)) | fail) only [↓reduceIte, go_sem, Nat.sub_zero, List.length_replicate, Nat.reduceLT, Nat.reduceLeDiff, Nat.reduceEqDiff, Nat.reduceAdd, Nat.reduceMul, reduceCtorEq, Int.reduceToNat, Int.reduceLT, Int.reduceLE, Int.reduceAdd, Int.reduceSub, Int.reduceEq, Int.reduceBEq, Int.reduceBNe, Nat.reduceBEq, Nat.reduceBNe, Int.reduceMul, Int.reduceNeg]
    -- the heights
    have gr := (Gr.make (L := Lay.int .i64) (H0 := H5) (H := H5) (c := List.replicate C.length (.int .i64 0)) (k := C.length) (lo := 0) (Pre.refl H5) (by simp [Lay.int]))
    have slC2 := slC.app (G := [.cells (List.replicate C.length (.int .i64 0)) false 0])
    have erep : (List.replicate C.length [Value.int .i64 0]).flatten = List.replicate C.length (.int .i64 0) := by simp
    have hlow : ∀ b o k c, (Value.slice oC C.length cC) = .slice (some ⟨b, o, none⟩) k c → 0 < k → b < H5.length := by
      intro b o k c hb hk
      simp at hb
      obtain ⟨rfl, rfl, rfl⟩ := hb
      obtain ⟨b', o', row', hx, -, hin'⟩ := slC.at hk
      simp at hx
      obtain ⟨rfl, rfl⟩ := hx
      exact hin'.lt
    simp -implicitDefEqProofs (disch := first | omega | (simp only [List.length_append, List.length_cons, List.length_nil, List.length_set] <;> omega) | (repeat' (first | assumption | exact Pre.refl _ | refine Pre.push ?_ rfl | refine Pre.app ?_ (by assumption) | refine Pre.set ?_ ?_ rfl | omega | (simp only [List.length_append, List.length_cons, List.length_nil, List.length_set] <;> omega) | fail)) | fail) only [↓reduceIte, go_sem, Nat.sub_zero, List.length_replicate, Nat.reduceLT, Nat.reduceLeDiff, Nat.reduceEqDiff, Nat.reduceAdd, Nat.reduceMul, reduceCtorEq, Int.reduceToNat, Int.reduceLT, Int.reduceLE, Int.reduceAdd, Int.reduceSub, Int.reduceEq, Int.reduceBEq, Int.reduceBNe, Nat.reduceBEq, Nat.reduceBNe, Int.reduceMul, Int.reduceNeg, erep]
    refine ⟨by omega, ?_⟩
    refine wp_for [3, 6, 7, 44, 45, 61] C.length (fun i g H' => g 46 = .int .i64 (i : Int) ∧ Gr (Lay.int .i64) H5 H' (g 11) ((C.take i).map (gv gl t.w)) ∧ Sl LCell H' (.slice oC C.length cC) C ∧ ∀ b o k c, (Value.slice oC C.length cC) = .slice (some ⟨b, o, none⟩) k c → 0 < k → Off (g 11) b) ?_ 0 _ (by omega) ?_
    · rintro i g H6 hi hk ⟨e7, gr2, sl2, off⟩
      have p6 := gr2.pre
      have q6 : Pre H H6 := q2.trans (p3.trans (p5.trans p6))
      simp -implicitDefEqProofs (disch := first | omega | (simp only [List.length_append, List.length_cons, List.length_nil, List.length_set] <;> omega) | (repeat' (first | assumption | exact Pre.refl _ | refine Pre.push ?_ rfl | refine Pre.app ?_ (by assumption) | refine Pre.set ?_ ?_ rfl | omega | (simp only [List.length_append, List.length_cons, List.length_nil, List.length_set] <;> omega) | fail)) | fail) only [↓reduceIte, go_sem, Nat.sub_zero, List.length_replicate, Nat.reduceLT, Nat.reduceLeDiff, Nat.reduceEqDiff, Nat.reduceAdd, Nat.reduceMul, reduceCtorEq, Int.reduceToNat, Int.reduceLT, Int.reduceLE, Int.reduceAdd, Int.reduceSub, Int.reduceEq, Int.reduceBEq, Int.reduceBNe, Nat.reduceBEq, Nat.reduceBNe, Int.reduceMul, Int.reduceNeg] at hk
      simp -implicitDefEqProofs (disch := first | omega | (simp only [List.length_append, List.length_cons, List.length_nil, List.length_set] <;> omega) | (repeat' (first | assumption | exact Pre.refl _ | refine Pre.push ?_ rfl | refine Pre.app ?_ (by assumption) | refine Pre.set ?_ ?_ rfl | omega | (simp only [List.length_append, List.length_cons, List.length_nil, List.length_set] <;> omega) | fail)) | fail) only [↓reduceIte, go_sem, Nat.sub_zero, List.length_replicate, Nat.reduceLT, Nat.reduceLeDiff, Nat.reduceEqDiff, Nat.reduceAdd, Nat.reduceMul, reduceCtorEq, Int.reduceToNat, Int.reduceLT, Int.reduceLE, Int.reduceAdd, Int.reduceSub, Int.reduceEq, Int.reduceBEq, Int.reduceBNe, Nat.reduceBEq, Nat.reduceBNe, Int.reduceMul, Int.reduceNeg, hk, e7]
      ((first | refine wguard_split (fun hbr => ?_) (fun hbr => ?_) | refine wcond_split (fun hbr => ?_) (fun hbr => ?_) | refine wguard0_split (fun hbr => ?_) (fun hbr => ?_)) <;> (have hq := hbr; (try simp only [Bool.not_eq_true', Bool.not_eq_false', Bool.and_eq_true, Bool.and_eq_false_iff, Bool.or_eq_true, Bool.or_eq_false_iff, decide_eq_true_eq, decide_eq_false_iff_not, bne_iff_ne, beq_iff_eq, beq_eq_false_iff_ne, bne_eq_false_iff_eq, ne_eq, Int.not_lt, Int.not_le, Int.ofNat_inj, Bool.not_eq_true, Bool.not_eq_false] at hq)))
      · (try simp only [Bool.not_eq_true', Bool.not_eq_false', Bool.and_eq_true, Bool.and_eq_false_iff, Bool.or_eq_true, Bool.or_eq_false_iff, decide_eq_true_eq, decide_eq_false_iff_not, bne_iff_ne, beq_iff_eq, beq_eq_false_iff_ne, bne_eq_false_iff_eq, ne_eq, Int.not_lt, Int.not_le, Int.ofNat_inj, Bool.not_eq_true, Bool.not_eq_false] at *)
        have q1 : i < C.length := by omega
        obtain ⟨b2, o2, row2, rfl, -, hin2⟩ := sl2.at (by omega)
        have r2 := hin2.hrow
        have c2 := hin2.cut i q1
        have hi3 := hmemC C[i] (List.getElem_mem q1)
        obtain ⟨k3, l3, e3, g3⟩ := gv_at hi3
        have i3 := fun H R => tindex_is (hook := hook) (H := H) hi3 R
        unfold Ter.cs at i3
        rw [e3, eg] at i3
        have r3 := row_pfx' q6 r1
        have ff3 := f1 k3 l3
        have tk : (C.take (i + 1)).map (gv gl t.w) = (C.take i).map (gv gl t.w) ++ [gl[k3]] := by
          rw [List.take_add_one, List.getElem?_eq_getElem q1, List.map_append]
          simp only [Option.toList_some, List.map_cons, List.map_nil]
          rw [← g3]
        have c2' : cut row2 (o2 + i * 2) 2 = some [.int .i64 C[i].x, .int .i64 C[i].y] := c2
        obtain ⟨v', H', e, gr3, hsep, -⟩ := gr2.app (l2 := [gl[k3]]) (n := 1) (bytes := 8) (xs := [.int .i64 gl[k3]]) rfl rfl (by simp; omega) (by simp; omega)
        have e' : iapp 1 8 (g 11) 1 [.int .i64 gl[k3]] H6 = some (v', H') := e
        have hs := hsep b2 hin2.lt (off b2 o2 _ _ rfl (by omega))
        have sl3 : Sl LCell H' (.slice (some ⟨b2, o2, none⟩) C.length cC) C := sl2.keep fun b o k c hb => by simp at hb; obtain ⟨⟨rfl, -⟩, -⟩ := hb; exact hs.1
        clear hR'
        simp -implicitDefEqProofs (disch := first | omega | (simp only [List.length_append, List.length_cons, List.length_nil, List.length_set] <;> omega) | (repeat' (first | assumption | exact Pre.refl _ | refine Pre.push ?_ rfl | refine Pre.app ?_ (by assumption) | refine Pre.set ?_ ?_ rfl | omega | (simp only [List.length_append, List.length_cons, List.length_nil, List.length_set] <;> omega) | fail)) | fail) only [↓reduceIte, go_sem, Nat.sub_zero, List.length_replicate, Nat.reduceLT, Nat.reduceLeDiff, Nat.reduceEqDiff, Nat.reduceAdd, Nat.reduceMul, reduceCtorEq, Int.reduceToNat, Int.reduceLT, Int.reduceLE, Int.reduceAdd, Int.reduceSub, Int.reduceEq, Int.reduceBEq, Int.reduceBNe, Nat.reduceBEq, Nat.reduceBNe, Int.reduceMul, Int.reduceNeg, hk, e7, i3, eg, r2, c2', r3, ff3, e', tk, l3, hbr]
        refine ⟨by simpa using gr3, sl3, fun b o k c hb _ => ?_⟩
        simp at hb
        obtain ⟨⟨rfl, -⟩, -⟩ := hb
        exact hs.2
      · (try simp only [Bool.not_eq_true', Bool.not_eq_false', Bool.and_eq_true, Bool.and_eq_false_iff, Bool.or_eq_true, Bool.or_eq_false_iff, decide_eq_true_eq, decide_eq_false_iff_not, bne_iff_ne, beq_iff_eq, beq_eq_false_iff_ne, bne_eq_false_iff_eq, ne_eq, Int.not_lt, Int.not_le, Int.ofNat_inj, Bool.not_eq_true, Bool.not_eq_false] at *)
        have hCt : C.take i = C := List.take_of_length_le (by omega)
        rw [hCt] at gr2
        simp -implicitDefEqProofs (disch := first | omega | (simp only [List.length_append, List.length_cons, List.length_nil, List.length_set] <;> omega) | (repeat' (first | assumption | exact Pre.refl _ | refine Pre.push ?_ rfl | refine Pre.app ?_ (by assumption) | refine Pre.set ?_ ?_ rfl | omega | (simp only [List.length_append, List.length_cons, List.length_nil, List.length_set] <;> omega) | fail)) | fail) only [↓reduceIte, go_sem, Nat.sub_zero, List.length_replicate, Nat.reduceLT, Nat.reduceLeDiff, Nat.reduceEqDiff, Nat.reduceAdd, Nat.reduceMul, reduceCtorEq, Int.reduceToNat, Int.reduceLT, Int.reduceLE, Int.reduceAdd, Int.reduceSub, Int.reduceEq, Int.reduceBEq, Int.reduceBNe, Nat.reduceBEq, Nat.reduceBNe, Int.reduceMul, Int.reduceNeg, hk, e7]
        exact hR' _ _ q6 (by unfold profL; rw [hC]; exact gr2.sl)
    · simp -implicitDefEqProofs (disch := first | omega | (simp only [List.length_append, List.length_cons, List.length_nil, List.length_set] <;> omega) | (repeat' (first | assumption | exact Pre.refl _ | refine Pre.push ?_ rfl | refine Pre.app ?_ (by assumption) | refine Pre.set ?_ ?_ rfl | omega | (simp only [List.length_append, List.length_cons, List.length_nil, List.length_set] <;> omega) | fail)) | fail) only [↓reduceIte, go_sem, Nat.sub_zero, List.length_replicate, Nat.reduceLT, Nat.reduceLeDiff, Nat.reduceEqDiff, Nat.reduceAdd, Nat.reduceMul, reduceCtorEq, Int.reduceToNat, Int.reduceLT, Int.reduceLE, Int.reduceAdd, Int.reduceSub, Int.reduceEq, Int.reduceBEq, Int.reduceBNe, Nat.reduceBEq, Nat.reduceBNe, Int.reduceMul, Int.reduceNeg]
      exact ⟨gr, slC2, fun b o k c hb hk => Off.ge (by have := hlow b o k c hb hk; omega)⟩

end Go.Proofs.Ythlhcdldighffaa.Tab
