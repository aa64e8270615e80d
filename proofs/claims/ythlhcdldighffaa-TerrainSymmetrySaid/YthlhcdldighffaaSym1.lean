/- Lines and totals: their plain laws. A lemma for the laws. -/
import Derived.Test.YthlhcdldighffaaTot1
import Derived.Test.YthlhcdldighffaaPro3
namespace Go.Proofs.Ythlhcdldighffaa.Tab
open Go Go.IM Go.RowKit
set_option maxRecDepth 100000
set_option linter.unusedSimpArgs false
set_option linter.unusedVariables false
set_option maxHeartbeats 4000000

variable {hook : CallFn} {R : IEnd → Heap → Prop} {H : Heap}

theorem rnd_rev {f i d n : Int} (hn : 1 ≤ n) : rnd (f + d) (n - i) (-d) n = rnd f i d n := by
  unfold rnd
  have : 2 * (n - i) * -d + n = (2 * i * d + n) + (-d) * (2 * n) := by
    simp only [Int.mul_sub, Int.sub_mul, Int.mul_neg, Int.neg_mul]
    rw [show d * (2 * n) = 2 * n * d by rw [Int.mul_comm]]
    omega
  rw [this, Int.add_mul_ediv_right _ _ (by omega)]
  omega

theorem rnd_zero {f d n : Int} (hn : 1 ≤ n) : rnd f 0 d n = f := by
  unfold rnd
  rw [Int.mul_zero, Int.zero_mul, Int.zero_add, Int.ediv_eq_zero_of_lt (by omega) (by omega), Int.add_zero]

theorem rnd_last {f d n : Int} (hn : 1 ≤ n) : rnd f n d n = f + d := by
  unfold rnd
  rw [show 2 * n * d + n = n + d * (2 * n) by rw [Int.mul_comm d]; omega, Int.add_mul_ediv_right _ _ (by omega), Int.ediv_eq_zero_of_lt (by omega) (by omega), Int.zero_add]

theorem rnd_up {f i n : Int} (hn : 1 ≤ n) : rnd f i n n = f + i := by
  unfold rnd
  rw [show 2 * i * n + n = n + i * (2 * n) by rw [Int.mul_assoc, Int.mul_left_comm]; omega, Int.add_mul_ediv_right _ _ (by omega), Int.ediv_eq_zero_of_lt (by omega) (by omega), Int.zero_add]

theorem rnd_down {f i n : Int} (hn : 1 ≤ n) : rnd f i (-n) n = f - i := by
  unfold rnd
  rw [show 2 * i * -n + n = n + (-i) * (2 * n) by rw [Int.mul_neg, Int.mul_assoc, Int.neg_mul, Int.mul_left_comm]; omega, Int.add_mul_ediv_right _ _ (by omega), Int.ediv_eq_zero_of_lt (by omega) (by omega)]
  omega

theorem rnd_step {f i d n : Int} (hn : 1 ≤ n) (hd : -n ≤ d ∧ d ≤ n) : -1 ≤ rnd f (i + 1) d n - rnd f i d n ∧ rnd f (i + 1) d n - rnd f i d n ≤ 1 := by
  unfold rnd
  have e : 2 * (i + 1) * d + n = (2 * i * d + n) + 2 * d := by rw [Int.mul_add, Int.add_mul]; omega
  rw [e]
  generalize 2 * i * d + n = x
  have h2 : (0 : Int) < 2 * n := by omega
  constructor
  · have : (x - 2 * n) / (2 * n) ≤ (x + 2 * d) / (2 * n) := Int.ediv_le_ediv h2 (by omega)
    rw [show x - 2 * n = x + (-1) * (2 * n) by omega, Int.add_mul_ediv_right _ _ (by omega)] at this
    omega
  · have : (x + 2 * d) / (2 * n) ≤ (x + 2 * n) / (2 * n) := Int.ediv_le_ediv h2 (by omega)
    rw [show x + 2 * n = x + 1 * (2 * n) by omega, Int.add_mul_ediv_right _ _ (by omega)] at this
    omega

/-- The cells of a line, both ends among them. -/
def pcell (ax ay bx byy : Int) (i : Int) : Cell := ⟨rnd ax i (bx - ax) (spanOf (bx - ax) (byy - ay)), rnd ay i (byy - ay) (spanOf (bx - ax) (byy - ay))⟩

section
variable {ax ay bx byy : Int}

theorem span_swap : spanOf (ax - bx) (ay - byy) = spanOf (bx - ax) (byy - ay) := by unfold spanOf; omega

theorem pcell_rev (hn : 1 ≤ spanOf (bx - ax) (byy - ay)) (i : Int) : pcell bx byy ax ay (spanOf (bx - ax) (byy - ay) - i) = pcell ax ay bx byy i := by
  unfold pcell
  rw [span_swap (ax := ax) (ay := ay) (bx := bx) (byy := byy)]
  have h1 := rnd_rev (f := ax) (i := i) (d := bx - ax) hn
  have h2 := rnd_rev (f := ay) (i := i) (d := byy - ay) hn
  rw [show ax + (bx - ax) = bx by omega, show -(bx - ax) = ax - bx by omega] at h1
  rw [show ay + (byy - ay) = byy by omega, show -(byy - ay) = ay - byy by omega] at h2
  rw [h1, h2]

theorem pcell_zero (hn : 1 ≤ spanOf (bx - ax) (byy - ay)) : pcell ax ay bx byy 0 = ⟨ax, ay⟩ := by
  unfold pcell; rw [rnd_zero hn, rnd_zero hn]

theorem pcell_last (hn : 1 ≤ spanOf (bx - ax) (byy - ay)) : pcell ax ay bx byy (spanOf (bx - ax) (byy - ay)) = ⟨bx, byy⟩ := by
  unfold pcell; rw [rnd_last hn, rnd_last hn]; congr 1 <;> omega

theorem pcell_near (hn : 1 ≤ spanOf (bx - ax) (byy - ay)) (i : Int) : spanOf ((pcell ax ay bx byy (i + 1)).x - (pcell ax ay bx byy i).x) ((pcell ax ay bx byy (i + 1)).y - (pcell ax ay bx byy i).y) ≤ 1 := by
  have h1 := rnd_step (f := ax) (i := i) (d := bx - ax) hn (by unfold spanOf; omega)
  have h2 := rnd_step (f := ay) (i := i) (d := byy - ay) hn (by unfold spanOf; omega)
  unfold pcell
  simp only
  generalize spanOf (bx - ax) (byy - ay) = n at *
  unfold spanOf
  omega

/-- The cells of a line differ. -/
theorem pcell_ne (hn : 1 ≤ spanOf (bx - ax) (byy - ay)) {i j : Int} (h : i ≠ j) : pcell ax ay bx byy i ≠ pcell ax ay bx byy j := by
  intro e
  unfold pcell at e
  rw [Cell.mk.injEq] at e
  obtain ⟨e1, e2⟩ := e
  have hc : bx - ax = spanOf (bx - ax) (byy - ay) ∨ bx - ax = -spanOf (bx - ax) (byy - ay) ∨ byy - ay = spanOf (bx - ax) (byy - ay) ∨ byy - ay = -spanOf (bx - ax) (byy - ay) := by unfold spanOf; omega
  generalize spanOf (bx - ax) (byy - ay) = n at *
  rcases hc with h1 | h1 | h1 | h1
  · rw [h1, rnd_up hn, rnd_up hn] at e1; omega
  · rw [h1, rnd_down hn, rnd_down hn] at e1; omega
  · rw [h1, rnd_up hn, rnd_up hn] at e2; omega
  · rw [h1, rnd_down hn, rnd_down hn] at e2; omega

theorem mid_len' : (mid ax ay bx byy).length = (spanOf (bx - ax) (byy - ay) - 1).toNat := by simp [mid, lineOf]
theorem mid_get {i : Nat} (h : i < (mid ax ay bx byy).length) : (mid ax ay bx byy)[i] = pcell ax ay bx byy ((i : Int) + 1) := by
  simp [mid, lineOf, lcell, pcell]

theorem mid_rev {i : Nat} (h : i < (mid ax ay bx byy).length) (h' : (mid ax ay bx byy).length - 1 - i < (mid bx byy ax ay).length) : (mid bx byy ax ay)[(mid ax ay bx byy).length - 1 - i] = (mid ax ay bx byy)[i] := by
  rw [mid_get, mid_get]
  have hl := mid_len' (ax := ax) (ay := ay) (bx := bx) (byy := byy)
  rw [← pcell_rev (ax := ax) (ay := ay) (bx := bx) (byy := byy) (by omega) ((i : Int) + 1)]
  congr 1
  omega
end

/-! Totals of rising lists -/

def gsum (pl l : List Int) : Int := (l.map fun x => pl.getD x.toNat 0).sum

theorem gsum_snoc (pl l : List Int) (x : Int) : gsum pl (l ++ [x]) = gsum pl l + pl.getD x.toNat 0 := by simp [gsum, List.sum_append]

theorem gsum_cons (pl l : List Int) (x : Int) : gsum pl (x :: l) = pl.getD x.toNat 0 + gsum pl l := by simp [gsum]

theorem tsum_rising {pl l : List Int} (h : l.Pairwise (· < ·)) : ∀ i, i ≤ l.length → tsum pl l i = gsum pl (l.take i)
  | 0, _ => by simp [tsum, gsum]
  | i + 1, hi => by
    rw [tsum_succ hi, tsum_rising h i (by omega), List.take_add_one, List.getElem?_eq_getElem hi, Option.toList_some, gsum_snoc, if_neg]
    intro hm
    obtain ⟨j, hj, e⟩ := List.mem_iff_getElem.1 hm
    rw [List.getElem_take] at e
    rw [List.length_take] at hj
    have := List.pairwise_iff_getElem.1 h j i (by omega) hi (by omega)
    omega

theorem gsum_split (pl : List Int) (p : Int → Bool) : ∀ l : List Int, gsum pl l = gsum pl (l.filter p) + gsum pl (l.filter fun x => !p x) ∧ l.length = (l.filter p).length + (l.filter fun x => !p x).length
  | [] => ⟨rfl, rfl⟩
  | x :: l => by
    obtain ⟨h1, h2⟩ := gsum_split pl p l
    cases hp : p x <;> simp only [List.filter_cons, hp, if_true, if_false, Bool.not_true, Bool.not_false, Bool.false_eq_true, gsum_cons, List.length_cons] <;> omega

theorem rect_split {w h ax ay bx byy c : Int} {r s u pl : List Int} (ha : 0 ≤ ax ∧ ax < w) (hb : 0 ≤ bx ∧ bx < w) (hay : 0 ≤ ay ∧ ay < h) (hby : 0 ≤ byy ∧ byy < h)
    (hc : min ax bx ≤ c ∧ c < max ax bx) (hr : RectL w ax ay bx byy r) (hs : RectL w (min ax bx) ay c byy s) (hu : RectL w (c + 1) ay (max ax bx) byy u) :
    gsum pl r = gsum pl s + gsum pl u ∧ r.length = s.length + u.length := by
  have k1 : r.filter (fun x => decide (x % w ≤ c)) = s := by
    refine rising_ext (hr.up.filter _) hs.up fun x => ?_
    rw [List.mem_filter, hr.mem, hs.mem, inrect_iff ha hb hay hby, inrect_iff (by omega) (by omega) hay hby]
    simp only [decide_eq_true_eq, Btw]
    omega
  have k2 : r.filter (fun x => !decide (x % w ≤ c)) = u := by
    refine rising_ext (hr.up.filter _) hu.up fun x => ?_
    rw [List.mem_filter, hr.mem, hu.mem, inrect_iff ha hb hay hby, inrect_iff (by omega) (by omega) hay hby]
    simp only [Bool.not_eq_true', decide_eq_false_iff_not, Btw]
    omega
  have := gsum_split pl (fun x => decide (x % w ≤ c)) r
  rw [k1, k2] at this
  exact this

end Go.Proofs.Ythlhcdldighffaa.Tab
