/- Lines: absolute values, rounding, the span of two cells. A lemma for the laws. -/
import Derived.Test.YthlhcdldighffaaTq2
namespace Go.Proofs.Ythlhcdldighffaa.Tab
open Go Go.IM Go.RowKit
set_option maxRecDepth 100000
set_option linter.unusedSimpArgs false
set_option linter.unusedVariables false
set_option maxHeartbeats 4000000

variable {hook : CallFn} {R : IEnd → Heap → Prop} {H : Heap}

/-- A coordinate on a line. -/
def rnd (f i d n : Int) : Int := f + (2 * i * d + n) / (2 * n)

theorem rnd_bound {i d n : Int} (hn : 1 ≤ n ∧ n ≤ 63) (hi : 0 ≤ i ∧ i ≤ n) (hd : -n ≤ d ∧ d ≤ n) : -7938 ≤ 2 * i * d ∧ 2 * i * d ≤ 7938 ∧ 0 ≤ 2 * n * n ∧ 2 * n * n ≤ 7938 ∧ 0 ≤ 2 * i * d + 2 * n * n := by
  have a : i * d ≤ n * n := by
    by_cases h : 0 ≤ d
    · exact Int.mul_le_mul hi.2 hd.2 h (by omega)
    · have : i * d ≤ 0 := Int.mul_nonpos_of_nonneg_of_nonpos hi.1 (by omega)
      have := Int.mul_nonneg (show 0 ≤ n by omega) (show 0 ≤ n by omega)
      omega
  have b : -(n * n) ≤ i * d := by
    by_cases h : 0 ≤ d
    · have := Int.mul_nonneg hi.1 h
      have := Int.mul_nonneg (show 0 ≤ n by omega) (show 0 ≤ n by omega)
      omega
    · have : i * -d ≤ n * n := Int.mul_le_mul hi.2 (by omega) (by omega) (by omega)
      rw [Int.mul_neg] at this
      omega
  have c : n * n ≤ 63 * 63 := Int.mul_le_mul hn.2 hn.2 (by omega) (by decide)
  have e : 0 ≤ n * n := Int.mul_nonneg (by omega) (by omega)
  have f : 2 * i * d = 2 * (i * d) := Int.mul_assoc ..
  have g : 2 * n * n = 2 * (n * n) := Int.mul_assoc ..
  omega

theorem round_is {f i d n : Int} (hf : 0 ≤ f ∧ f ≤ 63) (hn : 1 ≤ n ∧ n ≤ 63) (hi : 0 ≤ i ∧ i ≤ n) (hd : -n ≤ d ∧ d ≤ n) (R : IEnd → Heap → Prop) :
    WF tab hook 46 [.int .i64 f, .int .i64 i, .int .i64 d, .int .i64 n] H R = R (.ret (.int .i64 (rnd f i d n))) H := by
  refine WF_eq (WF_def (tab := tab) (F := 46) rfl rfl ?_) R
  have hb := rnd_bound hn hi hd
  have h3 : ¬ 2 * n = 0 := by omega
  have h1 : (2 * i * d + n + 2 * n * n).tdiv (2 * n) = (2 * i * d + n) / (2 * n) + n := by
    rw [Int.tdiv_eq_ediv_of_nonneg (by omega), show 2 * i * d + n + 2 * n * n = 2 * i * d + n + n * (2 * n) by rw [Int.mul_comm n (2 * n)], Int.add_mul_ediv_right _ _ h3]
  have h4 : -7938 ≤ (2 * i * d + n) / (2 * n) ∧ (2 * i * d + n) / (2 * n) ≤ 8001 := by
    constructor
    · have := Int.le_ediv_of_mul_le (a := -7938) (b := 2 * i * d + n) (c := 2 * n) (by omega) (by have := Int.mul_le_mul_of_nonneg_left (show (1:Int) ≤ 2 * n by omega) (show (0:Int) ≤ 7938 by decide); omega)
      exact this
    · have := Int.ediv_le_of_le_mul (a := 2 * i * d + n) (b := 8001) (c := 2 * n) (by omega) (by omega)
      exact this
  have h5 : f + ((2 * i * d + n) / (2 * n) + n) - n = rnd f i d n := by unfold rnd; omega
  simp -implicitDefEqProofs (disch := first | omega | (simp only [List.length_append, List.length_cons, List.length_nil, List.length_set] <;> omega) | (repeat' (first | assumption | exact Pre.refl _ | refine Pre.push ?_ rfl | refine Pre.app ?_ (by assumption) | refine Pre.set ?_ ?_ rfl | omega | (simp only [List.length_append, List.length_cons, List.length_nil, List.length_set] <;> omega) | fail)) | fail) only [↓reduceIte, go_sem, Nat.sub_zero, List.length_replicate, Nat.reduceLT, Nat.reduceLeDiff, Nat.reduceEqDiff, Nat.reduceAdd, Nat.reduceMul, reduceCtorEq, Int.reduceToNat, Int.reduceLT, Int.reduceLE, Int.reduceAdd, Int.reduceSub, Int.reduceEq, Int.reduceBEq, Int.reduceBNe, Nat.reduceBEq, Nat.reduceBNe, Int.reduceMul, Int.reduceNeg, *]

theorem floor_is {a n : Int} (hn : 1 ≤ n ∧ n ≤ 1000) (ha : -100000 ≤ a ∧ a ≤ 100000) (R : IEnd → Heap → Prop) :
    WF tab hook 48 [.int .i64 a, .int .i64 n] H R = R (.ret (.int .i64 (a / n))) H := by
  refine WF_eq (WF_def (tab := tab) (F := 48) rfl rfl ?_) R
  have h3 : ¬ n = 0 := by omega
  have h4 : -100000 ≤ a / n := Int.le_ediv_of_mul_le (by omega) (by omega)
  have h5 : a / n ≤ 100000 := Int.ediv_le_of_le_mul (by omega) (by omega)
  have h6 := Int.emod_nonneg a h3
  have h7 := Int.emod_lt_of_pos a (show 0 < n by omega)
  by_cases h : 0 ≤ a ∨ n ∣ a
  · have h1 : a.tdiv n = a / n := by rw [Int.tdiv_eq_ediv, if_pos h, Int.add_zero]
    have h2 : ¬ a.tmod n < 0 := by rw [Int.tmod_eq_emod, if_pos h]; omega
    simp -implicitDefEqProofs (disch := first | omega | (simp only [List.length_append, List.length_cons, List.length_nil, List.length_set] <;> omega) | (repeat' (first | assumption | exact Pre.refl _ | refine Pre.push ?_ rfl | refine Pre.app ?_ (by assumption) | refine Pre.set ?_ ?_ rfl | omega | (simp only [List.length_append, List.length_cons, List.length_nil, List.length_set] <;> omega) | fail)) | fail) only [↓reduceIte, go_sem, Nat.sub_zero, List.length_replicate, Nat.reduceLT, Nat.reduceLeDiff, Nat.reduceEqDiff, Nat.reduceAdd, Nat.reduceMul, reduceCtorEq, Int.reduceToNat, Int.reduceLT, Int.reduceLE, Int.reduceAdd, Int.reduceSub, Int.reduceEq, Int.reduceBEq, Int.reduceBNe, Nat.reduceBEq, Nat.reduceBNe, Int.reduceMul, Int.reduceNeg, *]
  · have h1 : a.tdiv n = a / n + 1 := by rw [Int.tdiv_eq_ediv, if_neg h, Int.sign_eq_one_of_pos (by omega)]
    have h2 : a.tmod n < 0 := by rw [Int.tmod_eq_emod, if_neg h]; omega
    have h8 : a / n + 1 - 1 = a / n := by omega
    simp -implicitDefEqProofs (disch := first | omega | (simp only [List.length_append, List.length_cons, List.length_nil, List.length_set] <;> omega) | (repeat' (first | assumption | exact Pre.refl _ | refine Pre.push ?_ rfl | refine Pre.app ?_ (by assumption) | refine Pre.set ?_ ?_ rfl | omega | (simp only [List.length_append, List.length_cons, List.length_nil, List.length_set] <;> omega) | fail)) | fail) only [↓reduceIte, go_sem, Nat.sub_zero, List.length_replicate, Nat.reduceLT, Nat.reduceLeDiff, Nat.reduceEqDiff, Nat.reduceAdd, Nat.reduceMul, reduceCtorEq, Int.reduceToNat, Int.reduceLT, Int.reduceLE, Int.reduceAdd, Int.reduceSub, Int.reduceEq, Int.reduceBEq, Int.reduceBNe, Nat.reduceBEq, Nat.reduceBNe, Int.reduceMul, Int.reduceNeg, *]

theorem abs_is {n : Int} (hn : -1000 ≤ n ∧ n ≤ 1000) (R : IEnd → Heap → Prop) :
    WF tab hook 45 [.int .i64 n] H R = R (.ret (.int .i64 (max n (-n)))) H := by
  refine WF_eq (WF_def (tab := tab) (F := 45) rfl rfl ?_) R
  have h : (if n < 0 - n then 0 - n else n) = max n (-n) := by split <;> omega
  simp -implicitDefEqProofs (disch := first | omega | (simp only [List.length_append, List.length_cons, List.length_nil, List.length_set] <;> omega) | (repeat' (first | assumption | exact Pre.refl _ | refine Pre.push ?_ rfl | refine Pre.app ?_ (by assumption) | refine Pre.set ?_ ?_ rfl | omega | (simp only [List.length_append, List.length_cons, List.length_nil, List.length_set] <;> omega) | fail)) | fail) only [↓reduceIte, go_sem, Nat.sub_zero, List.length_replicate, Nat.reduceLT, Nat.reduceLeDiff, Nat.reduceEqDiff, Nat.reduceAdd, Nat.reduceMul, reduceCtorEq, Int.reduceToNat, Int.reduceLT, Int.reduceLE, Int.reduceAdd, Int.reduceSub, Int.reduceEq, Int.reduceBEq, Int.reduceBNe, Nat.reduceBEq, Nat.reduceBNe, Int.reduceMul, Int.reduceNeg, *]

/-- The span of two cells by their distances. -/
def spanOf (dx dy : Int) : Int := max (max dx (-dx)) (max dy (-dy))

def gr (s v : Int) : Int := if s < v then v else s

theorem span_fold (a b c d : Int) : [c - a, a - c, d - b, b - d].foldl gr 0 = spanOf (c - a) (d - b) := by
  unfold spanOf gr
  simp only [List.foldl_cons, List.foldl_nil]
  repeat' split
  all_goals omega

theorem span_is {a b c d : Int} (ha : 0 ≤ a ∧ a ≤ 63) (hb : 0 ≤ b ∧ b ≤ 63) (hc : 0 ≤ c ∧ c ≤ 63) (hd : 0 ≤ d ∧ d ≤ 63) (hR : ∀ H', Pre H H' → R (.ret (.int .i64 (spanOf (c - a) (d - b)))) H') :
    WF tab hook 47 [.agg #[.int .i64 a, .int .i64 b], .agg #[.int .i64 c, .int .i64 d]] H R := by
  refine WF_def (tab := tab) (F := 47) rfl rfl ?_
  simp -implicitDefEqProofs (disch := first | omega | (simp only [List.length_append, List.length_cons, List.length_nil, List.length_set] <;> omega) | (repeat' (first | assumption | exact Pre.refl _ | refine Pre.push ?_ rfl | refine Pre.app ?_ (by assumption) | refine Pre.set ?_ ?_ rfl | omega | (simp only [List.length_append, List.length_cons, List.length_nil, List.length_set] <;> omega) | fail)) | fail) only [↓reduceIte, go_sem, Nat.sub_zero, List.length_replicate, Nat.reduceLT, Nat.reduceLeDiff, Nat.reduceEqDiff, Nat.reduceAdd, Nat.reduceMul, reduceCtorEq, Int.reduceToNat, Int.reduceLT, Int.reduceLE, Int.reduceAdd, Int.reduceSub, Int.reduceEq, Int.reduceBEq, Int.reduceBNe, Nat.reduceBEq, Nat.reduceBNe, Int.reduceMul, Int.reduceNeg]
  have rG : (H ++ [IObj.cells [.int .i64 (c - a), .int .i64 (a - c), .int .i64 (d - b), .int .i64 (b - d)] false 0]).row H.length = some ([c - a, a - c, d - b, b - d].flatMap (Lay.int .i64).c) := row_new
  have pG : Pre H (H ++ [IObj.cells [.int .i64 (c - a), .int .i64 (a - c), .int .i64 (d - b), .int .i64 (b - d)] false 0]) := by (repeat' (first | assumption | exact Pre.refl _ | refine Pre.push ?_ rfl | refine Pre.app ?_ (by assumption) | refine Pre.set ?_ ?_ rfl | omega | (simp only [List.length_append, List.length_cons, List.length_nil, List.length_set] <;> omega) | fail))
  generalize H ++ [IObj.cells [.int .i64 (c - a), .int .i64 (a - c), .int .i64 (d - b), .int .i64 (b - d)] false 0] = G at *
  have hR' := hR G pG
  rw [← span_fold] at hR'
  have X := SlIn.of (L := Lay.int .i64) (l := [c - a, a - c, d - b, b - d]) rG (pre := []) (post := []) (by simp) rfl
  have f1 := X.int
  simp only [List.length_nil, Nat.zero_add] at f1
  have hl : [c - a, a - c, d - b, b - d].length = 4 := rfl
  generalize [c - a, a - c, d - b, b - d] = L at *
  clear X hR pG
  refine wp_for [4, 5, 43] 4 (fun i g H' => g 7 = .int .i64 (i : Int) ∧ H' = G ∧ g 6 = .int .i64 ((L.take i).foldl gr 0)) ?_ 0 _ (by omega) ?_
  · rintro i g H2 hi hk ⟨e7, rfl, e6⟩
    simp -implicitDefEqProofs (disch := first | omega | (simp only [List.length_append, List.length_cons, List.length_nil, List.length_set] <;> omega) | (repeat' (first | assumption | exact Pre.refl _ | refine Pre.push ?_ rfl | refine Pre.app ?_ (by assumption) | refine Pre.set ?_ ?_ rfl | omega | (simp only [List.length_append, List.length_cons, List.length_nil, List.length_set] <;> omega) | fail)) | fail) only [↓reduceIte, go_sem, Nat.sub_zero, List.length_replicate, Nat.reduceLT, Nat.reduceLeDiff, Nat.reduceEqDiff, Nat.reduceAdd, Nat.reduceMul, reduceCtorEq, Int.reduceToNat, Int.reduceLT, Int.reduceLE, Int.reduceAdd, Int.reduceSub, Int.reduceEq, Int.reduceBEq, Int.reduceBNe, Nat.reduceBEq, Nat.reduceBNe, Int.reduceMul, Int.reduceNeg] at hk
    simp -implicitDefEqProofs (disch := first | omega | (simp only [List.length_append, List.length_cons, List.length_nil, List.length_set] <;> omega) | (repeat' (first | assumption | exact Pre.refl _ | refine Pre.push ?_ rfl | refine Pre.app ?_ (by assumption) | refine Pre.set ?_ ?_ rfl | omega | (simp only [List.length_append, List.length_cons, List.length_nil, List.length_set] <;> omega) | fail)) | fail) only [↓reduceIte, go_sem, Nat.sub_zero, List.length_replicate, Nat.reduceLT, Nat.reduceLeDiff, Nat.reduceEqDiff, Nat.reduceAdd, Nat.reduceMul, reduceCtorEq, Int.reduceToNat, Int.reduceLT, Int.reduceLE, Int.reduceAdd, Int.reduceSub, Int.reduceEq, Int.reduceBEq, Int.reduceBNe, Nat.reduceBEq, Nat.reduceBNe, Int.reduceMul, Int.reduceNeg, *]
    ((first | refine wguard_split (fun hbr => ?_) (fun hbr => ?_) | refine wcond_split (fun hbr => ?_) (fun hbr => ?_) | refine wguard0_split (fun hbr => ?_) (fun hbr => ?_)) <;> (have hq := hbr; (try simp only [Bool.not_eq_true', Bool.not_eq_false', Bool.and_eq_true, Bool.and_eq_false_iff, Bool.or_eq_true, Bool.or_eq_false_iff, decide_eq_true_eq, decide_eq_false_iff_not, bne_iff_ne, beq_iff_eq, beq_eq_false_iff_ne, bne_eq_false_iff_eq, ne_eq, Int.not_lt, Int.not_le, Int.ofNat_inj, Bool.not_eq_true, Bool.not_eq_false] at hq)))
    · (try simp only [Bool.not_eq_true', Bool.not_eq_false', Bool.and_eq_true, Bool.and_eq_false_iff, Bool.or_eq_true, Bool.or_eq_false_iff, decide_eq_true_eq, decide_eq_false_iff_not, bne_iff_ne, beq_iff_eq, beq_eq_false_iff_ne, bne_eq_false_iff_eq, ne_eq, Int.not_lt, Int.not_le, Int.ofNat_inj, Bool.not_eq_true, Bool.not_eq_false] at *)
      have q0 : i < L.length := by omega
      have f2 := f1 i q0
      have ef : (L.take (i + 1)).foldl gr 0 = gr ((L.take i).foldl gr 0) L[i] := by
        rw [List.take_add_one, List.getElem?_eq_getElem q0, List.foldl_append]; rfl
      unfold gr at ef
      rw [show (fun s v => if s < v then v else s) = gr from rfl] at ef
      clear f1
      simp -implicitDefEqProofs (disch := first | omega | (simp only [List.length_append, List.length_cons, List.length_nil, List.length_set] <;> omega) | (repeat' (first | assumption | exact Pre.refl _ | refine Pre.push ?_ rfl | refine Pre.app ?_ (by assumption) | refine Pre.set ?_ ?_ rfl | omega | (simp only [List.length_append, List.length_cons, List.length_nil, List.length_set] <;> omega) | fail)) | fail) only [↓reduceIte, go_sem, Nat.sub_zero, List.length_replicate, Nat.reduceLT, Nat.reduceLeDiff, Nat.reduceEqDiff, Nat.reduceAdd, Nat.reduceMul, reduceCtorEq, Int.reduceToNat, Int.reduceLT, Int.reduceLE, Int.reduceAdd, Int.reduceSub, Int.reduceEq, Int.reduceBEq, Int.reduceBNe, Nat.reduceBEq, Nat.reduceBNe, Int.reduceMul, Int.reduceNeg, *]
      ((first | refine wguard_split (fun hbr => ?_) (fun hbr => ?_) | refine wcond_split (fun hbr => ?_) (fun hbr => ?_) | refine wguard0_split (fun hbr => ?_) (fun hbr => ?_)) <;> (have hq := hbr; (try simp only [Bool.not_eq_true', Bool.not_eq_false', Bool.and_eq_true, Bool.and_eq_false_iff, Bool.or_eq_true, Bool.or_eq_false_iff, decide_eq_true_eq, decide_eq_false_iff_not, bne_iff_ne, beq_iff_eq, beq_eq_false_iff_ne, bne_eq_false_iff_eq, ne_eq, Int.not_lt, Int.not_le, Int.ofNat_inj, Bool.not_eq_true, Bool.not_eq_false] at hq)))
      · simp -implicitDefEqProofs (disch := first | omega | (simp only [List.length_append, List.length_cons, List.length_nil, List.length_set] <;> omega) | (repeat' (first | assumption | exact Pre.refl _ | refine Pre.push ?_ rfl | refine Pre.app ?_ (by assumption) | refine Pre.set ?_ ?_ rfl | omega | (simp only [List.length_append, List.length_cons, List.length_nil, List.length_set] <;> omega) | fail)) | fail) only [↓reduceIte, go_sem, Nat.sub_zero, List.length_replicate, Nat.reduceLT, Nat.reduceLeDiff, Nat.reduceEqDiff, Nat.reduceAdd, Nat.reduceMul, reduceCtorEq, Int.reduceToNat, Int.reduceLT, Int.reduceLE, Int.reduceAdd, Int.reduceSub, Int.reduceEq, Int.reduceBEq, Int.reduceBNe, Nat.reduceBEq, Nat.reduceBNe, Int.reduceMul, Int.reduceNeg, *]
        omega
      · simp -implicitDefEqProofs (disch := first | omega | (simp only [List.length_append, List.length_cons, List.length_nil, List.length_set] <;> omega) | (repeat' (first | assumption | exact Pre.refl _ | refine Pre.push ?_ rfl | refine Pre.app ?_ (by assumption) | refine Pre.set ?_ ?_ rfl | omega | (simp only [List.length_append, List.length_cons, List.length_nil, List.length_set] <;> omega) | fail)) | fail) only [↓reduceIte, go_sem, Nat.sub_zero, List.length_replicate, Nat.reduceLT, Nat.reduceLeDiff, Nat.reduceEqDiff, Nat.reduceAdd, Nat.reduceMul, reduceCtorEq, Int.reduceToNat, Int.reduceLT, Int.reduceLE, Int.reduceAdd, Int.reduceSub, Int.reduceEq, Int.reduceBEq, Int.reduceBNe, Nat.reduceBEq, Nat.reduceBNe, Int.reduceMul, Int.reduceNeg, *]
        exact ⟨by omega, by rw [if_neg (by omega)]⟩
    · (try simp only [Bool.not_eq_true', Bool.not_eq_false', Bool.and_eq_true, Bool.and_eq_false_iff, Bool.or_eq_true, Bool.or_eq_false_iff, decide_eq_true_eq, decide_eq_false_iff_not, bne_iff_ne, beq_iff_eq, beq_eq_false_iff_ne, bne_eq_false_iff_eq, ne_eq, Int.not_lt, Int.not_le, Int.ofNat_inj, Bool.not_eq_true, Bool.not_eq_false] at *)
      have : L.take i = L := List.take_of_length_le (by omega)
      rw [this] at e6
      simp -implicitDefEqProofs (disch := first | omega | (simp only [List.length_append, List.length_cons, List.length_nil, List.length_set] <;> omega) | (repeat' (first | assumption | exact Pre.refl _ | refine Pre.push ?_ rfl | refine Pre.app ?_ (by assumption) | refine Pre.set ?_ ?_ rfl | omega | (simp only [List.length_append, List.length_cons, List.length_nil, List.length_set] <;> omega) | fail)) | fail) only [↓reduceIte, go_sem, Nat.sub_zero, List.length_replicate, Nat.reduceLT, Nat.reduceLeDiff, Nat.reduceEqDiff, Nat.reduceAdd, Nat.reduceMul, reduceCtorEq, Int.reduceToNat, Int.reduceLT, Int.reduceLE, Int.reduceAdd, Int.reduceSub, Int.reduceEq, Int.reduceBEq, Int.reduceBNe, Nat.reduceBEq, Nat.reduceBNe, Int.reduceMul, Int.reduceNeg, *]
  · simp -implicitDefEqProofs (disch := first | omega | (simp only [List.length_append, List.length_cons, List.length_nil, List.length_set] <;> omega) | (repeat' (first | assumption | exact Pre.refl _ | refine Pre.push ?_ rfl | refine Pre.app ?_ (by assumption) | refine Pre.set ?_ ?_ rfl | omega | (simp only [List.length_append, List.length_cons, List.length_nil, List.length_set] <;> omega) | fail)) | fail) only [↓reduceIte, go_sem, Nat.sub_zero, List.length_replicate, Nat.reduceLT, Nat.reduceLeDiff, Nat.reduceEqDiff, Nat.reduceAdd, Nat.reduceMul, reduceCtorEq, Int.reduceToNat, Int.reduceLT, Int.reduceLE, Int.reduceAdd, Int.reduceSub, Int.reduceEq, Int.reduceBEq, Int.reduceBNe, Nat.reduceBEq, Nat.reduceBNe, Int.reduceMul, Int.reduceNeg, *]

end Go.Proofs.Ythlhcdldighffaa.Tab
