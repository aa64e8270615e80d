/- Flat terrains: the product of one and a small number. A lemma for the laws. -/
import Derived.Test.YthlhcdldighffaaTq1
namespace Go.Proofs.Ythlhcdldighffaa.Tab
open Go Go.IM Go.RowKit
set_option maxRecDepth 100000
set_option linter.unusedSimpArgs false
set_option linter.unusedVariables false
set_option maxHeartbeats 4000000

variable {hook : CallFn} {R : IEnd → Heap → Prop} {H : Heap}

theorem and_small {n : Nat} (hn : n ≤ 4096) : ibits .u64 .and (n : Int) 4294967295 = some (.int .u64 n) := by
  have h1 : (BitVec.ofInt 64 (n : Int) &&& BitVec.ofInt 64 4294967295).toNat = n := by
    rw [BitVec.toNat_and, BitVec.ofInt_natCast, BitVec.toNat_ofNat, Nat.mod_eq_of_lt (by omega)]
    have : (BitVec.ofInt 64 4294967295).toNat = 2 ^ 32 - 1 := by decide
    rw [this, Nat.and_two_pow_sub_one_eq_mod, Nat.mod_eq_of_lt (by omega)]
  show some (Value.int .u64 (IntKind.u64.wrap (((BitVec.ofInt 64 (n : Int) &&& BitVec.ofInt 64 4294967295).toNat : Nat) : Int))) = _
  rw [h1]
  unfold IntKind.wrap
  simp only [IntKind.signed, IntKind.bits, Bool.false_and, Bool.false_eq_true, if_false]
  congr 2
  omega

theorem shr_small {n : Nat} (hn : n ≤ 4096) : (n : Int).fdiv (2 ^ min 32 64) = 0 := by
  have : (2 : Int) ^ min 32 64 = 4294967296 := by decide
  rw [this, Int.fdiv_eq_ediv_of_nonneg _ (by decide)]
  omega

theorem mul64_is {n : Nat} (hn : n ≤ 4096) (R : IEnd → Heap → Prop) :
    WF tab hook 57 [.int .u64 1, .int .u64 n] H R = R (.ret (.tuple #[.int .u64 0, .int .u64 n])) H := by
  refine WF_eq (WF_def (tab := tab) (F := 57) rfl rfl ?_) R
  have a1 : ibits .u64 .and 1 4294967295 = some (.int .u64 1) := and_small (n := 1) (by decide)
  have a0 : ibits .u64 .and 0 4294967295 = some (.int .u64 0) := and_small (n := 0) (by decide)
  have an := and_small hn
  have s1 : (1 : Int).fdiv (2 ^ min 32 64) = 0 := shr_small (n := 1) (by decide)
  have s0 : (0 : Int).fdiv (2 ^ min 32 64) = 0 := shr_small (n := 0) (by decide)
  have sn := shr_small hn
  have w : IntKind.u64.wrap (n : Int) = n := by unfold IntKind.wrap; simp only [IntKind.signed, IntKind.bits]; simp; omega
  have w0 : IntKind.u64.wrap 0 = 0 := by decide
  simp -implicitDefEqProofs (disch := first | omega | (simp only [List.length_append, List.length_cons, List.length_nil, List.length_set] <;> omega) | (repeat' (first | assumption | exact Pre.refl _ | refine Pre.push ?_ rfl | refine Pre.app ?_ (by assumption) | refine Pre.set ?_ ?_ rfl | omega | (simp only [List.length_append, List.length_cons, List.length_nil, List.length_set] <;> omega) | fail)) | fail) only [↓reduceIte, go_sem, Nat.sub_zero, List.length_replicate, Nat.reduceLT, Nat.reduceLeDiff, Nat.reduceEqDiff, Nat.reduceAdd, Nat.reduceMul, reduceCtorEq, Int.reduceToNat, Int.reduceLT, Int.reduceLE, Int.reduceAdd, Int.reduceSub, Int.reduceEq, Int.reduceBEq, Int.reduceBNe, Nat.reduceBEq, Nat.reduceBNe, Int.reduceMul, Int.reduceNeg, *, IntKind.bits, Int.one_mul, Int.zero_mul, Int.mul_zero, Int.zero_add, Int.add_zero]

theorem mul_is {n : Nat} (hn : n ≤ 4096) (R : IEnd → Heap → Prop) :
    WF tab hook 53 [.int .u64 1, .int .u64 n] H R = R (.ret (.tuple #[.int .u64 0, .int .u64 n])) H := by
  refine WF_eq (WF_def (tab := tab) (F := 53) rfl rfl ?_) R
  simp -implicitDefEqProofs (disch := first | omega | (simp only [List.length_append, List.length_cons, List.length_nil, List.length_set] <;> omega) | (repeat' (first | assumption | exact Pre.refl _ | refine Pre.push ?_ rfl | refine Pre.app ?_ (by assumption) | refine Pre.set ?_ ?_ rfl | omega | (simp only [List.length_append, List.length_cons, List.length_nil, List.length_set] <;> omega) | fail)) | fail) only [↓reduceIte, go_sem, Nat.sub_zero, List.length_replicate, Nat.reduceLT, Nat.reduceLeDiff, Nat.reduceEqDiff, Nat.reduceAdd, Nat.reduceMul, reduceCtorEq, Int.reduceToNat, Int.reduceLT, Int.reduceLE, Int.reduceAdd, Int.reduceSub, Int.reduceEq, Int.reduceBEq, Int.reduceBNe, Nat.reduceBEq, Nat.reduceBNe, Int.reduceMul, Int.reduceNeg, *, mul64_is]

end Go.Proofs.Ythlhcdldighffaa.Tab
