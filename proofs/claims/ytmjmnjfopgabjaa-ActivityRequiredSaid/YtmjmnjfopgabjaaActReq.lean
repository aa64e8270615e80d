/- The law ActivityRequired: what its instructions answer, for all whole numbers. -/
import Derived.Test.YtmjmnjfopgabjaaTabA
namespace Go.Proofs.Ytmjmnjfopgabjaa.TabA
open Go Go.IM Go.RowKit
set_option maxRecDepth 100000
set_option linter.unusedSimpArgs false
set_option linter.unusedVariables false

def hook : CallFn := closedHook 8 (.bool true)

def isTrue : Option (IEnd × Heap) → Bool
  | some (.ret (.bool b), _) => b
  | _ => false

theorem isTrue_some {x : Option (IEnd × Heap)} (h : isTrue x = true) : ∃ H, x = some (.ret (.bool true), H) := by
  unfold isTrue at h
  split at h
  · subst h; exact ⟨_, rfl⟩
  · cases h

/-- The examples of the chapter hold. -/
theorem known : isTrue (evalF full noHook 300 8 [] []) = true := by kernel_rfl

theorem hook_sound (base : Nat) : SoundCall Try.prog base 0 hook := by
  obtain ⟨H, h⟩ := isTrue_some known
  exact closed_sound fullOk mixed rfl h

def goodB (e w p : Int) : Bool := decide (e ≥ 0) && decide (e ≤ 76800000) && decide (w ≥ 0) && decide (w ≤ 3) && decide (p ≥ 1) && decide (p ≤ 100)

set_option maxHeartbeats 4000000

theorem good (n : Nat) (e w p : Int) (H : Heap) : evalF tab hook (n + 8) 14 [.int .i64 e, .int .i64 w, .int .i64 p] H = some (.ret (.bool (goodB e w p)), H) := by
  unfold goodB
  by_cases h1 : e ≥ 0 <;> by_cases h2 : e ≤ 76800000 <;> by_cases h3 : w ≥ 0 <;> by_cases h4 : w ≤ 3 <;> by_cases h5 : p ≥ 1 <;> by_cases h6 : p ≤ 100 <;>
  simp [h1, h2, h3, h4, h5, h6, evalF, tab, ic14, evalC, evalOps, wants, iop, ev, put, ibin, icmp, bv, resAll, res1, one, undef]

theorem goodR (n : Nat) (e w p : Int) (H : Heap) : evalF tab hook (n + 8) 15 [.int .i64 e, .int .i64 w, .int .i64 p] H = some (.ret (.bool (goodB e w p)), H) := by
  unfold goodB
  by_cases h1 : e ≥ 0 <;> by_cases h2 : e ≤ 76800000 <;> by_cases h3 : w ≥ 0 <;> by_cases h4 : w ≤ 3 <;> by_cases h5 : p ≥ 1 <;> by_cases h6 : p ≤ 100 <;>
  simp [h1, h2, h3, h4, h5, h6, evalF, tab, ic15, evalC, evalOps, wants, iop, ev, put, ibin, icmp, bv, resAll, res1, one, undef]

def reqV (e p : Int) : Value := if goodB e 0 p then .tuple #[.int .i64 (IntKind.i64.wrap (Int.tdiv (IntKind.i64.wrap (IntKind.i64.wrap (e * p) + 99)) 100)), .int .i64 0] else .tuple #[.int .i64 0, .int .i64 2]

theorem req (n : Nat) (e p : Int) (H : Heap) : evalF tab hook (n + 12) 6 [.int .i64 e, .int .i64 p] H = some (.ret (reqV e p), H) := by
  unfold reqV
  rw [evalF]
  cases hg : goodB e 0 p <;> simp [good, hg, tab, ic6, evalC, evalOps, wants, iop, ev, put, ibin, iuna, icmp, bv, resAll, res1, one, undef]

theorem reqR (n : Nat) (e p : Int) (H : Heap) : evalF tab hook (n + 12) 7 [.int .i64 e, .int .i64 p] H = some (.ret (reqV e p), H) := by
  unfold reqV
  rw [evalF]
  cases hg : goodB e 0 p <;> simp [goodR, hg, tab, ic7, evalC, evalOps, wants, iop, ev, put, ibin, iuna, icmp, bv, resAll, res1, one, undef]

theorem kn8 (n : Nat) (H : Heap) : evalF tab hook (n + 1) 8 [] H = some (.ret (.bool true), H) := by
  simp [evalF, tab, hook, closedHook]

theorem law (n : Nat) (e p : Int) (H : Heap) : evalF tab hook (n + 20) 3 [.int .i64 e, .int .i64 p] H = some (.ret (.bool true), H) := by
  rw [evalF]
  cases hg : goodB e 0 p <;> simp [req, reqR, reqV, hg, tab, ic3, kn8, evalC, evalOps, wants, iop, ev, put, ibin, iuna, icmp, bv, resAll, res1, one, undef]

theorem walk (e p : Int) (w0 : (Lit.int .i64 e).wf = true) (w1 : (Lit.int .i64 p).wf = true) (w : World) :
    Calls Try.prog 3 #[.int .i64 e, .int .i64 p] w fun e w' => e = .returned (.bool true) ∧ Below w.heap.size w w' :=
  plain_law tabOk mixed hook_sound (args := [.int .i64 e, .int .i64 p]) (by simp [flat1]) rfl (law 0 e p []) w

end Go.Proofs.Ytmjmnjfopgabjaa.TabA
