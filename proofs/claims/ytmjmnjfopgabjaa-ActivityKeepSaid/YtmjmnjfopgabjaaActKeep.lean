/- The law ActivityKeep: what its instructions answer, for all whole numbers. -/
import Derived.Test.YtmjmnjfopgabjaaTabB
namespace Go.Proofs.Ytmjmnjfopgabjaa.TabB
open Go Go.IM Go.RowKit
set_option maxRecDepth 100000
set_option linter.unusedSimpArgs false
set_option linter.unusedVariables false

def hook : CallFn := closedHook 8 (.bool true)

def isTrue : Option (IEnd × Heap) → Bool
  | some (.ret (.bool b), _) => b
  | _ => false

theorem isTrue_some {x : Option (IEnd × Heap)} (h : isTrue x = true) : ∃ H, x = some (.ret (.bool true), H) := by
  unfold isTrue at h
  split at h
  · subst h; exact ⟨_, rfl⟩
  · cases h

/-- The examples of the chapter hold. -/
theorem known : isTrue (evalF full noHook 300 8 [] []) = true := by kernel_rfl

theorem hook_sound (base : Nat) : SoundCall Try.prog base 0 hook := by
  obtain ⟨H, h⟩ := isTrue_some known
  exact closed_sound fullOk mixed rfl h

def goodB (e w p : Int) : Bool := decide (e ≥ 0) && decide (e ≤ 76800000) && decide (w ≥ 0) && decide (w ≤ 3) && decide (p ≥ 1) && decide (p ≤ 100)

set_option maxHeartbeats 4000000

theorem good (n : Nat) (e w p : Int) (H : Heap) : evalF tab hook (n + 8) 14 [.int .i64 e, .int .i64 w, .int .i64 p] H = some (.ret (.bool (goodB e w p)), H) := by
  unfold goodB
  by_cases h1 : e ≥ 0 <;> by_cases h2 : e ≤ 76800000 <;> by_cases h3 : w ≥ 0 <;> by_cases h4 : w ≤ 3 <;> by_cases h5 : p ≥ 1 <;> by_cases h6 : p ≤ 100 <;>
  simp -implicitDefEqProofs [h1, h2, h3, h4, h5, h6, evalF, tab, ic14, evalC, evalOps, wants, iop, ev, put, ibin, icmp, bv, resAll, res1, one, undef]

theorem goodR (n : Nat) (e w p : Int) (H : Heap) : evalF tab hook (n + 8) 15 [.int .i64 e, .int .i64 w, .int .i64 p] H = some (.ret (.bool (goodB e w p)), H) := by
  unfold goodB
  by_cases h1 : e ≥ 0 <;> by_cases h2 : e ≤ 76800000 <;> by_cases h3 : w ≥ 0 <;> by_cases h4 : w ≤ 3 <;> by_cases h5 : p ≥ 1 <;> by_cases h6 : p ≤ 100 <;>
  simp -implicitDefEqProofs [h1, h2, h3, h4, h5, h6, evalF, tab, ic15, evalC, evalOps, wants, iop, ev, put, ibin, icmp, bv, resAll, res1, one, undef]

def reqN (e p : Int) : Int := if goodB e 0 p then IntKind.i64.wrap (Int.tdiv (IntKind.i64.wrap (IntKind.i64.wrap (e * p) + 99)) 100) else 0
def reqE (e p : Int) : Int := if goodB e 0 p then 0 else 2

theorem req (n : Nat) (e p : Int) (H : Heap) : evalF tab hook (n + 12) 6 [.int .i64 e, .int .i64 p] H = some (.ret (.tuple #[.int .i64 (reqN e p), .int .i64 (reqE e p)]), H) := by
  unfold reqN reqE
  rw [evalF]
  cases hg : goodB e 0 p <;> simp -implicitDefEqProofs [good, hg, tab, ic6, evalC, evalOps, wants, iop, ev, put, ibin, iuna, icmp, bv, resAll, res1, one, undef]

theorem reqR (n : Nat) (e p : Int) (H : Heap) : evalF tab hook (n + 12) 7 [.int .i64 e, .int .i64 p] H = some (.ret (.tuple #[.int .i64 (reqN e p), .int .i64 (reqE e p)]), H) := by
  unfold reqN reqE
  rw [evalF]
  cases hg : goodB e 0 p <;> simp -implicitDefEqProofs [goodR, hg, tab, ic7, evalC, evalOps, wants, iop, ev, put, ibin, iuna, icmp, bv, resAll, res1, one, undef]

theorem good_p {e w p : Int} (h : goodB e w p = true) : p ≠ 0 := by
  simp -implicitDefEqProofs [goodB] at h; omega

def keepV (e w a p : Int) : Value :=
  if goodB e w p = false ∨ a < 0 ∨ a > e then .tuple #[.int .i64 0, .int .i64 0, .int .i64 2]
  else if a ≥ reqN e p then .tuple #[.int .i64 e, .int .i64 w, .int .i64 0]
  else if w > 0 then .tuple #[.int .i64 e, .int .i64 (IntKind.i64.wrap (w - 1)), .int .i64 0]
  else .tuple #[.int .i64 (IntKind.i64.wrap (Int.tdiv (IntKind.i64.wrap (a * 100)) p)), .int .i64 0, .int .i64 0]

theorem keep (n : Nat) (e w a p : Int) (H : Heap) : evalF tab hook (n + 24) 9 [.int .i64 e, .int .i64 w, .int .i64 a, .int .i64 p] H = some (.ret (keepV e w a p), H) := by
  unfold keepV
  rw [evalF]
  cases hg : goodB e w p with
  | false => simp -implicitDefEqProofs [good, req, hg, tab, ic9, evalC, evalOps, wants, iop, ev, put, ibin, iuna, icmp, bv, resAll, res1, one, undef]
  | true =>
    have hp := good_p hg
    by_cases h1 : a < 0
    · simp -implicitDefEqProofs [good, req, hg, h1, tab, ic9, evalC, evalOps, wants, iop, ev, put, ibin, iuna, icmp, bv, resAll, res1, one, undef]
    · by_cases h2 : a > e
      · simp -implicitDefEqProofs [good, req, hg, h1, h2, tab, ic9, evalC, evalOps, wants, iop, ev, put, ibin, iuna, icmp, bv, resAll, res1, one, undef]
      · by_cases h3 : a ≥ reqN e p
        · simp -implicitDefEqProofs [good, req, hg, h1, h2, h3, tab, ic9, evalC, evalOps, wants, iop, ev, put, ibin, iuna, icmp, bv, resAll, res1, one, undef]
        · by_cases h4 : w > 0
          · simp -implicitDefEqProofs [good, req, hg, h1, h2, h3, h4, tab, ic9, evalC, evalOps, wants, iop, ev, put, ibin, iuna, icmp, bv, resAll, res1, one, undef]
          · simp -implicitDefEqProofs [good, req, hg, h1, h2, h3, h4, hp, tab, ic9, evalC, evalOps, wants, iop, ev, put, ibin, iuna, icmp, bv, resAll, res1, one, undef]

theorem keepR (n : Nat) (e w a p : Int) (H : Heap) : evalF tab hook (n + 24) 10 [.int .i64 e, .int .i64 w, .int .i64 a, .int .i64 p] H = some (.ret (keepV e w a p), H) := by
  unfold keepV
  rw [evalF]
  cases hg : goodB e w p with
  | false => simp -implicitDefEqProofs [goodR, reqR, hg, tab, ic10, evalC, evalOps, wants, iop, ev, put, ibin, iuna, icmp, bv, resAll, res1, one, undef]
  | true =>
    have hp := good_p hg
    by_cases h1 : a < 0
    · simp -implicitDefEqProofs [goodR, reqR, hg, h1, tab, ic10, evalC, evalOps, wants, iop, ev, put, ibin, iuna, icmp, bv, resAll, res1, one, undef]
    · by_cases h2 : a > e
      · simp -implicitDefEqProofs [goodR, reqR, hg, h1, h2, tab, ic10, evalC, evalOps, wants, iop, ev, put, ibin, iuna, icmp, bv, resAll, res1, one, undef]
      · by_cases h3 : a ≥ reqN e p
        · simp -implicitDefEqProofs [goodR, reqR, hg, h1, h2, h3, tab, ic10, evalC, evalOps, wants, iop, ev, put, ibin, iuna, icmp, bv, resAll, res1, one, undef]
        · by_cases h4 : w > 0
          · simp -implicitDefEqProofs [goodR, reqR, hg, h1, h2, h3, h4, tab, ic10, evalC, evalOps, wants, iop, ev, put, ibin, iuna, icmp, bv, resAll, res1, one, undef]
          · simp -implicitDefEqProofs [goodR, reqR, hg, h1, h2, h3, h4, hp, tab, ic10, evalC, evalOps, wants, iop, ev, put, ibin, iuna, icmp, bv, resAll, res1, one, undef]

theorem keep_form (e w a p : Int) : ∃ x y z, keepV e w a p = .tuple #[.int .i64 x, .int .i64 y, .int .i64 z] := by
  unfold keepV
  split
  · exact ⟨_, _, _, rfl⟩
  · split
    · exact ⟨_, _, _, rfl⟩
    · split <;> exact ⟨_, _, _, rfl⟩

theorem kn8 (n : Nat) (H : Heap) : evalF tab hook (n + 1) 8 [] H = some (.ret (.bool true), H) := by
  simp -implicitDefEqProofs [evalF, tab, hook, closedHook]

theorem law_body (call : CallFn) (m : Nat) (e w a p x y z : Int) (H : Heap) (k1 : call 9 [.int .i64 e, .int .i64 w, .int .i64 a, .int .i64 p] H = some (.ret (.tuple #[.int .i64 x, .int .i64 y, .int .i64 z]), H))
    (k2 : call 10 [.int .i64 e, .int .i64 w, .int .i64 a, .int .i64 p] H = some (.ret (.tuple #[.int .i64 x, .int .i64 y, .int .i64 z]), H)) (k3 : call 8 [] H = some (.ret (.bool true), H)) :
    runF call (m + 12) ic4 [.int .i64 e, .int .i64 w, .int .i64 a, .int .i64 p] H = some (.ret (.bool true), H) := by
  simp -implicitDefEqProofs [runF, k1, k2, k3, ic4, evalC, evalOps, wants, iop, ev, put, ibin, iuna, icmp, bv, resAll, res1, one, undef]

theorem law (n : Nat) (e w a p : Int) (H : Heap) : evalF tab hook (n + 30) 4 [.int .i64 e, .int .i64 w, .int .i64 a, .int .i64 p] H = some (.ret (.bool true), H) := by
  obtain ⟨x, y, z, h⟩ := keep_form e w a p
  rw [evalF_run (fn := ic4) rfl]
  exact law_body _ (n + 17) e w a p x y z H (by rw [← h]; exact keep (n + 5) e w a p H) (by rw [← h]; exact keepR (n + 5) e w a p H) (kn8 (n + 28) H)

theorem walk (e v a p : Int) (w0 : (Lit.int .i64 e).wf = true) (w1 : (Lit.int .i64 v).wf = true) (w2 : (Lit.int .i64 a).wf = true) (w3 : (Lit.int .i64 p).wf = true) (w : World) :
    Calls Try.prog 4 #[.int .i64 e, .int .i64 v, .int .i64 a, .int .i64 p] w fun e w' => e = .returned (.bool true) ∧ Below w.heap.size w w' :=
  plain_law tabOk mixed hook_sound (args := [.int .i64 e, .int .i64 v, .int .i64 a, .int .i64 p]) (by simp -implicitDefEqProofs [flat1]) rfl (law 0 e v a p []) w

end Go.Proofs.Ytmjmnjfopgabjaa.TabB
