/- bandplan/bandplanlaw10.TerrainTotals returns true for every input, and each argument reads behind the call as it read before. -/
import Derived.Test.YthlhcdldighffaaRows
import Derived.Test.YthlhcdldighffaaTot2
import Derived.WalkKit
import Derived.ProofKit
import Derived.OpenShut
import Derived.ShutString
import Derived.ChangeOld
import Derived.Below
import Derived.SizedLaws
import Derived.Carry
namespace Go.Proofs.Ythlhcdldighffaa.terrainTotals
open Go Go.IM Go.ChangeShapes Go.WideShapes Go.ChangeAt Go.RowKit
open Go.Proofs.Ythlhcdldighffaa.Tab
open Go.ChangeMaps (open_string shut_string)
set_option linter.unusedVariables false
theorem own : ownKnob Try.prog.godebug = none := by kernel_rfl
theorem laidOut : laidOutB Try.prog = true := by kernel_rfl
/-- The examples of the chapter hold. -/
theorem known : isTrue (evalFB full noHook 300 13 [] []) = true := by kernel_rfl
theorem mk__Lay_int__i64_ : ∀ r, F2 LK.has [.i .i64] r → ∃ a, r = (Lay.int .i64).c a ∧ (fun x => (Lit.int .i64 x).wf = true) a := by
  rintro r h
  obtain _ | ⟨⟨n0, rfl, w0⟩, h⟩ := h
  cases h
  exact ⟨n0, rfl, w0⟩
set_option maxRecDepth 100000 in
theorem lifted (os : Os) (started : os.Started) (H : Type) (enc : TypeId × Value → H) :
    ReturnsInHanded {} Try.checked os 7 .any (Rows.terrainTotalsSpec.pre6 enc Try.prog Try.f7 Rows.terrainTotalsRow.domain false) (Rows.terrainTotalsSpec.post enc Try.prog Try.f7 false true false false) := by
  refine returnsInHanded_of_change_sized (C := Try.checked) own started (by kernel_rfl) Try.func7
    (ChangeSpec.witness6 (enc := enc) (C := Try.checked) false ⟨#[], #[.agg #[.int .i64 0, .int .i64 0, .slice none 0 0, .slice none 0 0], .slice none 0 0], []⟩ 8 (by kernel_rfl) (by kernel_rfl) (by kernel_rfl) (by kernel_rfl)) ?_
  intro W base args ds gs before hval0 hW hcnd hsz0 _
  have hsz : (DataW.weightsEach Try.prog (Try.f7.params.toList ++ Rows.terrainTotalsSpec.plain.varTypes Try.prog) (ds ++ gs)).all (· ≤ reachBytes) = true := hsz0
  have hval : ∀ (j : Nat) t v, Try.f7.params[j]? = some t → args[j]? = some v → Value.okWide Try.prog W .any base t v := hval0
  have hW' := hW
  obtain ⟨p, q, hA0, hV, rfl, hfz, hnd⟩ := hW
  have hA : DataW.TrodAll enc Try.prog W 0 (fun _ => true) true Try.f7.params.toList args.toList ds p := hA0
  rw [Try.params7] at hA hval hsz
  obtain ⟨v0, vs0, d0, ds0, p0, q0, hargs, rfl, rfl, h0, r0⟩ := trodAll_cons hA
  obtain ⟨v1, vs1, d1, ds1, p1, q1, rfl, rfl, rfl, h1, r1⟩ := trodAll_cons r0
  obtain ⟨rfl, rfl, rfl⟩ := trodAll_nil r1
  obtain rfl : args = #[v0, v1] := by cases args; simp_all
  obtain ⟨rfl, rfl⟩ := trodVars_none hV
  have A0 := AH.none W
  have k0 := h0
  have lt0 : ∀ x ∈ p0, x.block < W.heap.size := by obtain ⟨m, hm⟩ := k0; exact DataW.trod_lt m _ _ _ hm
  obtain ⟨cs0, rfl, hcl0, hcf0⟩ := arg_struct Try.underlying24 (ts := [3, 3, 22, 22]) (by kernel_rfl) (by kernel_rfl) (hval 0 24 v0 rfl rfl) h0
  obtain ⟨c0_0, hc0_0, ⟨m0_0, y0_0, ht0_0⟩, u0_0, hu0_0, hw0_0⟩ := hcf0 0 _ rfl
  cases hu0_0
  obtain ⟨c0_1, hc0_1, ⟨m0_1, y0_1, ht0_1⟩, u0_1, hu0_1, hw0_1⟩ := hcf0 1 _ rfl
  cases hu0_1
  obtain ⟨c0_2, hc0_2, ⟨m0_2, y0_2, ht0_2⟩, u0_2, hu0_2, hw0_2⟩ := hcf0 2 _ rfl
  cases hu0_2
  obtain ⟨c0_3, hc0_3, ⟨m0_3, y0_3, ht0_3⟩, u0_3, hu0_3, hw0_3⟩ := hcf0 3 _ rfl
  cases hu0_3
  obtain rfl : cs0 = [c0_0, c0_1, c0_2, c0_3] := by
    apply List.ext_getElem?
    intro j
    match j with
    | 0 => exact hc0_0
    | 1 => exact hc0_1
    | 2 => exact hc0_2
    | 3 => exact hc0_3
    | j + 4 => rw [List.getElem?_eq_none (by rw [hcl0]; exact Nat.le_add_left _ _)]; rfl
  obtain ⟨n0_0, rfl, w0_0⟩ := leaf_int Try.underlying3 ht0_0
  obtain ⟨n0_1, rfl, w0_1⟩ := leaf_int Try.underlying3 ht0_1
  obtain ⟨rho1, H1, iv0_2, l0_2, A1, vr0_2, on0_2, sl0_2, g0_2, kp1, ll0_2⟩ := arg_slice (Lay.int .i64) (fun x => (Lit.int .i64 x).wf = true) Try.underlying22 (by kernel_rfl) (by kernel_rfl) mk__Lay_int__i64_ (hw0_2) (ht0_2) A0
  obtain ⟨rho2, H2, iv0_3, l0_3, A2, vr0_3, on0_3, sl0_3, g0_3, kp2, ll0_3⟩ := arg_slice (Lay.int .i64) (fun x => (Lit.int .i64 x).wf = true) Try.underlying22 (by kernel_rfl) (by kernel_rfl) mk__Lay_int__i64_ (hw0_3) (ht0_3) A1
  have k1 := h1
  have lt1 : ∀ x ∈ p1, x.block < W.heap.size := by obtain ⟨m, hm⟩ := k1; exact DataW.trod_lt m _ _ _ hm
  obtain ⟨x1, y1, z1, rfl⟩ := okWide_slice Try.underlying22 (hval 1 22 v1 rfl rfl)
  obtain ⟨m1, hm1⟩ := h1
  obtain ⟨rho3, H3, iv1, l1, A3, vr1, on1, sl1, g1, kp3, ll1⟩ := arg_slice (Lay.int .i64) (fun x => (Lit.int .i64 x).wf = true) Try.underlying22 (by kernel_rfl) (by kernel_rfl) mk__Lay_int__i64_ (okWide_cell Try.underlying22 (hval 1 22 _ rfl rfl)) (hm1) A2
  replace vr0_2 := (kp3.vr _ _ (kp2.vr _ _ vr0_2))
  replace sl0_2 := (kp3.sl _ _ _ _ (kp2.sl _ _ _ _ sl0_2))
  replace vr0_3 := (kp3.vr _ _ vr0_3)
  replace sl0_3 := (kp3.sl _ _ _ _ sl0_3)
  clear hA0 hval0 hsz0 hsz
  refine (mem_law2 (v := .bool true) itabOk mixed (known_sound fullOk mixed known _) (hook_sim rfl) promOk A3 (iargs := [.agg #[.int .i64 n0_0, .int .i64 n0_1, iv0_2, iv0_3], iv1]) (F2.cons (VR.agg (ivs := [.int .i64 n0_0, .int .i64 n0_1, iv0_2, iv0_3]) (F2.cons ⟨(VR.flat rfl _ _), rfl⟩ (F2.cons ⟨(VR.flat rfl _ _), rfl⟩ (F2.cons ⟨vr0_2, on0_2⟩ (F2.cons ⟨vr0_3, on0_3⟩ F2.nil))))) (F2.cons vr1 F2.nil)) rfl (lawTotals_is (t := ⟨n0_0, n0_1, iv0_2, iv0_3⟩) ⟨sl0_2, sl0_3⟩ sl1 (fun _ => rfl))).mono fun e W' ⟨he, bel⟩ => ?_
  subst he
  exact ⟨_, rfl, _, _, _, [], _, [], hW', trodAll_mk1 (shut_bool Try.underlying4 _), (trodAll_cons_mk (Below.trod laidOut (by kernel_rfl) (of_decide_eq_true (by kernel_rfl)) k0 bel lt0) (trodAll_cons_mk (Below.trod laidOut (by kernel_rfl) (of_decide_eq_true (by kernel_rfl)) k1 bel lt1) trodAll_mk0)), rfl, bel.frame _, fun h => by cases h⟩
theorem over : Rows.terrainTotalsRow.holds Try.pinned (OpenSpec.ofChange Rows.terrainTotalsSpec) :=
  OpenClaim.holds_of_wide 7 Try.f7 rfl rfl rfl rfl rfl rfl rfl ⟨rfl, rfl, rfl, rfl, rfl⟩ rfl rfl rfl rfl rfl (by kernel_rfl) Try.func7 (by kernel_rfl)
    (of_decide_eq_true (by kernel_rfl)) (by unfold Func.isWrapper; first | (rw [if_pos (by decide +kernel)]; kernel_rfl) | (rw [if_neg (by decide +kernel)]; exact ⟨rfl, rfl⟩))
    (fun os started H enc _ => lifted os started H enc)
end Go.Proofs.Ythlhcdldighffaa.terrainTotals
namespace Go.Proofs.Ythlhcdldighffaa
/-- The statement. -/
theorem terrainTotals_holds : Rows.TerrainTotalsSaid := terrainTotals.over
#print axioms terrainTotals_holds
end Go.Proofs.Ythlhcdldighffaa
