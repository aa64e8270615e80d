/- bandplan/bandplanlaw10.TerrainSymmetry returns true for every input, and each argument reads behind the call as it read before. -/
import Derived.Test.YthlhcdldighffaaRows
import Derived.Test.YthlhcdldighffaaSym2
import Derived.WalkKit
import Derived.ProofKit
import Derived.OpenShut
import Derived.ShutString
import Derived.ChangeOld
import Derived.Below
import Derived.SizedLaws
import Derived.Carry
namespace Go.Proofs.Ythlhcdldighffaa.terrainSymmetry
open Go Go.IM Go.ChangeShapes Go.WideShapes Go.ChangeAt Go.RowKit
open Go.Proofs.Ythlhcdldighffaa.Tab
open Go.ChangeMaps (open_string shut_string)
set_option linter.unusedVariables false
theorem own : ownKnob Try.prog.godebug = none := by kernel_rfl
theorem laidOut : laidOutB Try.prog = true := by kernel_rfl
/-- The examples of the chapter hold. -/
theorem known : isTrue (evalFB full noHook 300 13 [] []) = true := by kernel_rfl
theorem mk__Lay_int__i64_ : ∀ r, F2 LK.has [.i .i64] r → ∃ a, r = (Lay.int .i64).c a ∧ (fun x => (Lit.int .i64 x).wf = true) a := by
  rintro r h
  obtain _ | ⟨⟨n0, rfl, w0⟩, h⟩ := h
  cases h
  exact ⟨n0, rfl, w0⟩
set_option maxRecDepth 100000 in
theorem lifted (os : Os) (started : os.Started) (H : Type) (enc : TypeId × Value → H) :
    ReturnsInHanded {} Try.checked os 8 .any (Rows.terrainSymmetrySpec.pre6 enc Try.prog Try.f8 Rows.terrainSymmetryRow.domain false) (Rows.terrainSymmetrySpec.post enc Try.prog Try.f8 false true false false) := by
  refine returnsInHanded_of_change_sized (C := Try.checked) own started (by kernel_rfl) Try.func8
    (ChangeSpec.witness6 (enc := enc) (C := Try.checked) false ⟨#[], #[.agg #[.int .i64 0, .int .i64 0, .slice none 0 0, .slice none 0 0], .agg #[.int .i64 0, .int .i64 0], .agg #[.int .i64 0, .int .i64 0], .int .i64 0], []⟩ 8 (by kernel_rfl) (by kernel_rfl) (by kernel_rfl) (by kernel_rfl)) ?_
  intro W base args ds gs before hval0 hW hcnd hsz0 _
  have hsz : (DataW.weightsEach Try.prog (Try.f8.params.toList ++ Rows.terrainSymmetrySpec.plain.varTypes Try.prog) (ds ++ gs)).all (· ≤ reachBytes) = true := hsz0
  have hval : ∀ (j : Nat) t v, Try.f8.params[j]? = some t → args[j]? = some v → Value.okWide Try.prog W .any base t v := hval0
  have hW' := hW
  obtain ⟨p, q, hA0, hV, rfl, hfz, hnd⟩ := hW
  have hA : DataW.TrodAll enc Try.prog W 0 (fun _ => true) true Try.f8.params.toList args.toList ds p := hA0
  rw [Try.params8] at hA hval hsz
  obtain ⟨v0, vs0, d0, ds0, p0, q0, hargs, rfl, rfl, h0, r0⟩ := trodAll_cons hA
  obtain ⟨v1, vs1, d1, ds1, p1, q1, rfl, rfl, rfl, h1, r1⟩ := trodAll_cons r0
  obtain ⟨v2, vs2, d2, ds2, p2, q2, rfl, rfl, rfl, h2, r2⟩ := trodAll_cons r1
  obtain ⟨v3, vs3, d3, ds3, p3, q3, rfl, rfl, rfl, h3, r3⟩ := trodAll_cons r2
  obtain ⟨rfl, rfl, rfl⟩ := trodAll_nil r3
  obtain rfl : args = #[v0, v1, v2, v3] := by cases args; simp_all
  obtain ⟨rfl, rfl⟩ := trodVars_none hV
  have A0 := AH.none W
  have k0 := h0
  have lt0 : ∀ x ∈ p0, x.block < W.heap.size := by obtain ⟨m, hm⟩ := k0; exact DataW.trod_lt m _ _ _ hm
  obtain ⟨cs0, rfl, hcl0, hcf0⟩ := arg_struct Try.underlying24 (ts := [3, 3, 22, 22]) (by kernel_rfl) (by kernel_rfl) (hval 0 24 v0 rfl rfl) h0
  obtain ⟨c0_0, hc0_0, ⟨m0_0, y0_0, ht0_0⟩, u0_0, hu0_0, hw0_0⟩ := hcf0 0 _ rfl
  cases hu0_0
  obtain ⟨c0_1, hc0_1, ⟨m0_1, y0_1, ht0_1⟩, u0_1, hu0_1, hw0_1⟩ := hcf0 1 _ rfl
  cases hu0_1
  obtain ⟨c0_2, hc0_2, ⟨m0_2, y0_2, ht0_2⟩, u0_2, hu0_2, hw0_2⟩ := hcf0 2 _ rfl
  cases hu0_2
  obtain ⟨c0_3, hc0_3, ⟨m0_3, y0_3, ht0_3⟩, u0_3, hu0_3, hw0_3⟩ := hcf0 3 _ rfl
  cases hu0_3
  obtain rfl : cs0 = [c0_0, c0_1, c0_2, c0_3] := by
    apply List.ext_getElem?
    intro j
    match j with
    | 0 => exact hc0_0
    | 1 => exact hc0_1
    | 2 => exact hc0_2
    | 3 => exact hc0_3
    | j + 4 => rw [List.getElem?_eq_none (by rw [hcl0]; exact Nat.le_add_left _ _)]; rfl
  obtain ⟨n0_0, rfl, w0_0⟩ := leaf_int Try.underlying3 ht0_0
  obtain ⟨n0_1, rfl, w0_1⟩ := leaf_int Try.underlying3 ht0_1
  obtain ⟨rho1, H1, iv0_2, l0_2, A1, vr0_2, on0_2, sl0_2, g0_2, kp1, ll0_2⟩ := arg_slice (Lay.int .i64) (fun x => (Lit.int .i64 x).wf = true) Try.underlying22 (by kernel_rfl) (by kernel_rfl) mk__Lay_int__i64_ (hw0_2) (ht0_2) A0
  obtain ⟨rho2, H2, iv0_3, l0_3, A2, vr0_3, on0_3, sl0_3, g0_3, kp2, ll0_3⟩ := arg_slice (Lay.int .i64) (fun x => (Lit.int .i64 x).wf = true) Try.underlying22 (by kernel_rfl) (by kernel_rfl) mk__Lay_int__i64_ (hw0_3) (ht0_3) A1
  have k1 := h1
  have lt1 : ∀ x ∈ p1, x.block < W.heap.size := by obtain ⟨m, hm⟩ := k1; exact DataW.trod_lt m _ _ _ hm
  obtain ⟨cs1, rfl, hcl1, hcf1⟩ := arg_struct Try.underlying34 (ts := [3, 3]) (by kernel_rfl) (by kernel_rfl) (hval 1 34 v1 rfl rfl) h1
  obtain ⟨c1_0, hc1_0, ⟨m1_0, y1_0, ht1_0⟩, u1_0, hu1_0, hw1_0⟩ := hcf1 0 _ rfl
  cases hu1_0
  obtain ⟨c1_1, hc1_1, ⟨m1_1, y1_1, ht1_1⟩, u1_1, hu1_1, hw1_1⟩ := hcf1 1 _ rfl
  cases hu1_1
  obtain rfl : cs1 = [c1_0, c1_1] := by
    apply List.ext_getElem?
    intro j
    match j with
    | 0 => exact hc1_0
    | 1 => exact hc1_1
    | j + 2 => rw [List.getElem?_eq_none (by rw [hcl1]; exact Nat.le_add_left _ _)]; rfl
  obtain ⟨n1_0, rfl, w1_0⟩ := leaf_int Try.underlying3 ht1_0
  obtain ⟨n1_1, rfl, w1_1⟩ := leaf_int Try.underlying3 ht1_1
  have k2 := h2
  have lt2 : ∀ x ∈ p2, x.block < W.heap.size := by obtain ⟨m, hm⟩ := k2; exact DataW.trod_lt m _ _ _ hm
  obtain ⟨cs2, rfl, hcl2, hcf2⟩ := arg_struct Try.underlying34 (ts := [3, 3]) (by kernel_rfl) (by kernel_rfl) (hval 2 34 v2 rfl rfl) h2
  obtain ⟨c2_0, hc2_0, ⟨m2_0, y2_0, ht2_0⟩, u2_0, hu2_0, hw2_0⟩ := hcf2 0 _ rfl
  cases hu2_0
  obtain ⟨c2_1, hc2_1, ⟨m2_1, y2_1, ht2_1⟩, u2_1, hu2_1, hw2_1⟩ := hcf2 1 _ rfl
  cases hu2_1
  obtain rfl : cs2 = [c2_0, c2_1] := by
    apply List.ext_getElem?
    intro j
    match j with
    | 0 => exact hc2_0
    | 1 => exact hc2_1
    | j + 2 => rw [List.getElem?_eq_none (by rw [hcl2]; exact Nat.le_add_left _ _)]; rfl
  obtain ⟨n2_0, rfl, w2_0⟩ := leaf_int Try.underlying3 ht2_0
  obtain ⟨n2_1, rfl, w2_1⟩ := leaf_int Try.underlying3 ht2_1
  obtain ⟨a3, rfl, rfl, rfl, w3⟩ := open_int Try.underlying3 (hval 3 3 v3 rfl rfl) h3
  replace vr0_2 := (kp2.vr _ _ vr0_2)
  replace sl0_2 := (kp2.sl _ _ _ _ sl0_2)
  clear hA0 hval0 hsz0 hsz
  refine (mem_law2 (v := .bool true) itabOk mixed (known_sound fullOk mixed known _) (hook_sim rfl) promOk A2 (iargs := [.agg #[.int .i64 n0_0, .int .i64 n0_1, iv0_2, iv0_3], .agg #[.int .i64 n1_0, .int .i64 n1_1], .agg #[.int .i64 n2_0, .int .i64 n2_1], .int .i64 a3]) (F2.cons (VR.agg (ivs := [.int .i64 n0_0, .int .i64 n0_1, iv0_2, iv0_3]) (F2.cons ⟨(VR.flat rfl _ _), rfl⟩ (F2.cons ⟨(VR.flat rfl _ _), rfl⟩ (F2.cons ⟨vr0_2, on0_2⟩ (F2.cons ⟨vr0_3, on0_3⟩ F2.nil))))) (F2.cons (VR.agg (ivs := [.int .i64 n1_0, .int .i64 n1_1]) (F2.cons ⟨(VR.flat rfl _ _), rfl⟩ (F2.cons ⟨(VR.flat rfl _ _), rfl⟩ F2.nil))) (F2.cons (VR.agg (ivs := [.int .i64 n2_0, .int .i64 n2_1]) (F2.cons ⟨(VR.flat rfl _ _), rfl⟩ (F2.cons ⟨(VR.flat rfl _ _), rfl⟩ F2.nil))) (F2.cons (VR.flat rfl _ _) F2.nil)))) rfl (lawSymmetry_is (t := ⟨n0_0, n0_1, iv0_2, iv0_3⟩) ⟨sl0_2, sl0_3⟩ (fun _ => rfl))).mono fun e W' ⟨he, bel⟩ => ?_
  subst he
  exact ⟨_, rfl, _, _, _, [], _, [], hW', trodAll_mk1 (shut_bool Try.underlying4 _), (trodAll_cons_mk (Below.trod laidOut (by kernel_rfl) (of_decide_eq_true (by kernel_rfl)) k0 bel lt0) (trodAll_cons_mk (Below.trod laidOut (by kernel_rfl) (of_decide_eq_true (by kernel_rfl)) k1 bel lt1) (trodAll_cons_mk (Below.trod laidOut (by kernel_rfl) (of_decide_eq_true (by kernel_rfl)) k2 bel lt2) (trodAll_cons_mk (shut_int Try.underlying3 w3) trodAll_mk0)))), rfl, bel.frame _, fun h => by cases h⟩
theorem over : Rows.terrainSymmetryRow.holds Try.pinned (OpenSpec.ofChange Rows.terrainSymmetrySpec) :=
  OpenClaim.holds_of_wide 8 Try.f8 rfl rfl rfl rfl rfl rfl rfl ⟨rfl, rfl, rfl, rfl, rfl⟩ rfl rfl rfl rfl rfl (by kernel_rfl) Try.func8 (by kernel_rfl)
    (of_decide_eq_true (by kernel_rfl)) (by unfold Func.isWrapper; first | (rw [if_pos (by decide +kernel)]; kernel_rfl) | (rw [if_neg (by decide +kernel)]; exact ⟨rfl, rfl⟩))
    (fun os started H enc _ => lifted os started H enc)
end Go.Proofs.Ythlhcdldighffaa.terrainSymmetry
namespace Go.Proofs.Ythlhcdldighffaa
/-- The statement. -/
theorem terrainSymmetry_holds : Rows.TerrainSymmetrySaid := terrainSymmetry.over
#print axioms terrainSymmetry_holds
end Go.Proofs.Ythlhcdldighffaa
