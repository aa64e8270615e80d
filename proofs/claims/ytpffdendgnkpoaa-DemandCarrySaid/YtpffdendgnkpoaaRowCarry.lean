/- bandplan/bandplanlaw34.DemandCarry returns true for every input, and each argument reads behind the call as it read before. -/
import Derived.Test.YtpffdendgnkpoaaRows
import Derived.Test.YtpffdendgnkpoaaDem10
import Derived.WalkKit
import Derived.ProofKit
import Derived.OpenShut
import Derived.ShutString
import Derived.ChangeOld
import Derived.Below
import Derived.SizedLaws
import Derived.Carry
namespace Go.Proofs.Ytpffdendgnkpoaa.demandCarry
open Go Go.IM Go.ChangeShapes Go.WideShapes Go.ChangeAt Go.RowKit
open Go.Proofs.Ytpffdendgnkpoaa.Tab
open Go.ChangeMaps (open_string shut_string)
set_option linter.unusedVariables false
theorem own : ownKnob Try.prog.godebug = none := by kernel_rfl
theorem laidOut : laidOutB Try.prog = true := by kernel_rfl
/-- The examples of the chapter hold. -/
theorem known : isTrue (evalFB full noHook 300 10 [] []) = true := by kernel_rfl
theorem mk_LProd : ∀ r, F2 LK.has [.i .i64, .i .i64, .i .i64, .i .i64, .i .i64] r → ∃ a, r = LProd.c a ∧ (goodLProd) a := by
  rintro r h
  obtain _ | ⟨⟨n0, rfl, w0⟩, h⟩ := h
  obtain _ | ⟨⟨n1, rfl, w1⟩, h⟩ := h
  obtain _ | ⟨⟨n2, rfl, w2⟩, h⟩ := h
  obtain _ | ⟨⟨n3, rfl, w3⟩, h⟩ := h
  obtain _ | ⟨⟨n4, rfl, w4⟩, h⟩ := h
  cases h
  exact ⟨⟨n0, n1, n2, n3, n4⟩, rfl, ⟨w0, w1, w2, w3, w4⟩⟩
theorem mk__Lay_int__i64_ : ∀ r, F2 LK.has [.i .i64] r → ∃ a, r = (Lay.int .i64).c a ∧ (fun x => (Lit.int .i64 x).wf = true) a := by
  rintro r h
  obtain _ | ⟨⟨n0, rfl, w0⟩, h⟩ := h
  cases h
  exact ⟨n0, rfl, w0⟩
set_option maxRecDepth 100000 in
theorem lifted (os : Os) (started : os.Started) (H : Type) (enc : TypeId × Value → H) :
    ReturnsInHanded {} Try.checked os 7 .any (Rows.demandCarrySpec.pre6 enc Try.prog Try.f7 Rows.demandCarryRow.domain false) (Rows.demandCarrySpec.post enc Try.prog Try.f7 false true false false) := by
  refine returnsInHanded_of_change_sized (C := Try.checked) own started (by kernel_rfl) Try.func7
    (ChangeSpec.witness6 (enc := enc) (C := Try.checked) false ⟨#[], #[.slice none 0 0, .slice none 0 0, .slice none 0 0], []⟩ 8 (by kernel_rfl) (by kernel_rfl) (by kernel_rfl) (by kernel_rfl)) ?_
  intro W base args ds gs before hval0 hW hcnd hsz0 _
  have hsz : (DataW.weightsEach Try.prog (Try.f7.params.toList ++ Rows.demandCarrySpec.plain.varTypes Try.prog) (ds ++ gs)).all (· ≤ reachBytes) = true := hsz0
  have hval : ∀ (j : Nat) t v, Try.f7.params[j]? = some t → args[j]? = some v → Value.okWide Try.prog W .any base t v := hval0
  have hW' := hW
  obtain ⟨p, q, hA0, hV, rfl, hfz, hnd⟩ := hW
  have hA : DataW.TrodAll enc Try.prog W 0 (fun _ => true) true Try.f7.params.toList args.toList ds p := hA0
  rw [Try.params7] at hA hval hsz
  obtain ⟨v0, vs0, d0, ds0, p0, q0, hargs, rfl, rfl, h0, r0⟩ := trodAll_cons hA
  obtain ⟨v1, vs1, d1, ds1, p1, q1, rfl, rfl, rfl, h1, r1⟩ := trodAll_cons r0
  obtain ⟨v2, vs2, d2, ds2, p2, q2, rfl, rfl, rfl, h2, r2⟩ := trodAll_cons r1
  obtain ⟨rfl, rfl, rfl⟩ := trodAll_nil r2
  obtain rfl : args = #[v0, v1, v2] := by cases args; simp_all
  obtain ⟨rfl, rfl⟩ := trodVars_none hV
  have A0 := AH.none W
  have k0 := h0
  have lt0 : ∀ x ∈ p0, x.block < W.heap.size := by obtain ⟨m, hm⟩ := k0; exact DataW.trod_lt m _ _ _ hm
  obtain ⟨x0, y0, z0, rfl⟩ := okWide_slice Try.underlying22 (hval 0 22 v0 rfl rfl)
  obtain ⟨m0, hm0⟩ := h0
  obtain ⟨rho1, H1, iv0, l0, A1, vr0, on0, sl0, g0, kp1, ll0⟩ := arg_slice LProd (goodLProd) Try.underlying22 (by kernel_rfl) (by kernel_rfl) mk_LProd (okWide_cell Try.underlying22 (hval 0 22 _ rfl rfl)) (hm0) A0
  have k1 := h1
  have lt1 : ∀ x ∈ p1, x.block < W.heap.size := by obtain ⟨m, hm⟩ := k1; exact DataW.trod_lt m _ _ _ hm
  obtain ⟨x1, y1, z1, rfl⟩ := okWide_slice Try.underlying22 (hval 1 22 v1 rfl rfl)
  obtain ⟨m1, hm1⟩ := h1
  obtain ⟨rho2, H2, iv1, l1, A2, vr1, on1, sl1, g1, kp2, ll1⟩ := arg_slice LProd (goodLProd) Try.underlying22 (by kernel_rfl) (by kernel_rfl) mk_LProd (okWide_cell Try.underlying22 (hval 1 22 _ rfl rfl)) (hm1) A1
  have k2 := h2
  have lt2 : ∀ x ∈ p2, x.block < W.heap.size := by obtain ⟨m, hm⟩ := k2; exact DataW.trod_lt m _ _ _ hm
  obtain ⟨x2, y2, z2, rfl⟩ := okWide_slice Try.underlying23 (hval 2 23 v2 rfl rfl)
  obtain ⟨m2, hm2⟩ := h2
  obtain ⟨rho3, H3, iv2, l2, A3, vr2, on2, sl2, g2, kp3, ll2⟩ := arg_slice (Lay.int .i64) (fun x => (Lit.int .i64 x).wf = true) Try.underlying23 (by kernel_rfl) (by kernel_rfl) mk__Lay_int__i64_ (okWide_cell Try.underlying23 (hval 2 23 _ rfl rfl)) (hm2) A2
  replace vr0 := (kp3.vr _ _ (kp2.vr _ _ vr0))
  replace sl0 := (kp3.sl _ _ _ _ (kp2.sl _ _ _ _ sl0))
  replace vr1 := (kp3.vr _ _ vr1)
  replace sl1 := (kp3.sl _ _ _ _ sl1)
  clear hA0 hval0 hsz0 hsz
  refine (mem_law2 (v := .bool true) itabOk mixed (known_sound fullOk mixed known _) (hook_sim rfl) promOk A3 (iargs := [iv0, iv1, iv2]) (F2.cons vr0 (F2.cons vr1 (F2.cons vr2 F2.nil))) rfl (lawCarry_is sl0 sl1 sl2 (fun _ => rfl))).mono fun e W' ⟨he, bel⟩ => ?_
  subst he
  exact ⟨_, rfl, _, _, _, [], _, [], hW', trodAll_mk1 (shut_bool Try.underlying4 _), (trodAll_cons_mk (Below.trod laidOut (by kernel_rfl) (of_decide_eq_true (by kernel_rfl)) k0 bel lt0) (trodAll_cons_mk (Below.trod laidOut (by kernel_rfl) (of_decide_eq_true (by kernel_rfl)) k1 bel lt1) (trodAll_cons_mk (Below.trod laidOut (by kernel_rfl) (of_decide_eq_true (by kernel_rfl)) k2 bel lt2) trodAll_mk0))), rfl, bel.frame _, fun h => by cases h⟩
theorem over : Rows.demandCarryRow.holds Try.pinned (OpenSpec.ofChange Rows.demandCarrySpec) :=
  OpenClaim.holds_of_wide 7 Try.f7 rfl rfl rfl rfl rfl rfl rfl ⟨rfl, rfl, rfl, rfl, rfl⟩ rfl rfl rfl rfl rfl (by kernel_rfl) Try.func7 (by kernel_rfl)
    (of_decide_eq_true (by kernel_rfl)) (by unfold Func.isWrapper; first | (rw [if_pos (by decide +kernel)]; kernel_rfl) | (rw [if_neg (by decide +kernel)]; exact ⟨rfl, rfl⟩))
    (fun os started H enc _ => lifted os started H enc)
end Go.Proofs.Ytpffdendgnkpoaa.demandCarry
namespace Go.Proofs.Ytpffdendgnkpoaa
/-- The statement. -/
theorem demandCarry_holds : Rows.DemandCarrySaid := demandCarry.over
#print axioms demandCarry_holds
end Go.Proofs.Ytpffdendgnkpoaa
