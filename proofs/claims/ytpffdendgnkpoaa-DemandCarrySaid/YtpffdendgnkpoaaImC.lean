/- The ideal machine's operations are the model's: stores, slices, strings, append. For every program. -/
import Derived.Test.YtpffdendgnkpoaaImB
import Derived.Laws.BytesArg
import Derived.IntWalk
set_option linter.unusedSimpArgs false
namespace Go.IM
open Go Go.RowKit
set_option linter.unusedVariables false

variable {P : Program} {base ng : Nat} {S : Nat → Prop} {ρ : Place} {H H' : Heap} {w w1 : World} {f : Fr} {o : Oper} {v : Value}

theorem Heap.row_of_get {b : Nat} {c : List Value} {ro : Bool} {lo : Nat} (h : H[b]? = some (.cells c ro lo)) : Heap.row H b = some c := by unfold Heap.row; rw [h]

theorem CellsAt.wrote {b : Nat} {c xs : List Value} {lo k0 : Nat} {w' : World} (h : CellsAt base S ρ b c false lo w) (hle : k0 + xs.length ≤ c.length) (hx : ∀ x ∈ xs, okV S x ∧ x.oneCell' = true)
    (hw : Wrote w w' (ρ b) k0 (xs.map (trV ρ))) : CellsAt base S ρ b (lay c k0 xs) false lo w' := by
  refine ⟨by rw [length_lay hle]; exact h.fit, h.esz, ?_, ?_, by rw [hw.size]; exact h.lt, fun hr => ?_⟩
  · intro k hk
    by_cases hin : k0 ≤ k ∧ k < k0 + xs.length
    · obtain ⟨j, rfl⟩ : ∃ j, k = k0 + j := ⟨k - k0, by omega⟩
      exact ⟨_, hw.new j _ (List.getElem?_eq_getElem (by simp; omega))⟩
    · rw [hw.old k (by simp; omega)]; exact h.have_ k hk
  · intro k v hk
    rw [get_lay hle] at hk
    split at hk
    · rw [hw.old k (.inl (by assumption))]; exact h.val k v hk
    · split at hk
      · obtain ⟨j, rfl⟩ : ∃ j, k = k0 + j := ⟨k - k0, by omega⟩
        rw [Nat.add_sub_cancel_left] at hk
        refine ⟨hw.new j _ (by simp [hk]), hx v (List.mem_of_getElem? hk)⟩
      · rw [hw.old k (.inr (by simp; omega))]; exact h.val k v hk
  · obtain ⟨h1, rc, ty, lo', hi, h2, h3⟩ := h.wr hr
    obtain ⟨rc', h4⟩ := hw.froz _ _ _ _ h2
    exact ⟨h1, rc', ty, lo', hi, h4, h3⟩

theorem write_run (h : HRel base ng S ρ H w) {b : Nat} {c xs : List Value} {lo k0 : Nat} (hb : S b) (hc : H[b]? = some (.cells c false lo)) (hle : k0 + xs.length ≤ c.length)
    (hx : ∀ x ∈ xs, okV S x ∧ x.oneCell' = true) :
    ∃ w', (storeCells (at_ (ρ b) k0) (xs.map (trV ρ))).run P w = .ok () w' ∧ HRel base ng S ρ (H.set b (.cells (lay c k0 xs) false lo)) w' ∧
      Ext S ρ H w S ρ (H.set b (.cells (lay c k0 xs) false lo)) w' := by
  have hcell := h.cells b c false lo hb hc
  obtain ⟨w', h1, h2⟩ := run_storeAt (P := P) (ρ b) k0 (xs.map (trV ρ)) 0 w
    (fun k hk => hcell.have_ _ (by simp at hk; have := hcell.fit; omega))
    (fun k hk => (hcell.wr rfl).2.frozen (by simp at hk; have := hcell.fit; omega))
    (fun x hx' => by
      simp only [List.mem_map] at hx'
      obtain ⟨y, hy, rfl⟩ := hx'
      simpa using (hx y hy).2)
  rw [Nat.add_zero] at h2
  exact ⟨w', h1, h.modify hb hc h2.other h2.size h2.env (hcell.wrote hle hx h2)⟩

/-- A Sim that leaves the memory's length. -/
theorem Sim.mk (hl : H'.length = H.length) {s : Sem Next} {w' : World} {n : Next} (hs : s.run P w = .ok n w') (hn : n = .value (trV ρ v) ∨ (n = .skip ∧ v = undef))
    (h1 : HRel base ng S ρ H' w') (h2 : Ext S ρ H w S ρ H' w') (hv : okV S v) : Sim P base ng S ρ H w s v H' := by
  refine ⟨ρ, w', n, hs, hn, ?_, ?_, ?_⟩ <;> rw [grow_same hl]
  · exact h1
  · exact h2
  · exact hv

theorem sim_sto {t : TypeId} {a x : Operand} {p : Addr} {n lo : Nat} {c : List Value} (hop : o.op = .store t a x) (h : HRel base ng S ρ H w) (hn : szO P t = some n)
    (ha : ev f a = .pointer (some p)) (hva : okV S (ev f a)) (hvx : okV S (ev f x)) (hw : H.wrow p.block = some (c, lo)) (hsz : (ev f x).cells.size = n) (hle : p.off + n ≤ c.length) (hnt : notTuple (ev f x) = true) :
    Sim P base ng S ρ H w (execOp (fun x => trV ρ (ev f x)) o) undef (H.set p.block (.cells (lay c p.off (ev f x).cells.toList) false lo)) := by
  rw [ha] at hva; simp only [okV] at hva
  obtain ⟨w', h1, h2, h3⟩ := write_run (P := P) h hva.1 (wrow_some hw) (k0 := p.off) (xs := (ev f x).cells.toList) (by simpa [hsz] using hle) (fun y hy => okV_cells hvx hnt y (by simpa using hy))
  refine Sim.mk (by simp) (n := .skip) ?_ (.inr ⟨rfl, rfl⟩) h2 h3 (by simp)
  have hs : (trV ρ (ev f x)).cells.size = n := by simpa using hsz
  simp [execOp, hop, ha, trV, Instr.storeAt, Instr.sureAddr, storeVar, szr hn, hsz, trA_at hva.2, h1]

/-! ## What a slice holds -/

theorem elems_sl {esz : Nat} {a : Addr} {l c n : Nat} {xs : List Value} (he : elems H esz (.slice (some a) l c) = some (n, xs)) : n = l ∧ (n = 0 ∧ xs = [] ∨ 0 < n ∧ ∃ r, H.row a.block = some r ∧ cut r a.off (n * esz) = some xs) := by
  simp only [elems] at he
  split at he
  · cases he; subst_vars; exact ⟨rfl, .inl ⟨rfl, rfl⟩⟩
  · rename_i hl
    split at he
    · rename_i r hr
      simp only [Option.map_eq_some_iff, Prod.mk.injEq] at he
      obtain ⟨ys, hy, rfl, rfl⟩ := he
      exact ⟨rfl, .inr ⟨by omega, r, hr, hy⟩⟩
    · cases he

theorem loadAt_run (h : HRel base ng S ρ H w) {a : Addr} {r xs : List Value} {n : Nat} (ha : S a.block ∧ a.spot = none) (hr : H.row a.block = some r) (hc : cut r a.off n = some xs) :
    (loadCells (trA ρ a) n).run P w = .ok (xs.map (trV ρ)).toArray w ∧ (∀ x ∈ xs, okV S x ∧ x.oneCell' = true) ∧ xs.length = n := by
  obtain ⟨c1, c2, c3⟩ := cut_some hc
  have hl := run_loadAt (P := P) (ρ a.block) a.off w (xs.map (trV ρ)) (fun k v hk => by
    simp only [List.getElem?_map, Option.map_eq_some_iff] at hk
    obtain ⟨u, hu, rfl⟩ := hk
    exact (h.row_val ha.1 hr _ u (c3 k u hu)).1)
  rw [List.length_map, c2] at hl
  refine ⟨by rw [trA_at ha.2]; exact hl, fun x hx => ?_, c2⟩
  obtain ⟨i, hi, rfl⟩ := List.mem_iff_getElem.1 hx
  exact (h.row_val ha.1 hr _ _ (c3 i _ (List.getElem?_eq_getElem hi))).2

theorem strCells (s : ByteArray) (n : Nat) (ρ : Place) (S : Nat → Prop) : ((s.extract 0 n).data.map fun b => (Value.int .u8 b.toNat : Value)) = (((s.data.toList.map fun b => (Value.int .u8 b.toNat : Value)).take n).map (trV ρ)).toArray ∧
    (∀ x ∈ (s.data.toList.map fun b => (Value.int .u8 b.toNat : Value)).take n, okV S x ∧ x.oneCell' = true) := by
  constructor
  · apply Array.ext'
    have : (s.extract 0 n).data.toList = s.data.toList.take n := by
      rw [ByteArray.data_extract, Array.toList_extract]; simp
    simp only [Array.toList_map, this, List.map_take, List.map_map]
    congr 1
    simp [trV, Function.comp_def]
  · intro x hx
    have := List.mem_of_mem_take hx
    simp only [List.mem_map] at this
    obtain ⟨b, _, rfl⟩ := this
    exact ⟨by simp [okV], rfl⟩

/-- The cells that append and copy take. -/
theorem firstCells_run (h : HRel base ng S ρ H w) {esz n : Nat} {x : Value} {xs : List Value} (hv : okV S x) (he : firsts H esz n x = some xs) :
    (Builtin.firstCells esz n (trV ρ x)).run P w = .ok (xs.map (trV ρ)).toArray w ∧ (∀ y ∈ xs, okV S y ∧ y.oneCell' = true) := by
  cases x <;> try (simp [firsts] at he; done)
  case slice a l c =>
    cases a with
    | none => simp [firsts] at he; subst he; simp [trV, Builtin.firstCells]
    | some a =>
      simp only [okV] at hv
      simp only [firsts] at he
      split at he
      · rename_i hn
        cases he; subst hn
        simp [trV, Builtin.firstCells, loadCells, loadCellsFrom]
      · split at he
        · rename_i r hr
          obtain ⟨l1, l2, l3⟩ := loadAt_run (P := P) h hv hr he
          exact ⟨by simp [trV, Builtin.firstCells, l1], l2⟩
        · cases he
  case string s =>
    simp only [firsts] at he
    split at he
    · cases he
      obtain ⟨s1, s2⟩ := strCells s n ρ S
      refine ⟨by simp only [trV, Builtin.firstCells, s1, Sem.run_pure], s2⟩
    · cases he

theorem elems_firsts {esz : Nat} {x : Value} {n : Nat} {xs : List Value} (he : elems H esz x = some (n, xs)) (hv : okV S x) : lenv x = some n ∧ firsts H esz n x = some xs := by
  cases x <;> try (simp [elems] at he; done)
  case slice a l c =>
    cases a with
    | none => simp [elems] at he; simp only [okV] at hv; simp [lenv, firsts, he.1, he.2, hv.1]
    | some a =>
      obtain ⟨rfl, h2⟩ := elems_sl he
      rcases h2 with ⟨rfl, rfl⟩ | ⟨hn, r, hr, hc⟩
      · simp [lenv, firsts]
      · simp [lenv, firsts, hr, hc]; omega
  case string s =>
    simp only [elems] at he
    split at he
    · rename_i h1
      cases he
      refine ⟨rfl, ?_⟩
      simp only [firsts, h1, if_true]
      congr 1
      rw [List.take_of_length_le]
      simp
    · cases he

theorem lenOf_run {x : Value} {n : Nat} (h : lenv x = some n) (ρ : Place) (w : World) : (Builtin.lenOf (trV ρ x)).run P w = .ok n w := by
  cases x <;> simp [lenv] at h
  case slice a l c => cases a <;> simp [trV, Builtin.lenOf, h]
  case string s => simp [trV, Builtin.lenOf, h]

theorem sim_cpy {c : Call} {t u e : TypeId} {esz : Nat} {d s : Operand} (hop : o.op = .call c) (hc : c.callee = .builtin .copy) (ht : c.argTypes.toList = [t, u]) (hx : c.args.toList = [d, s]) (h : HRel base ng S ρ H w)
    (hk : slO P t = some e) (hsz : szO P e = some esz) (hvd : okV S (ev f d)) (hvs : okV S (ev f s)) (he : iop (.cpy esz d s) f H = some (v, H')) :
    Sim P base ng S ρ H w (execOp (fun x => trV ρ (ev f x)) o) v H' := by
  obtain ⟨cs, hcs⟩ := exec_builtin (P := P) hop hc (fun x => trV ρ (ev f x))
  have hex : ∀ w, (execOp (fun x => trV ρ (ev f x)) o).run P w = ((Builtin.copy_ #[t, u] o.type #[trV ρ (ev f d), trV ρ (ev f s)]).run P w).andThen fun a w' => .ok (.value a) w' := by
    intro w; rw [hcs, at2 ht, at2 hx]; simp [builtin]
  simp only [iop] at he
  split at he
  · rename_i _ _ m hd hm
    simp only [Option.some.injEq, Prod.mk.injEq] at he
    obtain ⟨rfl, rfl⟩ := he
    rw [hd] at hvd; simp only [okV] at hvd
    refine Sim.same h ?_ (by simp [okV])
    rw [hex]
    have hfc : (Builtin.firstCells esz 0 (trV ρ (ev f s))).run P w = .ok #[] w := by
      cases hs : ev f s <;> simp [hs, lenv] at hm
      case slice a l c => cases a <;> simp [trV, Builtin.firstCells, loadCells, loadCellsFrom]
      case string b => simp [trV, Builtin.firstCells]
    simp [hd, trV, Builtin.copy_, und (slO_some hk), lenOf_run hm, szr hsz, hvd.1, goInt, hfc]
  · rename_i a n _ m hd hm
    rw [hd] at hvd; simp only [okV] at hvd
    split at he
    · rename_i xs hxs
      obtain ⟨f1, f2⟩ := firstCells_run (P := P) h hvs hxs
      split at he
      · rename_i h0
        simp only [Option.some.injEq, Prod.mk.injEq] at he
        obtain ⟨rfl, rfl⟩ := he
        refine Sim.same h ?_ (by simp [okV])
        rw [hex]
        have h0' : Nat.min m n = 0 := h0
        have hfc : (Builtin.firstCells esz 0 (trV ρ (ev f s))).run P w = .ok #[] w := by
          cases hs : ev f s <;> simp [hs, lenv] at hm
          case slice a l c => cases a <;> simp [trV, Builtin.firstCells, loadCells, loadCellsFrom]
          case string b => simp [trV, Builtin.firstCells]
        simp [hd, trV, Builtin.copy_, und (slO_some hk), lenOf_run hm, szr hsz, goInt, h0', hfc, storeCells]
      · split at he
        · rename_i h0 cc lo hw
          split at he
          · rename_i hle
            simp only [Option.some.injEq, Prod.mk.injEq] at he
            obtain ⟨rfl, rfl⟩ := he
            obtain ⟨w', w1, w2, w3⟩ := write_run (P := P) h hvd.1 (wrow_some hw) (k0 := a.off) (xs := xs) (by omega) f2
            refine Sim.mk (by simp) (n := .value (.int .i64 (min m n : Nat))) ?_ (.inl (by simp [trV])) w2 w3 (by simp [okV])
            rw [hex]
            have f1' : (Builtin.firstCells esz (Nat.min m n) (trV ρ (ev f s))).run P w = .ok (xs.map (trV ρ)).toArray w := f1
            have hmin : Nat.min m n = min m n := rfl
            simp [hd, trV, Builtin.copy_, und (slO_some hk), lenOf_run hm, szr hsz, goInt, f1', trA_at hvd.2, w1, hmin]
          · cases he
        · cases he
    · cases he
  · cases he

theorem sim_clr {c : Call} {t e : TypeId} {z : List Value} {x : Operand} (hop : o.op = .call c) (hc : c.callee = .builtin .clear) (ht : c.argTypes.toList = [t]) (hx : c.args.toList = [x]) (h : HRel base ng S ρ H w)
    (hk : slO P t = some e) (hz : zcO P e = some z) (hv : okV S (ev f x)) (he : iop (.clr z x) f H = some (v, H')) :
    Sim P base ng S ρ H w (execOp (fun x => trV ρ (ev f x)) o) v H' := by
  obtain ⟨cs, hcs⟩ := exec_builtin (P := P) hop hc (fun x => trV ρ (ev f x))
  have hex : ∀ w, (execOp (fun x => trV ρ (ev f x)) o).run P w = ((Builtin.clear_ #[t] o.type #[trV ρ (ev f x)]).run P w).andThen fun a w' => .ok (.value a) w' := by
    intro w; rw [hcs, at0 ht, at0 hx]; simp [builtin]
  obtain ⟨zv, hzv, z1, z2, rfl⟩ := zcO_some hz
  obtain ⟨z3, z4⟩ := flatZ z1 z2 ρ S
  simp only [iop] at he
  split at he
  · rename_i l c' hd
    simp only [Option.some.injEq, Prod.mk.injEq] at he
    obtain ⟨rfl, rfl⟩ := he
    refine Sim.same h ?_ (by simp [okV])
    rw [hex]
    simp [hd, trV, Builtin.clear_, und (slO_some hk)]
  · rename_i a n c' hd
    rw [hd] at hv; simp only [okV] at hv
    split at he
    · rename_i h0
      subst h0
      simp only [Option.some.injEq, Prod.mk.injEq] at he
      obtain ⟨rfl, rfl⟩ := he
      refine Sim.same h ?_ (by simp [okV])
      rw [hex]
      simp [hd, trV, Builtin.clear_, und (slO_some hk)]
    · rename_i h0
      split at he
      · rename_i cc lo hw
        split at he
        · rename_i hle
          simp only [Option.some.injEq, Prod.mk.injEq] at he
          obtain ⟨rfl, rfl⟩ := he
          obtain ⟨w', w1, w2, w3⟩ := write_run (P := P) h hv.1 (wrow_some hw) (k0 := a.off) (xs := (List.replicate n zv.cells.toList).flatten) (by simpa using hle) (fun y hy => z4 y (flat_rep _ _ y hy))
          refine Sim.mk (by simp) (n := .value (.tuple #[])) ?_ (.inl (by simp [trV])) w2 w3 (by simp [okV])
          rw [hex]
          have hzc : (Builtin.zeroCells zv.cells n).toList = (List.replicate n zv.cells.toList).flatten.map (trV ρ) := by
            rw [List.map_flatten, List.map_replicate, z3]
            have := zero_cells zv.cells n zv.cells.size rfl
            unfold Builtin.zeroCells
            rw [this]
          obtain ⟨n', rfl⟩ : ∃ m, n = m + 1 := ⟨n - 1, by omega⟩
          generalize List.map (trV ρ) (List.replicate (n' + 1) zv.cells.toList).flatten = L at *
          simp only [hd, trV, Builtin.clear_]
          simp [und (slO_some hk), zvr hzv, hzc, trA_at hv.2, w1]
        · cases he
      · cases he
  · cases he

end Go.IM

set_option linter.unusedSimpArgs false
namespace Go.IM
open Go Go.RowKit
set_option linter.unusedVariables false

variable {P : Program} {base ng : Nat} {S : Nat → Prop} {ρ : Place} {H H' : Heap} {w w1 : World} {f : Fr} {o : Oper} {v : Value}

theorem freeze_other (w : World) (a : Addr) (n b : Nat) (h : b ≠ a.block) : (w.freeze a n).heap[b]? = w.heap[b]? := by
  unfold World.freeze
  split
  · rfl
  · simp only [Array.getElem?_modify]
    rw [if_neg (Ne.symm h)]

theorem freeze_same (w : World) (b o : Nat) (rc : Array Value) (ty : TypeId) (lo hi : Nat) (h : w.heap[b]? = some (.cells rc ty (lo, hi))) :
    (w.freeze ⟨b, o, none⟩ 1).heap[b]? = some (.cells rc ty (if lo == hi then (o, o + 1) else (min lo o, max hi (o + 1)))) := by
  unfold World.freeze
  rw [if_neg (by omega)]
  simp only [Array.getElem?_modify, if_true, h]
  rfl

theorem freeze_size (w : World) (a : Addr) (n : Nat) : (w.freeze a n).heap.size = w.heap.size := by
  unfold World.freeze; split <;> simp

theorem freeze_env (w : World) (a : Addr) (n : Nat) : (w.freeze a n).os = w.os ∧ (w.freeze a n).tape = w.tape ∧ (w.freeze a n).output = w.output := by
  unfold World.freeze; split <;> exact ⟨rfl, rfl, rfl⟩

theorem sim_s2b {s d e : TypeId} {x : Operand} {b : ByteArray} (hop : o.op = .convert s d x) (h : HRel base ng S ρ H w)
    (hs : P.underlying s = some .string) (hd : P.underlying d = some (.slice e)) (he : P.underlying e = some (.int .u8)) (hx : ev f x = .string b) :
    Sim P base ng S ρ H w (execOp (fun x => trV ρ (ev f x)) o) (.slice (some ⟨H.length, 0, none⟩) b.size 1) (H ++ [.cells (b.data.toList.map fun c => .int .u8 c.toNat) false 1]) := by
  obtain ⟨k, hk, hcut⟩ : ∃ k, b.size ≤ k ∧ Question.cut (.appendCap b.size 0 e) (w.tape w.drawn (.appendCap b.size 0 e)) = k := ⟨_, by simp [Question.cut], rfl⟩
  let el : List Value := b.data.toList.map fun c => .int .u8 c.toNat
  let rc : List Value := el ++ List.replicate (k - b.size) (.int .u8 0)
  have hel : el.length = b.size := by simp [el]
  have hrc : rc.length = k := by simp [rc, hel]; omega
  let wa := w.drew.alloc (.cells rc.toArray e)
  have hwa : wa.heap[w.heap.size]? = some (.cells rc.toArray e (0, 0)) := by
    show (w.heap.push _)[w.heap.size]? = _
    exact Array.getElem?_push_size
  let w1 := wa.freeze ⟨w.heap.size, rc.length, none⟩ 1
  have hw1 : w1.heap[w.heap.size]? = some (.cells rc.toArray e (rc.length, rc.length + 1)) := freeze_same wa w.heap.size rc.length rc.toArray e 0 0 hwa
  obtain ⟨h1, h2⟩ := h.drew.adoptNew rfl (fun _ h => h) (w1 := w1) (c := el) (rc := rc) (lo := 1) (e := 1) (by rw [freeze_size]; simp [wa]) (fun c hc => by
      rw [freeze_other _ _ _ _ (by simp at hc ⊢; omega)]
      show (w.heap.push _)[c]? = w.heap[c]?
      have hc' : c < w.heap.size := hc
      rw [Array.getElem?_push_lt hc', Array.getElem?_eq_getElem hc']) (by obtain ⟨a1, a2, a3⟩ := freeze_env wa ⟨w.heap.size, rc.length, none⟩ 1; exact ⟨a1, a2, a3⟩)
      (by simp [hrc, hel]; omega) (by simp) (fun k v hk => by
        have : w1.cell? ⟨w.drew.heap.size, k, none⟩ = rc.toArray[k]? := by
          unfold World.cell?; simp only [World.size_drew, hw1]; simp
        rw [this]; simpa using hk)
      ⟨rc.toArray, e, rc.length, rc.length + 1, by simpa using hw1, .inr (Nat.le_refl _)⟩
      (fun k v hk => by
        have hmem := List.mem_of_getElem? hk
        simp only [el, List.mem_map] at hmem
        obtain ⟨c, _, rfl⟩ := hmem
        have hlt := (List.getElem?_eq_some_iff.1 hk).1
        refine ⟨?_, by simp [okV], rfl⟩
        simp only [rc, trV_int]
        rw [List.getElem?_append_left hlt]; exact hk)
  refine ⟨_, _, .value (.slice (some ⟨w.heap.size, 0, none⟩) b.size k), ?_, .inl ?_, h1, (Ext.drew S ρ H w).trans h2, ?_⟩
  · have hws : ((w.drew.alloc (.cells rc.toArray e)).freeze ⟨w.heap.size, rc.length, none⟩ 1) = w1 := rfl
    have hcells : (b.data.map fun c => (Value.int .u8 c.toNat : Value)) ++ Array.replicate (k - b.size) (Value.int .u8 0) = rc.toArray := by
      apply Array.ext'; simp [rc, el]
    have hshape : (w.drew.alloc (.cells rc.toArray e)).shape? w.heap.size = some (e, rc.length) := by
      unfold World.shape?; rw [show (w.drew.alloc (.cells rc.toArray e)).heap[w.heap.size]? = _ from hwa]; simp
    simp only [execOp, hop, hx, trV_string, convert, Sem.run_bind, und hs, und hd, und he, Result.andThen_ok, Conv.stringToBytes, run_choose, Question.forced, Bool.false_eq_true, if_false, hcut, newRow, run_newObj, hcells,
      World.alloc_eq, World.drew_eq, markStringish, run_shape, Sem.run_pure, World.size_drew, hshape, run_freeze, hws]
  · simp [trV, trA, trCap, hrc]
  · simp only [okV]; exact ⟨okV_new _, trivial⟩

theorem bytes_ns {xs : List Value} {bs : List UInt8} (h : bytes? xs = some bs) : ∃ ns : List Int, xs = ns.map (Value.int .u8) ∧ bs = ns.map fun n => UInt8.ofNat n.toNat := by
  induction xs generalizing bs with
  | nil => simp [bytes?] at h; subst h; exact ⟨[], rfl, rfl⟩
  | cons x xs ih =>
    simp only [bytes?] at h
    split at h
    · rename_i b bs' hb hbs
      cases h
      unfold byte? at hb
      split at hb
      · rename_i n
        cases hb
        obtain ⟨ns, rfl, rfl⟩ := ih hbs
        exact ⟨n :: ns, rfl, rfl⟩
      · cases hb
    · cases h

theorem bytes_tr {xs : List Value} {bs : List UInt8} (h : bytes? xs = some bs) (ρ : Place) : xs.map (trV ρ) = xs := by
  induction xs generalizing bs with
  | nil => rfl
  | cons x xs ih =>
    simp only [bytes?] at h
    split at h
    · rename_i b bs' hb hbs
      unfold byte? at hb
      split at hb
      · simp [ih hbs, trV]
      · cases hb
    · cases h

theorem sim_b2s {s d e : TypeId} {x : Operand} {a : Option Addr} {l c n : Nat} {xs : List Value} {bs : List UInt8} (hop : o.op = .convert s d x) (h : HRel base ng S ρ H w)
    (hs : P.underlying s = some (.slice e)) (hd : P.underlying d = some .string) (he : P.underlying e = some (.int .u8)) (hx : ev f x = .slice a l c) (hv : okV S (ev f x))
    (hel : elems H 1 (.slice a l c) = some (n, xs)) (hb : bytes? xs = some bs) :
    Sim P base ng S ρ H w (execOp (fun x => trV ρ (ev f x)) o) (.string ⟨bs.toArray⟩) H := by
  rw [hx] at hv
  refine Sim.same h ?_ (by simp [okV])
  cases a with
    | none =>
      simp [elems] at hel
      obtain ⟨rfl, rfl⟩ := hel
      simp [bytes?] at hb; subst hb
      simp [execOp, hop, hx, convert, und hs, und hd, und he, trV, Conv.bytesToString]; rfl
    | some a =>
      simp only [okV] at hv
      obtain ⟨rfl, h2⟩ := elems_sl hel
      have hl : (loadCells (trA ρ a) n).run P w = .ok (xs.map (trV ρ)).toArray w := by
        rcases h2 with ⟨rfl, rfl⟩ | ⟨hn, r, hr, hc⟩
        · simp [loadCells, loadCellsFrom]
        · rw [Nat.mul_one] at hc; exact (loadAt_run (P := P) h hv hr hc).1
      rw [bytes_tr hb] at hl
      obtain ⟨ns, rfl, rfl⟩ := bytes_ns hb
      have hrun := run_bytesToString (P := P) w (trA ρ a) n (trCap ρ a c) ns hl
      rw [foldl_push_bytes] at hrun
      have hbs : (⟨ByteArray.empty.data ++ (ns.map fun n => UInt8.ofNat n.toNat).toArray⟩ : ByteArray) = ⟨(ns.map fun n => UInt8.ofNat n.toNat).toArray⟩ := by
        congr 1; apply Array.ext'; simp
      rw [hbs] at hrun
      simp only [execOp, hop, hx, trV, convert, Sem.run_bind, und hs, und hd, und he, Result.andThen_ok, hrun, Sem.run_pure]

theorem sim_mks {t e : TypeId} {esz bytes : Nat} {z : List Value} {l c : Operand} (hop : o.op = .makeSlice t l c) (h : HRel base ng S ρ H w)
    (ht : slO P t = some e) (hz : zcO P e = some z) (hn : szO P e = some esz) (hb : byO P e = some bytes) (he : iop (.mks esz bytes z l c) f H = some (v, H')) :
    Sim P base ng S ρ H w (execOp (fun x => trV ρ (ev f x)) o) v H' := by
  obtain ⟨zv, hzv, z1, z2, rfl⟩ := zcO_some hz
  obtain ⟨z3, z4⟩ := flatZ z1 z2 ρ S
  obtain ⟨i, hi1, hi2⟩ := byr (P := P) hb w
  simp only [iop] at he
  split at he
  · rename_i l' c' hl hc
    obtain ⟨kl, hl⟩ := int?_some hl
    obtain ⟨kc, hc⟩ := int?_some hc
    split at he
    · rename_i hcond
      obtain ⟨c1, c2, c3, c4, c5⟩ := hcond
      simp only [Option.some.injEq, Prod.mk.injEq] at he
      obtain ⟨rfl, rfl⟩ := he
      refine Sim.freshM h l'.toNat c'.toNat e (fun y hy => z4 y (flat_rep _ _ y hy)) ?_
      have hwl : IntKind.i64.wrap l' = l' := IntWalk.i64_in _ (by omega)
      have hwc : IntKind.i64.wrap c' = c' := IntWalk.i64_in _ (by omega)
      have hbc : ¬ ((bytes : Int) * c' > 2 ^ 48) := by
        have : (bytes : Int) * c' = c' * bytes := Int.mul_comm _ _
        omega
      simp only [execOp, hop, hl, hc, trV_int, Instr.makeSlice, Sem.run_bind, und (slO_some ht), Result.andThen_ok, asInt, asIntOf, Sem.run_pure, hi1, hi2, hwl, hwc]
      have hb1 : (decide (c' < 0) || decide ((bytes : Int) * c' > 2 ^ 48) || decide (l' < 0) || decide (l' > c')) = false := by
        simp only [Bool.or_eq_false_iff, decide_eq_false_iff_not]
        exact ⟨⟨⟨by omega, hbc⟩, by omega⟩, by omega⟩
      have hzs : zv.cells.size = esz := by simpa using c4
      have hcells : ∀ z : Array Value, (z = zv.cells ∨ c'.toNat * esz = 0) → (Array.range (c'.toNat * esz)).map (fun i => z[i % z.size]!) = ((List.replicate c'.toNat zv.cells.toList).flatten.map (trV ρ)).toArray := by
        intro z hz
        rw [List.map_flatten, List.map_replicate, z3]
        rcases hz with rfl | h0
        · exact zero_cells zv.cells c'.toNat esz hzs
        · apply Array.ext'
          rw [h0]
          rcases Nat.mul_eq_zero.1 h0 with h1 | h1
          · simp [h1]
          · have : zv.cells.toList = [] := List.length_eq_zero_iff.1 (by simpa [h1] using hzs)
            simp [this]
      rw [hb1]
      simp only [Bool.false_eq_true, if_false, Sem.run_bind, run_askRoom, Result.andThen_ok, szr hn]
      split
      · rename_i h0
        simp only [Sem.run_bind, Sem.run_pure, Result.andThen_ok, hcells #[] (.inr h0), newRow, run_newObj, World.alloc_eq]
      · simp only [Sem.run_bind, Sem.run_pure, Result.andThen_ok, zvr hzv, hcells zv.cells (.inl rfl), newRow, run_newObj, World.alloc_eq]
    · cases he
  · cases he

/-! ## Bytes that a string shares -/

theorem HRel.freeze (h : HRel base ng S ρ H w) {b : Nat} {c : List Value} {lo : Nat} (hb : S b) (hc : H[b]? = some (.cells c false lo)) :
    ∃ w', (markStringish (at_ (ρ b) 0)).run P w = .ok () w' ∧ (∀ a : Addr, a.block = (ρ b).blk → (markStringish a).run P w = .ok () w') ∧ HRel base ng S ρ H w' ∧ Ext S ρ H w S ρ H w' := by
  obtain ⟨hlow, rc, ty, lo', hi, hobj, hz⟩ := (h.cells b c false lo hb hc).wr rfl
  have hcell := h.cells b c false lo hb hc
  let w' := w.freeze ⟨(ρ b).blk, rc.size, none⟩ 1
  have hshape : w.shape? (ρ b).blk = some (ty, rc.size) := by unfold World.shape?; rw [hobj]
  have hrun : ∀ a : Addr, a.block = (ρ b).blk → (markStringish a).run P w = .ok () w' := by
    intro a ha
    simp [markStringish, ha, hshape, w']
  have hw' : w'.heap[(ρ b).blk]? = some (.cells rc ty (if lo' == hi then (rc.size, rc.size + 1) else (min lo' rc.size, max hi (rc.size + 1)))) := freeze_same w _ _ _ _ _ _ hobj
  have hsize : ∀ k, k < (ρ b).ext → (ρ b).off + k < rc.size := by
    intro k hk
    obtain ⟨v, hv⟩ := hcell.have_ k hk
    unfold World.cell? at_ at hv
    simp only [hobj, Option.isSome_none, Bool.false_eq_true, if_false] at hv
    exact (Array.getElem?_eq_some_iff.1 hv).1
  have hce : ∀ a : Addr, w'.cell? a = w.cell? a := by
    intro a
    by_cases ha : a.block = (ρ b).blk
    · unfold World.cell?; rw [ha, hw', hobj]
    · exact cell?_eq (freeze_other _ _ _ _ ha)
  obtain ⟨e1, e2, e3⟩ := freeze_env w ⟨(ρ b).blk, rc.size, none⟩ 1
  have hnew : CellsAt base S ρ b c false lo w' := by
    refine ⟨hcell.fit, hcell.esz, fun k hk => by rw [hce]; exact hcell.have_ k hk, fun k v hk => by rw [hce]; exact hcell.val k v hk, by rw [freeze_size]; exact hcell.lt, fun _ => ⟨hlow, ?_⟩⟩
    have hend : (ρ b).off + (ρ b).ext ≤ rc.size ∨ (ρ b).ext = 0 := by
      rcases Nat.eq_zero_or_pos (ρ b).ext with h0 | h0
      · exact .inr h0
      · have := hsize ((ρ b).ext - 1) (by omega); exact .inl (by omega)
    by_cases hl : lo' = hi
    · rw [if_pos (by simpa using hl)] at hw'
      exact ⟨rc, ty, _, _, hw', .inr (hend.symm)⟩
    · rw [if_neg (by simpa using hl)] at hw'
      refine ⟨rc, ty, _, _, hw', ?_⟩
      rcases hz with h1 | h1 | h1
      · exact absurd h1 hl
      · exact .inr (.inl h1)
      · rcases hend with h2 | h2
        · exact .inr (.inr (by omega))
        · exact .inr (.inl h2)
  have hset : H.set b (.cells c false lo) = H := by
    apply List.ext_getElem?
    intro j
    by_cases hj : j = b
    · subst hj; rw [List.getElem?_set_self (h.vis _ hb), hc]
    · rw [List.getElem?_set_ne (Ne.symm hj)]
  have := h.modify (w' := w') hb hc (fun j hj => freeze_other _ _ _ _ hj) (freeze_size _ _ _) ⟨e1, e2, e3⟩ hnew
  rw [hset] at this
  exact ⟨w', hrun _ rfl, hrun, this.1, this.2⟩

theorem sim_msk {s e : TypeId} {x : Operand} {a : Addr} {l k lo : Nat} {c : List Value} (hop : o.op = .convert s s x) (h : HRel base ng S ρ H w)
    (hs : P.underlying s = some (.slice e)) (he : P.underlying e = some (.int .u8)) (hx : ev f x = .slice (some a) l k) (hv : okV S (ev f x)) (hw : H.wrow a.block = some (c, lo)) :
    Sim P base ng S ρ H w (execOp (fun x => trV ρ (ev f x)) o) (.slice (some a) l k) H := by
  rw [hx] at hv
  have hv' := hv
  simp only [okV] at hv'
  obtain ⟨w', h1, h2, h3, h4⟩ := HRel.freeze (P := P) h hv'.1 (wrow_some hw)
  refine Sim.mk rfl (n := .value (trV ρ (.slice (some a) l k))) ?_ (.inl rfl) h3 h4 hv
  have := h2 (trA ρ a) rfl
  simp [execOp, hop, hx, trV, convert, und hs, und he, this]

end Go.IM

set_option linter.unusedSimpArgs false
namespace Go.IM
open Go Go.RowKit
set_option linter.unusedVariables false

variable {P : Program} {base ng : Nat} {S : Nat → Prop} {ρ : Place} {H H' : Heap} {w w1 : World} {f : Fr} {o : Oper} {v : Value}

theorem growBy_le (need : Nat) : ∀ (r c : Nat), c ≤ need → Builtin.growBy need r c ≤ 2 * need + 1000
  | 0, c, h => by simp [Builtin.growBy]; omega
  | r + 1, c, h => by
    unfold Builtin.growBy
    split
    · omega
    · by_cases h2 : c + (c + 768) / 4 ≤ need
      · exact growBy_le need r _ h2
      · have : ∀ r c', need < c' → Builtin.growBy need r c' = c' := by
          intro r c' hc
          cases r with
          | zero => rfl
          | succ r => unfold Builtin.growBy; rw [if_pos (by omega)]
        rw [this _ _ (by omega)]
        omega

theorem next_le {need cap : Nat} (h : cap < need) : Builtin.nextslicecap need cap ≤ 2 * need + 1000 := by
  unfold Builtin.nextslicecap
  split
  · omega
  · split
    · omega
    · exact growBy_le need 4 cap (by omega)

theorem info_all {e : TypeId} {esz bytes : Nat} {z : Value} (hsz : szO P e = some esz) (hb : byO P e = some bytes) (hz : zvO P e = some z) :
    ∃ i, P.info? e = some i ∧ i.size = esz ∧ i.bytes = bytes ∧ i.zero = some z := by
  cases hi : P.info? e with
  | none => simp [szO, hi] at hsz
  | some i => exact ⟨i, rfl, by simpa [szO, hi] using hsz, by simpa [byO, hi] using hb, by simpa [zvO, hi] using hz⟩

def newCapOf (w : World) (need cap : Nat) (e : TypeId) : Nat := Question.cut (.appendCap need cap e) (w.tape w.drawn (.appendCap need cap e))

theorem newCap_ge (w : World) (need cap : Nat) (e : TypeId) : need ≤ newCapOf w need cap e := by simp [newCapOf, Question.cut]

section
variable {t u e : TypeId} {i : TypeInfo} {z : Value} {n l c : Nat} {bse : Option Addr} {x : Value} {ty : TypeId} {old new : Array Value}

theorem app_room (ht : P.underlying t = some (.slice e)) (hi : P.info? e = some i) (hu : (∃ d, P.underlying u = some (.slice d)) ∨ P.underlying u = some .string)
    (hx : (Builtin.lenOf x).run P w = .ok n w) (hnew : (Builtin.firstCells i.size n x).run P w = .ok new w) (hroom : l + n ≤ c) :
    (Builtin.append_ #[t, u] ty #[.slice bse l c, x]).run P w = ((match bse with | some a => (storeCells (a.add (l * i.size)) new.toList).run P w | none => .ok () w).andThen fun _ w' => .ok (.slice bse (l + n) c) w') := by
  rcases hu with ⟨d, hu⟩ | hu <;> cases bse <;> simp [Builtin.append_, und ht, und hu, sizeOf, typeInfo, hi, hx, hnew, hroom]

theorem app_grow (ht : P.underlying t = some (.slice e)) (hi : P.info? e = some i) (hz : i.zero = some z) (hu : (∃ d, P.underlying u = some (.slice d)) ∨ P.underlying u = some .string)
    (hx : (Builtin.lenOf x).run P w = .ok n w) (hold : (Builtin.firstCells i.size l (.slice bse l c)).run P w.drew = .ok old w.drew) (hnew : (Builtin.firstCells i.size n x).run P w.drew = .ok new w.drew) (hg : ¬ l + n ≤ c)
    (hb : (l + n) * i.bytes < 1099511627776 ∧ l + n < 1099511627776 ∧ i.bytes < 1073741824) :
    (Builtin.append_ #[t, u] ty #[.slice bse l c, x]).run P w =
      .ok (.slice (some ⟨w.heap.size, 0, none⟩) (l + n) (newCapOf w (l + n) c e)) (w.drew.alloc (.cells (old ++ new ++ Builtin.zeroCells z.cells (newCapOf w (l + n) c e - (l + n))) e)) := by
  have h63 : ¬ (9223372036854775807 < ((l : Int) + (n : Int))) := by omega
  have h48 : ¬ (281474976710656 < Builtin.nextslicecap (l + n) c * i.bytes) := by
    have h1 := next_le (need := l + n) (cap := c) (by omega)
    have h2 : Builtin.nextslicecap (l + n) c * i.bytes ≤ (2 * (l + n) + 1000) * i.bytes := Nat.mul_le_mul_right _ h1
    have h3 : (2 * (l + n) + 1000) * i.bytes = 2 * ((l + n) * i.bytes) + 1000 * i.bytes := by rw [Nat.add_mul, Nat.mul_assoc]
    omega
  rcases hu with ⟨d, hu⟩ | hu <;>
    simp [Builtin.append_, und ht, und hu, sizeOf, typeInfo, hi, hx, hg, hold, hnew, zeroValue, hz, h63, h48, Question.forced, newRow, newCapOf]

/-- append(s, make([]T, n)...): the zero form. -/
theorem apz_room {k : IntKind} {m : Int} (ht : P.underlying t = some (.slice e)) (hi : P.info? e = some i) (hz : i.zero = some z) (hu : ∃ kk, P.underlying u = some (.int kk))
    (hm : 0 ≤ m ∧ m < 4611686018427387904 ∧ m * i.bytes < 1099511627776) (hn : n = m.toNat) (hnew : (if n * i.size = 0 then (#[] : Array Value) else Builtin.zeroCells z.cells n) = new) (hroom : l + n ≤ c) :
    (Builtin.append_ #[t, u] ty #[.slice bse l c, .int k m]).run P w = ((match bse with | some a => (storeCells (a.add (l * i.size)) new.toList).run P w | none => .ok () w).andThen fun _ w' => .ok (.slice bse (l + n) c) w') := by
  obtain ⟨kk, hu⟩ := hu
  have hw : IntKind.i64.wrap m = m := IntWalk.i64_in _ (by omega)
  have hneg : ¬ (m < 0) := by omega
  have hbig : ¬ (281474976710656 < m * (i.bytes : Int)) := by omega
  subst hn
  by_cases h0 : m.toNat * i.size = 0
  · simp only [h0, if_true] at hnew
    subst hnew
    cases bse <;> simp [Builtin.append_, und ht, und hu, sizeOf, typeInfo, hi, asInt, asIntOf, hw, hneg, hbig, hroom, h0, storeCells]
  · simp only [h0, if_false] at hnew
    subst hnew
    cases bse <;> simp [Builtin.append_, und ht, und hu, sizeOf, typeInfo, hi, asInt, asIntOf, hw, hneg, hbig, hroom, h0, zeroValue, hz]

theorem apz_grow {k : IntKind} {m : Int} (ht : P.underlying t = some (.slice e)) (hi : P.info? e = some i) (hz : i.zero = some z) (hu : ∃ kk, P.underlying u = some (.int kk))
    (hm : 0 ≤ m ∧ m < 4611686018427387904 ∧ m * i.bytes < 1099511627776) (hn : n = m.toNat) (hold : (Builtin.firstCells i.size l (.slice bse l c)).run P w.drew = .ok old w.drew)
    (hnew : (if n * i.size = 0 then (#[] : Array Value) else Builtin.zeroCells z.cells n) = new) (hg : ¬ l + n ≤ c)
    (hb : (l + n) * i.bytes < 1099511627776 ∧ l + n < 1099511627776 ∧ i.bytes < 1073741824) :
    (Builtin.append_ #[t, u] ty #[.slice bse l c, .int k m]).run P w =
      .ok (.slice (some ⟨w.heap.size, 0, none⟩) (l + n) (newCapOf w (l + n) c e)) (w.drew.alloc (.cells (old ++ new ++ Builtin.zeroCells z.cells (newCapOf w (l + n) c e - (l + n))) e)) := by
  obtain ⟨kk, hu⟩ := hu
  have hw : IntKind.i64.wrap m = m := IntWalk.i64_in _ (by omega)
  have hneg : ¬ (m < 0) := by omega
  have hbig : ¬ (281474976710656 < m * (i.bytes : Int)) := by omega
  have hmx : ((l : Int) + max m 0) = (l : Int) + (n : Int) := by omega
  have h63 : ¬ (9223372036854775807 < ((l : Int) + (n : Int))) := by omega
  have h48 : ¬ (281474976710656 < Builtin.nextslicecap (l + n) c * i.bytes) := by
    have h1 := next_le (need := l + n) (cap := c) (by omega)
    have h2 : Builtin.nextslicecap (l + n) c * i.bytes ≤ (2 * (l + n) + 1000) * i.bytes := Nat.mul_le_mul_right _ h1
    have h3 : (2 * (l + n) + 1000) * i.bytes = 2 * ((l + n) * i.bytes) + 1000 * i.bytes := by rw [Nat.add_mul, Nat.mul_assoc]
    omega
  subst hn
  by_cases h0 : m.toNat * i.size = 0
  · simp only [h0, if_true] at hnew
    subst hnew
    simp [Builtin.append_, und ht, und hu, sizeOf, typeInfo, hi, asInt, asIntOf, hw, hneg, hbig, hg, h0, hold, zeroValue, hz, hmx, h63, h48, Question.forced, newRow, newCapOf]
  · simp only [h0, if_false] at hnew
    subst hnew
    simp [Builtin.append_, und ht, und hu, sizeOf, typeInfo, hi, asInt, asIntOf, hw, hneg, hbig, hg, h0, hold, zeroValue, hz, hmx, h63, h48, Question.forced, newRow, newCapOf]
end

end Go.IM

set_option linter.unusedSimpArgs false
namespace Go.IM
open Go Go.RowKit
set_option linter.unusedVariables false

variable {P : Program} {base ng : Nat} {S : Nat → Prop} {ρ : Place} {H H' : Heap} {w w1 : World} {f : Fr} {o : Oper} {v : Value}

theorem own_kill {b : Nat} (h : ∀ j, wlive (H.set b .dead) j → wlive H j ∧ j ≠ b) : ∀ x, Own S ρ (H.set b .dead) x → Own S ρ H x :=
  fun _ ⟨j, hj, hl, hb⟩ => ⟨j, hj, (h j hl).1, hb⟩

theorem zeroCells_len (z : Array Value) (n : Nat) : (Builtin.zeroCells z n).size = n * z.size := by simp [Builtin.zeroCells]

/-- The new row behind an append that had to make one. -/
theorem grow_sim {H0 : Heap} (h : HRel base ng S ρ H w) (hlen0 : H.length = H0.length) (hfrom : ∀ b, Own S ρ H b → Own S ρ H0 b) {cs : List Value} {e : TypeId} {z : Value} {esz need newCap : Nat}
    (hz : z.cells.size = esz) (h0 : 0 < esz) (hcs : cs.length = need * esz) (hok : ∀ x ∈ cs, okV S x ∧ x.oneCell' = true) (hge : need ≤ newCap) :
    ∃ ρ', HRel base ng (grow S H0 (H ++ [.cells cs false esz])) ρ' (H ++ [.cells cs false esz]) (w.drew.alloc (.cells ((cs.map (trV ρ)).toArray ++ Builtin.zeroCells z.cells (newCap - need)) e)) ∧
      Ext S ρ H0 w (grow S H0 (H ++ [.cells cs false esz])) ρ' (H ++ [.cells cs false esz]) (w.drew.alloc (.cells ((cs.map (trV ρ)).toArray ++ Builtin.zeroCells z.cells (newCap - need)) e)) ∧
      ρ' H.length = ⟨w.heap.size, 0, newCap * esz, esz⟩ := by
  let rc : List Value := cs.map (trV ρ) ++ (Builtin.zeroCells z.cells (newCap - need)).toList
  have hrcl : rc.length = newCap * esz := by
    simp only [rc, List.length_append, List.length_map, hcs, Array.length_toList, zeroCells_len, hz]
    rw [← Nat.add_mul]; congr 1; omega
  have harr : (cs.map (trV ρ)).toArray ++ Builtin.zeroCells z.cells (newCap - need) = rc.toArray := by apply Array.ext'; simp [rc]
  rw [harr]
  let w1 := w.drew.alloc (.cells rc.toArray e)
  have hobj : w1.heap[w.heap.size]? = some (.cells rc.toArray e (0, 0)) := by
    show (w.heap.push _)[w.heap.size]? = _
    exact Array.getElem?_push_size
  obtain ⟨h1, h2⟩ := h.drew.adoptNew hlen0 hfrom (w1 := w1) (c := cs) (rc := rc) (lo := esz) (e := esz) (by simp [w1]) (fun c hc => by
      show (w.heap.push _)[c]? = w.heap[c]?
      have hc' : c < w.heap.size := hc
      rw [Array.getElem?_push_lt hc', Array.getElem?_eq_getElem hc']) ⟨rfl, rfl, rfl⟩
      (by rw [hrcl, hcs]; exact Nat.mul_le_mul_right _ hge) (fun _ => rfl) (fun k v hk => by
        have : w1.cell? ⟨w.drew.heap.size, k, none⟩ = rc.toArray[k]? := by
          unfold World.cell?; simp only [World.size_drew, hobj]; simp
        rw [this]; simpa using hk)
      ⟨rc.toArray, e, 0, 0, hobj, .inl rfl⟩
      (fun k v hk => by
        have hlt := (List.getElem?_eq_some_iff.1 hk).1
        refine ⟨?_, hok v (List.mem_of_getElem? hk)⟩
        simp only [rc]
        rw [List.getElem?_append_left (by simpa using hlt), List.getElem?_map, hk]; rfl)
  refine ⟨_, h1, ⟨h2.sub, h2.agree, h2.size, h2.own, h2.frame, h2.os, h2.tape, h2.output⟩, ?_⟩
  simp [hrcl]

theorem iapp_sim (h : HRel base ng S ρ H w) {s : Value} (hs : okV S s) {e : TypeId} {z : Value} {esz bytes n : Nat} {xs : List Value} (hz : z.cells.size = esz) (hbytes : bytes < 1073741824)
    (hx : ∀ x ∈ xs, okV S x ∧ x.oneCell' = true) (he : iapp esz bytes s n xs H = some (v, H')) (app : Value → Sem Value)
    (hroom : ∀ bse l c, l + n ≤ c → (app (.slice bse l c)).run P w = ((match bse with | some a => (storeCells (a.add (l * esz)) (xs.map (trV ρ))).run P w | none => .ok () w).andThen fun _ w' => .ok (.slice bse (l + n) c) w'))
    (hgrow : ∀ bse l c old, (Builtin.firstCells esz l (.slice bse l c)).run P w.drew = .ok old w.drew → ¬ l + n ≤ c → ((l + n) * bytes < 1099511627776 ∧ l + n < 1099511627776 ∧ bytes < 1073741824) →
      (app (.slice bse l c)).run P w = .ok (.slice (some ⟨w.heap.size, 0, none⟩) (l + n) (newCapOf w (l + n) c e)) (w.drew.alloc (.cells (old ++ (xs.map (trV ρ)).toArray ++ Builtin.zeroCells z.cells (newCapOf w (l + n) c e - (l + n))) e))) :
    Sim P base ng S ρ H w (do pure (Next.value (← app (trV ρ s)))) v H' := by
  have close : ∀ {ρ' w'}, (app (trV ρ s)).run P w = .ok (trV ρ' v) w' → HRel base ng (grow S H H') ρ' H' w' → Ext S ρ H w (grow S H H') ρ' H' w' → okV (grow S H H') v →
      Sim P base ng S ρ H w (do pure (Next.value (← app (trV ρ s)))) v H' := by
    intro ρ' w' h1 h2 h3 h4
    exact ⟨ρ', w', _, by simp [h1], .inl rfl, h2, h3, h4⟩
  have same : H' = H → okV S v → (app (trV ρ s)).run P w = .ok (trV ρ v) w → Sim P base ng S ρ H w (do pure (Next.value (← app (trV ρ s)))) v H' := by
    rintro rfl h1 h2
    exact Sim.pureV h h2 h1
  unfold iapp at he
  split at he
  rotate_left
  · cases he
  rename_i hlen
  obtain ⟨hlen, hpos⟩ := hlen
  split at he
  · -- nil
    rename_i l c
    simp only [okV] at hs
    obtain ⟨rfl, rfl⟩ := hs
    split at he
    · rename_i hn
      subst hn
      simp only [Option.some.injEq, Prod.mk.injEq] at he
      obtain ⟨rfl, rfl⟩ := he
      refine same rfl (by simp [okV]) ?_
      have := hroom none 0 0 (by omega)
      simpa [trV] using this
    · rename_i hn
      split at he
      · rename_i hb
        simp only [Option.some.injEq, Prod.mk.injEq] at he
        obtain ⟨rfl, rfl⟩ := he
        have hg := hgrow none 0 0 #[] (by simp [Builtin.firstCells]) (by omega) ⟨by simpa using hb.1, by simpa using hb.2, hbytes⟩
        obtain ⟨ρ', g1, g2, g3⟩ := grow_sim (e := e) (z := z) (need := n) (newCap := newCapOf w (0 + n) 0 e) h rfl (fun _ h => h) hz hpos hlen hx (by have := newCap_ge w (0 + n) 0 e; omega)
        refine close (ρ' := ρ') ?_ g1 g2 (by simp only [okV]; exact ⟨okV_new _, trivial⟩)
        simp only [trV]
        rw [hg]
        simp only [trA, g3, trCap, Nat.zero_add, Nat.one_mod, Nat.one_ne_zero, if_false, Nat.sub_zero, Nat.mul_div_cancel _ hpos]
        simp
      · cases he
  · rename_i a l c
    simp only [okV] at hs
    split at he
    · rename_i hev
      split at he
      · rename_i hle
        have htr : trV ρ (.slice (some a) l c) = .slice (some (trA ρ a)) l (c / 2) := by simp [trV, trCap, hev]
        split at he
        · rename_i hn
          subst hn
          simp only [Option.some.injEq, Prod.mk.injEq] at he
          obtain ⟨rfl, rfl⟩ := he
          have hxs : xs = [] := List.length_eq_zero_iff.1 (by omega)
          subst hxs
          refine same rfl (by simp only [okV]; exact hs) ?_
          rw [htr, hroom _ _ _ hle]
          simp [storeCells]
        · rename_i hn
          split at he
          · rename_i r lo hw
            split at he
            · rename_i hfit
              simp only [Option.some.injEq, Prod.mk.injEq] at he
              obtain ⟨rfl, rfl⟩ := he
              obtain ⟨w', w1, w2, w3⟩ := write_run (P := P) h hs.1 (wrow_some hw) (k0 := a.off + l * esz) (xs := xs) (by rw [hlen]; rw [Nat.add_mul] at hfit; omega) hx
              refine close (ρ' := ρ) (w' := w') ?_ ?_ ?_ ?_
              · rw [htr, hroom _ _ _ hle]
                simp only [trA_at hs.2, at_add, w1, Result.andThen_ok]
                simp [trV, trCap, hev, trA_at hs.2]
              · rw [grow_same (by simp)]; exact w2
              · rw [grow_same (by simp)]; exact w3
              · rw [grow_same (by simp)]; simp only [okV]; exact hs
            · cases he
          · cases he
      · rename_i hle
        split at he
        · rename_i hb
          split at he
          · rename_i _ old hel
            simp only [Option.some.injEq, Prod.mk.injEq] at he
            obtain ⟨rfl, rfl⟩ := he
            obtain ⟨el1, el2⟩ := elems_firsts hel (by simp only [okV]; exact hs)
            simp [lenv] at el1
            subst el1
            obtain ⟨f1, f2⟩ := firstCells_run (P := P) h.drew (x := .slice (some a) l c) (by simp only [okV]; exact hs) el2
            have htr : trV ρ (.slice (some a) l c) = .slice (some (trA ρ a)) l (c / 2) := by simp [trV, trCap, hev]
            rw [htr] at f1
            have hg := hgrow _ l (c / 2) _ f1 hle ⟨hb.1, hb.2, hbytes⟩
            have hol : old.length = l * esz := by
              obtain ⟨_, h2⟩ := elems_sl hel
              rcases h2 with ⟨rfl, rfl⟩ | ⟨_, r, _, hc⟩
              · simp
              · exact (cut_some hc).2.1
            obtain ⟨ρ', g1, g2, g3⟩ := grow_sim (e := e) (z := z) (need := l + n) (newCap := newCapOf w (l + n) (c / 2) e) (cs := old ++ xs) h rfl (fun _ h => h) hz hpos (by rw [List.length_append, hol, hlen, Nat.add_mul])
              (fun x hx' => by simp only [List.mem_append] at hx'; rcases hx' with hx' | hx'; exact f2 x hx'; exact hx x hx') (newCap_ge _ _ _ _)
            refine close (ρ' := ρ') ?_ g1 g2 (by simp only [okV]; exact ⟨okV_new _, trivial⟩)
            rw [htr, hg]
            simp only [trV, trA, g3, trCap, Nat.one_mod, Nat.one_ne_zero, if_false, Nat.sub_zero, Nat.mul_div_cancel _ hpos]
            simp
          · cases he
        · cases he
    · rename_i hod
      split at he
      · rename_i r e' hw
        split at he
        · rename_i hee
          subst hee
          split at he
          · rename_i old hcut
            have hc := wrow_some hw
            have hcell := h.cells _ _ _ _ hs.1 hc
            obtain ⟨k1, k2, k3⟩ := cut_some hcut
            have hesz : (ρ a.block).esz = e' := hcell.esz (by omega)
            have hfit := hcell.fit
            have htr : trV ρ (.slice (some a) l c) = .slice (some (trA ρ a)) l (((ρ a.block).ext - a.off) / e') := by simp [trV, trCap, hod, hesz]
            have hlc : l ≤ ((ρ a.block).ext - a.off) / e' := (Nat.le_div_iff_mul_le hpos).2 (by omega)
            split at he
            · rename_i hn
              subst hn
              simp only [Option.some.injEq, Prod.mk.injEq] at he
              obtain ⟨rfl, rfl⟩ := he
              have hxs : xs = [] := List.length_eq_zero_iff.1 (by omega)
              subst hxs
              refine same rfl (by simp only [okV]; exact hs) ?_
              rw [htr, hroom _ _ _ (by omega)]
              simp [storeCells, trV, trCap, hesz]
            · rename_i hn
              split at he
              · rename_i hb
                simp only [Option.some.injEq, Prod.mk.injEq] at he
                obtain ⟨rfl, rfl⟩ := he
                obtain ⟨q1, q2, q3⟩ := h.kill a.block
                have hwi : wlive H a.block := .inl ⟨r, e', hc⟩
                have hold := loadAt_run (P := P) h hs (Heap.row_of_get hc) hcut
                have hoks : ∀ x ∈ old ++ xs, okV S x ∧ x.oneCell' = true := by
                  intro x hx'; simp only [List.mem_append] at hx'; rcases hx' with hx' | hx'
                  · exact hold.2.1 x hx'
                  · exact hx x hx'
                have hlens : (old ++ xs).length = (l + n) * e' := by rw [List.length_append, k2, hlen, Nat.add_mul]
                by_cases hin : l + n ≤ ((ρ a.block).ext - a.off) / e'
                · -- in place
                  have hin' : (l + n) * e' ≤ (ρ a.block).ext - a.off := (Nat.le_div_iff_mul_le hpos).1 hin
                  rw [Nat.add_mul] at hin'
                  obtain ⟨w', s1, s2⟩ := run_storeAt (P := P) (ρ a.block) (a.off + l * e') (xs.map (trV ρ)) 0 w
                    (fun k hk => hcell.have_ _ (by simp at hk; omega))
                    (fun k hk => (hcell.wr rfl).2.frozen (by simp at hk; omega))
                    (fun x hx' => by
                      simp only [List.mem_map] at hx'
                      obtain ⟨y, hy, rfl⟩ := hx'
                      simpa using (hx y hy).2)
                  rw [Nat.add_zero] at s2
                  obtain ⟨g1, g2⟩ := q1.adopt (w' := w') (H0 := H) (c := old ++ xs) (lo := e') (r := ⟨(ρ a.block).blk, (ρ a.block).off + a.off, (ρ a.block).ext - a.off, e'⟩) (by simp) (own_kill q2)
                    (fun j hj hl => by
                      obtain ⟨l1, l2⟩ := q3 j hl
                      exact Ne.symm (h.sep a.block j hs.1 hj (Ne.symm l2) hwi l1))
                    (fun _ => ⟨a.block, hs.1, hwi, rfl⟩) (fun b hb _ => s2.other b hb) (by rw [s2.size]; exact Nat.le_refl _) s2.env (by
                      have hnb : ∀ i, S i → upd ρ (H.set a.block .dead).length ⟨(ρ a.block).blk, (ρ a.block).off + a.off, (ρ a.block).ext - a.off, e'⟩ i = ρ i :=
                        fun i hi => upd_ne _ _ (by have := h.vis i hi; simp; omega)
                      have hat : ∀ k, at_ (⟨(ρ a.block).blk, (ρ a.block).off + a.off, (ρ a.block).ext - a.off, e'⟩ : RB) k = at_ (ρ a.block) (a.off + k) := by intro k; simp [at_, Nat.add_assoc]
                      refine ⟨?_, ?_, ?_, ?_, ?_, ?_⟩
                      · simp only [upd_same]; rw [hlens, Nat.add_mul]; exact hin'
                      · simp
                      · intro k hk
                        simp only [upd_same] at hk ⊢
                        rw [hat]
                        by_cases hr : a.off + l * e' ≤ a.off + k ∧ a.off + k < a.off + l * e' + xs.length
                        · obtain ⟨j, hj⟩ : ∃ j, a.off + k = a.off + l * e' + j := ⟨k - l * e', by omega⟩
                          rw [hj]
                          exact ⟨_, s2.new j _ (List.getElem?_eq_getElem (by simp; omega))⟩
                        · rw [s2.old _ (by simp; omega)]
                          exact hcell.have_ _ (by omega)
                      · intro k v hk
                        have hmem := hoks v (List.mem_of_getElem? hk)
                        refine ⟨?_, hmem⟩
                        simp only [upd_same]
                        rw [hat, trV_agree hnb v hmem.1]
                        by_cases hkl : k < l * e'
                        · rw [List.getElem?_append_left (by omega)] at hk
                          rw [s2.old _ (.inl (by omega))]
                          exact (hcell.val _ v (k3 k v hk)).1
                        · rw [List.getElem?_append_right (by omega)] at hk
                          have := s2.new (k - l * e') (trV ρ v) (by rw [List.getElem?_map, ← k2, hk]; rfl)
                          rw [← this]; congr 2; omega
                      · simp only [upd_same]; rw [s2.size]; exact hcell.lt
                      · intro _
                        obtain ⟨b1, rc, ty, lo', hi, b2, b3⟩ := hcell.wr rfl
                        obtain ⟨rc', b4⟩ := s2.froz _ _ _ _ b2
                        simp only [upd_same]
                        refine ⟨b1, rc', ty, lo', hi, b4, ?_⟩
                        rcases b3 with b3 | b3 | b3
                        · exact .inl b3
                        · exact .inr (.inl (by simp [b3]))
                        · by_cases hz0 : (ρ a.block).ext - a.off = 0
                          · exact .inr (.inl hz0)
                          · exact .inr (.inr (by simp; omega)))
                  refine close ?_ g1 g2 (by simp only [okV]; exact ⟨by rw [show H.length = (H.set a.block .dead).length by simp]; rw [show grow S H (H.set a.block .dead ++ [IObj.cells (old ++ xs) false e']) (H.set a.block .dead).length ↔ _ from Iff.rfl]; right; simp, trivial⟩)
                  rw [htr, hroom _ _ _ hin]
                  simp only [trA_at hs.2, at_add, s1, Result.andThen_ok]
                  have hlen' : H.length = (H.set a.block .dead).length := by simp
                  simp only [trV, trA, trCap]
                  rw [hlen']
                  simp [at_]
                · -- a new row
                  have f1 : (Builtin.firstCells e' l (.slice (some (trA ρ a)) l (((ρ a.block).ext - a.off) / e'))).run P w.drew = .ok (old.map (trV ρ)).toArray w.drew := by
                    have := loadAt_run (P := P) h.drew hs (Heap.row_of_get hc) hcut
                    simpa [Builtin.firstCells] using this.1
                  have hg := hgrow _ l _ _ f1 hin ⟨hb.1, hb.2, hbytes⟩
                  obtain ⟨ρ', g1, g2, g3⟩ := grow_sim (e := e) (z := z) (need := l + n) (newCap := newCapOf w (l + n) (((ρ a.block).ext - a.off) / e') e) (cs := old ++ xs) (H0 := H) q1 (by simp) (own_kill q2) hz hpos hlens hoks (newCap_ge _ _ _ _)
                  have hlen' : H.length = (H.set a.block .dead).length := by simp
                  refine close (ρ' := ρ') ?_ g1 g2 (by simp only [okV]; exact ⟨by right; simp, trivial⟩)
                  rw [htr, hg]
                  simp only [trV, trA, trCap]
                  rw [hlen', g3]
                  simp [Nat.mul_div_cancel _ hpos]
              · cases he
          · cases he
        · cases he
      · cases he
  · cases he

end Go.IM

namespace Go.IM
open Go Go.RowKit
set_option linter.unusedVariables false
set_option linter.unusedSimpArgs false

variable {P : Program} {base ng : Nat} {S : Nat → Prop} {ρ : Place} {H H' : Heap} {w w1 : World} {f : Fr} {o : Oper} {v : Value}

theorem sim_app {c : Call} {t u e : TypeId} {z : Value} {esz bytes : Nat} {s x : Operand} (hop : o.op = .call c) (hc : c.callee = .builtin .append) (ht : c.argTypes.toList = [t, u]) (hargs : c.args.toList = [s, x]) (h : HRel base ng S ρ H w)
    (hk : slO P t = some e) (hsz : szO P e = some esz) (hb : byO P e = some bytes) (hz : zvO P e = some z) (hu : (∃ d, P.underlying u = some (.slice d)) ∨ P.underlying u = some .string) (hzs : z.cells.size = esz) (hbl : bytes < 1073741824)
    (hvs : okV S (ev f s)) (hvx : okV S (ev f x)) (he : iop (.app esz bytes s x) f H = some (v, H')) :
    Sim P base ng S ρ H w (execOp (fun x => trV ρ (ev f x)) o) v H' := by
  obtain ⟨cs, hcs⟩ := exec_builtin (P := P) hop hc (fun x => trV ρ (ev f x))
  have hex : ∀ w, (execOp (fun x => trV ρ (ev f x)) o).run P w = (do pure (Next.value (← Builtin.append_ #[t, u] o.type #[trV ρ (ev f s), trV ρ (ev f x)])) : Sem Next).run P w := by
    intro w; rw [hcs, at2 ht, at2 hargs]; simp [builtin]
  simp only [iop] at he
  split at he
  · rename_i n xs hel
    obtain ⟨e1, e2⟩ := elems_firsts hel hvx
    obtain ⟨i, hi, i1, i2, i3⟩ := info_all hsz hb hz
    obtain ⟨f1, f2⟩ := firstCells_run (P := P) h hvx e2
    obtain ⟨f3, f4⟩ := firstCells_run (P := P) h.drew hvx e2
    obtain ⟨ρ', w', m, hrun, rest⟩ := iapp_sim (P := P) h hvs (e := e) hzs hbl f2 he (fun v => Builtin.append_ #[t, u] o.type #[v, trV ρ (ev f x)])
      (fun bse l c hle => by
        have := app_room (P := P) (ty := o.type) (bse := bse) (slO_some hk) hi hu (lenOf_run e1 ρ w) (by rw [i1]; exact f1) hle
        rw [this, i1] <;> cases bse <;> simp)
      (fun bse l c old hold hg hbb => by
        exact app_grow (P := P) (ty := o.type) (bse := bse) (slO_some hk) hi i3 hu (lenOf_run e1 ρ w) (by rw [i1]; exact hold) (by rw [i1]; exact f3) hg (by rw [i2]; exact hbb))
    exact ⟨ρ', w', m, by rw [hex]; exact hrun, rest⟩
  · cases he

theorem sim_apz {c : Call} {t u e : TypeId} {kk : IntKind} {z : List Value} {esz bytes : Nat} {s x : Operand} (hop : o.op = .call c) (hc : c.callee = .builtin .append) (ht : c.argTypes.toList = [t, u]) (hargs : c.args.toList = [s, x]) (h : HRel base ng S ρ H w)
    (hk : slO P t = some e) (hsz : szO P e = some esz) (hb : byO P e = some bytes) (hz : zcO P e = some z) (hu : P.underlying u = some (.int kk)) (hzs : z.length = esz) (hbl : bytes < 1073741824)
    (hvs : okV S (ev f s)) (he : iop (.apz esz bytes z s x) f H = some (v, H')) :
    Sim P base ng S ρ H w (execOp (fun x => trV ρ (ev f x)) o) v H' := by
  obtain ⟨cs, hcs⟩ := exec_builtin (P := P) hop hc (fun x => trV ρ (ev f x))
  have hex : ∀ w, (execOp (fun x => trV ρ (ev f x)) o).run P w = (do pure (Next.value (← Builtin.append_ #[t, u] o.type #[trV ρ (ev f s), trV ρ (ev f x)])) : Sem Next).run P w := by
    intro w; rw [hcs, at2 ht, at2 hargs]; simp [builtin]
  obtain ⟨zv, hzv, z1, z2, rfl⟩ := zcO_some hz
  obtain ⟨z3, z4⟩ := flatZ z1 z2 ρ S
  simp only [iop] at he
  split at he
  · rename_i m hm
    obtain ⟨km, hm⟩ := int?_some hm
    split at he
    · rename_i hc1
      obtain ⟨i, hi, i1, i2, i3⟩ := info_all hsz hb hzv
      have hzsz : zv.cells.size = esz := by simpa using hzs
      have hnew : (if m.toNat * i.size = 0 then (#[] : Array Value) else Builtin.zeroCells zv.cells m.toNat) = ((List.replicate m.toNat zv.cells.toList).flatten.map (trV ρ)).toArray := by
        rw [List.map_flatten, List.map_replicate, z3, i1]
        split
        · rename_i h0
          apply Array.ext'
          rcases Nat.mul_eq_zero.1 h0 with h1 | h1
          · simp [h1]
          · have : zv.cells.toList = [] := List.length_eq_zero_iff.1 (by simpa [h1] using hzsz)
            simp [this]
        · exact zero_cells zv.cells m.toNat zv.cells.size rfl
      obtain ⟨ρ', w', q, hrun, rest⟩ := iapp_sim (P := P) h hvs (e := e) hzsz hbl (fun y hy => z4 y (flat_rep _ _ y hy)) he (fun v => Builtin.append_ #[t, u] o.type #[v, trV ρ (ev f x)])
        (fun bse l c hle => by
          have := apz_room (P := P) (w := w) (ty := o.type) (bse := bse) (k := km) (slO_some hk) hi i3 ⟨kk, hu⟩ (by rw [i2]; exact hc1) rfl hnew hle
          rw [hm, trV_int]
          rw [this, i1] <;> cases bse <;> simp)
        (fun bse l c old hold hg hbb => by
          rw [hm, trV_int]
          exact apz_grow (P := P) (ty := o.type) (bse := bse) (k := km) (slO_some hk) hi i3 ⟨kk, hu⟩ (by rw [i2]; exact hc1) rfl (by rw [i1]; exact hold) hnew hg (by rw [i2]; exact hbb))
      exact ⟨ρ', w', q, by rw [hex]; exact hrun, rest⟩
    · cases he
  · cases he

/-! ## Slicing -/

theorem bnd_run {x : Operand} {y y' n : Nat} (h : bnd f x y = some n) (hy : y ≤ y') (ρ : Place) (code : BoundsCode) (w : World) : (Instr.sliceBound (trV ρ (ev f x)) y' code).run P w = .ok n w ∧ n ≤ y := by
  unfold bnd at h
  split at h
  · rename_i i hi
    obtain ⟨k, hi⟩ := int?_some hi
    split at h
    · rename_i hc
      cases h
      have h2 : 0 ≤ i ∧ i ≤ (y' : Int) := by omega
      refine ⟨?_, by omega⟩
      simp [Instr.sliceBound, hi, trV_int, asIntOf, h2]
    · cases h
  · cases h

theorem bnds_run {len cap cap' l h m : Nat} {lo hi mx : Option Operand} (hb : bnds f len cap lo hi mx = some (l, h, m)) (hcap : cap ≤ cap') (hlen : len ≤ cap) (hm : mx = none → True) (isSlice : Bool) (ρ : Place) (w : World) :
    (Instr.sliceBounds isSlice len cap' (lo.map fun x => trV ρ (ev f x)) (hi.map fun x => trV ρ (ev f x)) (mx.map fun x => trV ρ (ev f x))).run P w = .ok (l, h, if mx.isSome then m else cap') w ∧ l ≤ h ∧ h ≤ m ∧ (mx = none → m = cap) ∧ m ≤ cap := by
  unfold bnds at hb
  cases mx with
  | none =>
    simp only at hb
    cases hi with
    | none =>
      simp only at hb
      cases lo with
      | none =>
        simp only [Option.some.injEq, Prod.mk.injEq] at hb
        obtain ⟨rfl, rfl, rfl⟩ := hb
        exact ⟨by simp [Instr.sliceBounds], by omega, hlen, fun _ => rfl, Nat.le_refl _⟩
      | some x =>
        simp only at hb
        split at hb
        · cases hb
        · rename_i l' hl
          simp only [Option.some.injEq, Prod.mk.injEq] at hb
          obtain ⟨rfl, rfl, rfl⟩ := hb
          obtain ⟨h1, h2⟩ := bnd_run (P := P) hl (Nat.le_refl _) ρ (.sliceB) w
          exact ⟨by simp [Instr.sliceBounds, h1], h2, hlen, fun _ => rfl, Nat.le_refl _⟩
    | some y =>
      simp only at hb
      split at hb
      · cases hb
      · rename_i h' hh
        obtain ⟨a1, a2⟩ := bnd_run (P := P) hh hcap ρ (if isSlice then .sliceAcap else .sliceAlen) w
        cases lo with
        | none =>
          simp only [Option.some.injEq, Prod.mk.injEq] at hb
          obtain ⟨rfl, rfl, rfl⟩ := hb
          exact ⟨by simp [Instr.sliceBounds, a1], by omega, a2, fun _ => rfl, Nat.le_refl _⟩
        | some x =>
          simp only at hb
          split at hb
          · cases hb
          · rename_i l' hl
            simp only [Option.some.injEq, Prod.mk.injEq] at hb
            obtain ⟨rfl, rfl, rfl⟩ := hb
            obtain ⟨h1, h2⟩ := bnd_run (P := P) hl (Nat.le_refl _) ρ (.sliceB) w
            exact ⟨by simp [Instr.sliceBounds, a1, h1], h2, a2, fun _ => rfl, Nat.le_refl _⟩
  | some z =>
    simp only at hb
    split at hb
    · cases hb
    · rename_i m' hm'
      obtain ⟨c1, c2⟩ := bnd_run (P := P) hm' hcap ρ (if isSlice then .slice3Acap else .slice3Alen) w
      cases hi with
      | none => simp at hb
      | some y =>
        simp only at hb
        split at hb
        · cases hb
        · rename_i h' hh
          obtain ⟨a1, a2⟩ := bnd_run (P := P) hh (Nat.le_refl _) ρ .slice3B w
          cases lo with
          | none =>
            simp only [Option.some.injEq, Prod.mk.injEq] at hb
            obtain ⟨rfl, rfl, rfl⟩ := hb
            exact ⟨by simp [Instr.sliceBounds, a1, c1], by omega, a2, by simp, c2⟩
          | some x =>
            simp only at hb
            split at hb
            · cases hb
            · rename_i l' hl
              simp only [Option.some.injEq, Prod.mk.injEq] at hb
              obtain ⟨rfl, rfl, rfl⟩ := hb
              obtain ⟨h1, h2⟩ := bnd_run (P := P) hl (Nat.le_refl _) ρ (.slice3C) w
              exact ⟨by simp [Instr.sliceBounds, a1, c1, h1], h2, a2, by simp, c2⟩

theorem HRel.pushDead (h : HRel base ng S ρ H w) (r : RB) :
    HRel base ng (grow S H (H ++ [.dead])) (upd ρ H.length r) (H ++ [.dead]) w ∧ Ext S ρ H w (grow S H (H ++ [.dead])) (upd ρ H.length r) (H ++ [.dead]) w := by
  have hg : ∀ i, grow S H (H ++ [.dead]) i ↔ S i ∨ i = H.length := fun i => grow_push _ i
  have hne : ∀ i, S i → i ≠ H.length := fun i hi e => by have := h.vis i hi; omega
  have hag : ∀ i, S i → upd ρ H.length r i = ρ i := fun i hi => upd_ne _ _ (hne i hi)
  have hsub : ∀ i, S i → grow S H (H ++ [.dead]) i := fun i hi => (hg i).2 (.inl hi)
  have hnew : ∀ x, (H ++ [IObj.dead])[H.length]? = some x → x = .dead := by intro x hx; rw [get_push_new] at hx; cases hx; rfl
  have hwl : ∀ j, grow S H (H ++ [.dead]) j → wlive (H ++ [.dead]) j → S j ∧ wlive H j := by
    intro j hj hl
    rcases (hg j).1 hj with hj | rfl
    · refine ⟨hj, ?_⟩; unfold wlive at *; rwa [get_push_old (h.vis j hj)] at hl
    · rcases hl with ⟨c, lo, hl⟩ | ⟨es, k, hl⟩ <;> cases hnew _ hl
  have hll : ∀ j, grow S H (H ++ [.dead]) j → live (H ++ [.dead]) j → S j ∧ live H j := by
    intro j hj hl
    rcases (hg j).1 hj with hj | rfl
    · refine ⟨hj, ?_⟩; unfold live at *; rwa [get_push_old (h.vis j hj)] at hl
    · rcases hl with ⟨c, ro, lo, hl⟩ | ⟨es, k, hl⟩ <;> cases hnew _ hl
  refine ⟨⟨h.low, ?_, ?_, ?_, ?_, ?_⟩, ⟨hsub, hag, Nat.le_refl _, ?_, fun _ _ _ => rfl, rfl, rfl, rfl⟩⟩
  · intro g hg'
    obtain ⟨h1, h2, h3⟩ := h.glob g hg'
    exact ⟨hsub g h1, by rw [hag g h1]; exact h2, by rw [hag g h1]; exact h3⟩
  · intro i hi
    rcases (hg i).1 hi with hi | rfl
    · have := h.vis i hi; simp; omega
    · simp
  · intro i c ro lo hi hc
    obtain ⟨h1, _⟩ := hll i hi (.inl ⟨c, ro, lo, hc⟩)
    rw [get_push_old (h.vis i h1)] at hc
    exact (h.cells i c ro lo h1 hc).move hsub hag h1 (fun _ h => h) (Nat.le_refl _)
  · intro i es k hi hc
    obtain ⟨h1, _⟩ := hll i hi (.inr ⟨es, k, hc⟩)
    rw [get_push_old (h.vis i h1)] at hc
    exact (h.maps i es k h1 hc).move hsub hag h1 (fun _ h => h)
  · intro i j hi hj hij hl hl'
    obtain ⟨a1, a2⟩ := hwl i hi hl
    obtain ⟨b1, b2⟩ := hll j hj hl'
    rw [hag i a1, hag j b1]; exact h.sep i j a1 b1 hij a2 b2
  · rintro b hb ⟨i, hi, hl, hbi⟩
    obtain ⟨a1, a2⟩ := hwl i hi hl
    rw [hag i a1] at hbi; exact ⟨i, a1, a2, hbi⟩

theorem sim_slc {t : TypeId} {k : SlK} {x : Operand} {lo hi mx : Option Operand} (hop : o.op = .slice t x lo hi mx) (h : HRel base ng S ρ H w)
    (ht : match k with
      | .str => P.underlying t = some .string
      | .arr n esz => ∃ e, P.underlying t = some (.array n e) ∧ szO P e = some esz
      | .sl esz => ∃ e, P.underlying t = some (.slice e) ∧ szO P e = some esz)
    (hv : okV S (ev f x)) (he : islc k (ev f x) f lo hi mx H = some (v, H')) :
    Sim P base ng S ρ H w (execOp (fun x => trV ρ (ev f x)) o) v H' := by
  cases k with
  | str =>
    cases hx : ev f x <;> try (simp [islc, hx] at he; done)
    rename_i s
    simp only [islc, hx] at he
    split at he
    · cases he
    · rename_i hmx
      split at he
      · rename_i l hh m hb
        simp only [Option.some.injEq, Prod.mk.injEq] at he
        obtain ⟨rfl, rfl⟩ := he
        obtain ⟨b1, _⟩ := bnds_run (P := P) hb (Nat.le_refl _) (Nat.le_refl _) (fun _ => trivial) false ρ w
        have hmn : mx = none := by cases mx <;> simp_all
        subst hmn
        refine Sim.same h ?_ (by simp [okV])
        simp at b1
        simp [execOp, hop, hx, trV_string, Instr.sliceAt, und ht, Instr.slice, b1]
      · cases he
  | arr n esz =>
    obtain ⟨e, ht, hs⟩ := ht
    cases hx : ev f x <;> try (simp [islc, hx] at he; done)
    rename_i p
    cases p <;> try (simp [islc, hx] at he; done)
    rename_i a
    rw [hx] at hv; simp only [okV] at hv
    simp only [islc, hx] at he
    split at he
    · rename_i l hh m hb
      simp only [Option.some.injEq, Prod.mk.injEq] at he
      obtain ⟨rfl, rfl⟩ := he
      obtain ⟨b1, _, _, b2, _⟩ := bnds_run (P := P) hb (Nat.le_refl _) (Nat.le_refl _) (fun _ => trivial) false ρ w
      have hm : (if mx.isSome then m else n) = m := by
        cases mx with
        | none => simp [b2 rfl]
        | some _ => rfl
      rw [hm] at b1
      refine Sim.same h ?_ ?_
      · simp only [execOp, hop, hx, trV, Instr.sliceAt, Sem.run_bind, und ht, Result.andThen_ok, Instr.sureAddr, Sem.run_pure, b1, szr hs]
        simp only [trCap, Nat.mul_mod_right, if_true, Nat.mul_div_cancel_left _ (show 0 < 2 by omega)]
        split
        · rfl
        · rw [trA_add ρ hv.2]
      · simp only [okV]
        split
        · exact hv
        · obtain ⟨s1, s2⟩ := add_spot hv.2 (l * esz); exact ⟨by rw [s2]; exact hv.1, s1⟩
    · cases he
  | sl esz =>
    obtain ⟨e, ht, hs⟩ := ht
    cases hx : ev f x <;> try (simp [islc, hx] at he; done)
    rename_i a n c
    rw [hx] at hv
    simp only [islc, hx] at he
    split at he
    · rename_i hev
      split at he
      · cases he
      rename_i hlc
      split at he
      · rename_i l hh m hb
        simp only [Option.some.injEq, Prod.mk.injEq] at he
        obtain ⟨rfl, rfl⟩ := he
        obtain ⟨b1, _, _, b2, _⟩ := bnds_run (P := P) hb (Nat.le_refl _) (Nat.le_of_not_lt hlc) (fun _ => trivial) true ρ w
        have hm : (if mx.isSome then m else c / 2) = m := by
          cases mx with
          | none => simp [b2 rfl]
          | some _ => rfl
        rw [hm] at b1
        cases a with
        | none =>
          simp only [okV] at hv
          obtain ⟨rfl, rfl⟩ := hv
          have hm0 : m = 0 := by omega
          subst hm0
          have hh0 : hh = 0 := by omega
          subst hh0
          have hl0 : l = 0 := by omega
          subst hl0
          refine Sim.same h ?_ (by simp [okV])
          simp only [execOp, hop, hx, trV, Instr.sliceAt, Sem.run_bind, und ht, Result.andThen_ok, Instr.slice, Sem.run_pure]
          simp at b1
          simp [b1, szr hs, trV]
        | some a =>
          simp only [okV] at hv
          refine Sim.same h ?_ ?_
          · simp only [execOp, hop, hx, trV, trCap, hev, if_true, Instr.sliceAt, Sem.run_bind, und ht, Result.andThen_ok, Instr.slice, Sem.run_pure, b1, szr hs]
            split
            · simp [trV, trCap, Nat.mul_div_cancel_left]
            · simp [trV, trCap, Nat.mul_div_cancel_left, trA_add ρ hv.2]
          · split
            · simp only [okV]; exact hv
            · simp only [okV, Option.map_some]; obtain ⟨s1, s2⟩ := add_spot hv.2 (l * esz); exact ⟨by rw [s2]; exact hv.1, s1⟩
      · cases he
    · rename_i hod
      cases a with
      | none => simp at he
      | some a =>
        simp only at he
        simp only [okV] at hv
        split at he
        · rename_i r e' hw
          split at he
          · rename_i hcond
            obtain ⟨rfl, hpos, hfit⟩ := hcond
            have hcell := h.cells _ _ _ _ hv.1 (wrow_some hw)
            have hesz : (ρ a.block).esz = e' := hcell.esz (by omega)
            have hf2 := hcell.fit
            have hcapn : n ≤ ((ρ a.block).ext - a.off) / e' := (Nat.le_div_iff_mul_le hpos).2 (by omega)
            split at he
            · rename_i l hh m hb
              obtain ⟨b1, b3, b4, b2, b5⟩ := bnds_run (P := P) hb hcapn (Nat.le_refl _) (fun _ => trivial) true ρ w
              have htr : trV ρ (.slice (some a) n c) = .slice (some (trA ρ a)) n (((ρ a.block).ext - a.off) / e') := by simp [trV, trCap, hod, hesz]
              split at he
              · rename_i hmx
                simp only [Option.some.injEq, Prod.mk.injEq] at he
                obtain ⟨rfl, rfl⟩ := he
                rw [if_pos hmx] at b1
                refine Sim.same h ?_ ?_
                · simp only [execOp, hop, hx, htr, Instr.sliceAt, Sem.run_bind, und ht, Result.andThen_ok, Instr.slice, Sem.run_pure, b1, szr hs]
                  split
                  · simp [trV, trCap, Nat.mul_div_cancel_left]
                  · simp [trV, trCap, Nat.mul_div_cancel_left, trA_add ρ hv.2]
                · simp only [okV]
                  split
                  · exact hv
                  · obtain ⟨s1, s2⟩ := add_spot hv.2 (l * e'); exact ⟨by rw [s2]; exact hv.1, s1⟩
              · rename_i hmx
                have hmn : mx = none := by cases mx <;> simp_all
                subst hmn
                simp at b1
                have hex : (execOp (fun x => trV ρ (ev f x)) o).run P w = .ok (.value (.slice (if ((ρ a.block).ext - a.off) / e' = l then some (trA ρ a) else some ((trA ρ a).add (l * e'))) (hh - l) (((ρ a.block).ext - a.off) / e' - l))) w := by
                  simp only [execOp, hop, hx, htr, Instr.sliceAt, Sem.run_bind, und ht, Result.andThen_ok, Instr.slice, Sem.run_pure]
                  simp [b1, szr hs]
                split at he
                · rename_i hln
                  obtain ⟨rfl, hl0⟩ := hln
                  simp only [Option.some.injEq, Prod.mk.injEq] at he
                  obtain ⟨rfl, rfl⟩ := he
                  have hhl : hh - l = 0 := by omega
                  let real : Addr := if ((ρ a.block).ext - a.off) / e' = l then trA ρ a else (trA ρ a).add (l * e')
                  have hreal : real.spot = none := by
                    have := trA_at hv.2 ρ
                    simp only [real]
                    split
                    · rw [this]; rfl
                    · exact (add_spot (by rw [this]; rfl) _).1
                  obtain ⟨p1, p2⟩ := h.pushDead ⟨real.block, real.off, (((ρ a.block).ext - a.off) / e' - l) * e', e'⟩
                  refine ⟨_, w, _, hex, .inl ?_, p1, p2, by simp only [okV]; exact ⟨okV_new _, trivial⟩⟩
                  have haddr : real = ⟨real.block, real.off, none⟩ := by
                    cases hr : real with
                    | mk b o s => rw [hr] at hreal; simp at hreal; subst hreal; rfl
                  simp only [trV, trA, trCap, upd_same, Nat.one_mod, Nat.one_ne_zero, if_false, Nat.sub_zero, Nat.mul_div_cancel _ hpos, Nat.add_zero, hhl]
                  congr 2
                  rw [← haddr]
                  simp only [real]
                  split <;> rfl
                · rename_i hln
                  simp only [Option.some.injEq, Prod.mk.injEq] at he
                  obtain ⟨rfl, rfl⟩ := he
                  have hmn := b2 rfl
                  obtain ⟨s1, s2⟩ := add_spot hv.2 (l * e')
                  refine Sim.same h ?_ (by simp only [okV]; exact ⟨by rw [s2]; exact hv.1, s1⟩)
                  rw [hex]
                  have haddr : (if ((ρ a.block).ext - a.off) / e' = l then some (trA ρ a) else some ((trA ρ a).add (l * e'))) = some (trA ρ (a.add (l * e'))) := by
                    split
                    · rename_i hcl
                      have hl0 : l = 0 := by omega
                      subst hl0
                      simp [Addr.add]
                    · rw [trA_add ρ hv.2]
                  rw [haddr]
                  simp only [trV, trCap, Nat.one_mod, Nat.one_ne_zero, if_false, s2, hesz]
                  congr 3
                  have hoff : (a.add (l * e')).off = a.off + l * e' := by unfold Addr.add; split <;> simp_all
                  rw [hoff, ← Nat.sub_sub, Nat.mul_comm l e', Nat.sub_mul_div]
            · cases he
          · cases he
        · cases he

end Go.IM

set_option linter.unusedSimpArgs false
namespace Go.IM
open Go Go.RowKit
set_option linter.unusedVariables false

variable {P : Program} {base ng : Nat} {S : Nat → Prop} {ρ : Place} {H H' : Heap} {w w1 : World} {f : Fr} {o : Oper} {v : Value}

/-! ## Keys -/

def okKs (ks : List Leaf) (xs : List Value) : Prop := ∃ b, seqs ks xs xs = some b

theorem bytes_self (s : ByteArray) : (s == s) = true := by
  cases s with
  | mk d =>
    show (d == d) = true
    exact beq_self_eq_true d
theorem bytes_eq {a b : ByteArray} (h : (a == b) = true) : a = b := by
  cases a; cases b
  rename_i x y
  have : (x == y) = true := h
  rw [eq_of_beq this]

theorem seq1_self {l : Leaf} {x y : Value} {b : Bool} (h : seq1 l x y = some b) : seq1 l x x = some true ∧ seq1 l y y = some true := by
  cases l <;> cases x <;> cases y <;> simp [seq1] at h <;> simp [seq1, bytes_self]

theorem seqs_self {ks : List Leaf} {xs ys : List Value} {b : Bool} (h : seqs ks xs ys = some b) : seqs ks xs xs = some true ∧ seqs ks ys ys = some true := by
  induction ks generalizing xs ys b with
  | nil => cases xs <;> cases ys <;> simp [seqs] at *
  | cons k ks ih =>
    cases xs with
    | nil => simp [seqs] at h
    | cons x xs =>
      cases ys with
      | nil => simp [seqs] at h
      | cons y ys =>
        simp only [seqs] at h
        split at h
        · rename_i a c h1 h2
          obtain ⟨e1, e2⟩ := ih h2
          obtain ⟨e3, e4⟩ := seq1_self h1
          simp [seqs, e1, e2, e3, e4]
        · cases h

theorem seq1_eq {l : Leaf} {x y : Value} (h : seq1 l x y = some true) : x = y := by
  cases l <;> cases x <;> cases y <;> simp [seq1] at h
  · simp [h.1, h.2]
  · simp [h]
  · simp [bytes_eq h]

theorem seqs_eq {ks : List Leaf} {xs ys : List Value} (h : seqs ks xs ys = some true) : xs = ys := by
  induction ks generalizing xs ys with
  | nil => cases xs <;> cases ys <;> simp [seqs] at *
  | cons k ks ih =>
    cases xs with
    | nil => simp [seqs] at h
    | cons x xs =>
      cases ys with
      | nil => simp [seqs] at h
      | cons y ys =>
        simp only [seqs] at h
        split at h
        · rename_i a c h1 h2
          simp only [Option.some.injEq, Bool.and_eq_true] at h
          obtain ⟨rfl, rfl⟩ := h
          rw [ih h2, seq1_eq h1]
        · cases h

theorem keyEq_eq {kk : KeyK} {x y : Value} (h : keyEq kk x y = some true) : x = y := by
  obtain ⟨ag, ks⟩ := kk
  cases ag with
  | true =>
    cases x <;> cases y <;> simp [keyEq] at h
    have := seqs_eq h
    congr 1; exact Array.ext' this
  | false =>
    simp only [keyEq] at h
    split at h
    · exact seq1_eq h
    · cases h

theorem seq1_flat {l : Leaf} {x y : Value} {b : Bool} (h : seq1 l x y = some b) (S : Nat → Prop) : okV S x ∧ okV S y := by
  cases l <;> cases x <;> cases y <;> simp [seq1] at h <;> simp [okV]

theorem keyEq_tr {kk : KeyK} {x y : Value} {b : Bool} (h : keyEq kk x y = some b) (ρ : Place) : trV ρ x = x ∧ trV ρ y = y := by
  obtain ⟨ag, ks⟩ := kk
  cases ag with
  | true =>
    cases x <;> cases y <;> simp [keyEq] at h
    exact trV_agg_flat h ρ
  | false =>
    simp only [keyEq] at h
    split at h
    · exact seq1_tr h ρ
    · cases h

theorem keyEq_self {kk : KeyK} {x y : Value} {b : Bool} (h : keyEq kk x y = some b) : keyEq kk x x = some true ∧ keyEq kk y y = some true := by
  obtain ⟨ag, ks⟩ := kk
  cases ag with
  | true =>
    cases x <;> cases y <;> simp [keyEq] at h
    simpa [keyEq] using seqs_self h
  | false =>
    simp only [keyEq] at h ⊢
    split at h
    · exact seq1_self h
    · cases h

theorem keyOk_tr {kk : KeyK} {x : Value} (h : keyOk kk x = true) (ρ : Place) : trV ρ x = x ∧ keyEq kk x x = some true := by
  unfold keyOk at h
  cases hk : keyEq kk x x with
  | none => simp [hk] at h
  | some b => exact ⟨(keyEq_tr hk ρ).1, by rw [← (keyEq_self hk).1, hk]⟩

/-! ## What the model asks of a key -/

def CkOk (P : Program) (n : Nat) : Prop := ∀ (t : TypeId) (d : Nat) (ks : List Leaf) (dd : TypeDesc), n ≤ d → flatL P n t = some ks → P.underlying t = some dd →
  ∀ (empty : Bool) (xs : List Value) (b : Bool) (w : World), seqs ks xs xs = some b → (Instr.checkKey empty d t (vOf (agB dd) xs)).run P w = .ok () w

theorem ckFields {n : Nat} (ih : CkOk P n) (d : Nat) (hd : n ≤ d) (empty : Bool) : ∀ (fs : List Field) (off : Nat) (ks : List Leaf) (xs : List Value) (b : Bool) (w : World), flatF (flatL P n) fs off = some ks →
    seqs ks (xs.drop off) (xs.drop off) = some b →
    (forIn (m := Sem) fs PUnit.unit fun f _ => if f.name ≠ "_" then do
        let a ← part f.type xs.toArray f.offset
        Instr.checkKey empty d f.type a
        pure (ForInStep.yield PUnit.unit)
      else pure (ForInStep.yield PUnit.unit)).run P w = .ok PUnit.unit w
  | [], off, ks, xs, b, w, hf, h => by simp
  | g :: fs, off, ks, xs, b, w, hf, h => by
    simp only [flatF] at hf
    split at hf
    · rename_i hg
      cases hl : flatL P n g.type with
      | none => simp [hl] at hf
      | some m =>
        simp only [hl] at hf
        split at hf
        · cases hf
        rename_i hm
        cases hl2 : flatF (flatL P n) fs (off + m.length) with
        | none => simp [hl2] at hf
        | some l =>
          simp only [hl2, Option.some.injEq] at hf
          subst hf
          obtain ⟨dd, hdd⟩ := flatL_und hl
          have hlen := seqs_length h
          simp at hlen
          obtain ⟨b1, b2, h1, h2, rfl⟩ := seqs_append h
          rw [List.drop_drop] at h2
          obtain ⟨r1, r2, r3⟩ := flat_run (P := P) n g.type n m dd (Nat.le_refl _) hl hdd
          have p1 := run_part (P := P) hdd r1 r2 (cs := xs) (off := off) (by omega) w
          have c1 := ih g.type d m dd hd hl hdd empty _ b1 w h1
          simp only [List.forIn_cons, Sem.run_bind]
          rw [if_pos hg.1]
          simp only [hg.2, Sem.run_bind, p1, c1, Result.andThen_ok, Sem.run_pure]
          exact ckFields ih d hd empty fs (off + m.length) l xs b2 w hl2 h2
    · cases hf

theorem ckArr (m : Nat) (ks : List Leaf) (hm : ks.length = m) (d : Nat) (e : TypeId) (empty : Bool) (xs : Array Value) (w : World)
    (hse : ∀ w, (sizeOf e : Sem Nat).run P w = .ok m w)
    (hp : ∀ i b, i * m + m ≤ xs.size → seqs ks ((xs.toList.drop (i * m)).take m) ((xs.toList.drop (i * m)).take m) = some b →
      ((do let a ← part e xs (i * m); Instr.checkKey empty d e a : Sem Unit)).run P w = .ok () w) :
    ∀ (k i : Nat) (b : Bool), 0 < m → seqs (List.replicate k ks).flatten (xs.toList.drop (i * m)) (xs.toList.drop (i * m)) = some b →
      (forIn (m := Sem) (List.range' i k) PUnit.unit fun i _ => do
        let s ← sizeOf e
        let a ← part e xs (i * s)
        Instr.checkKey empty d e a
        pure (ForInStep.yield PUnit.unit)).run P w = .ok PUnit.unit w := by
  intro k
  induction k with
  | zero => intro i b hm0 h; simp
  | succ k ih =>
    intro i b hm0 h
    rw [List.replicate_succ, List.flatten_cons] at h
    have hlen := seqs_length h
    simp [hm] at hlen
    obtain ⟨b1, b2, h1, h2, rfl⟩ := seqs_append h
    rw [hm] at h1 h2
    rw [List.drop_drop] at h2
    have hr := hp i b1 (by omega) h1
    simp only [Sem.run_bind] at hr
    rw [List.range'_succ]
    simp only [List.forIn_cons, Sem.run_bind, hse, Result.andThen_ok]
    cases hq : (part e xs (i * m)).run P w with
    | halt x w1 => simp [hq, Result.andThen] at hr
    | ok a w1 =>
      simp only [hq, Result.andThen_ok] at hr ⊢
      rw [hr]
      simp only [Result.andThen_ok, Sem.run_pure]
      exact ih (i + 1) b2 hm0 (by rw [Nat.succ_mul]; exact h2)

theorem ck_run : ∀ n, CkOk P n := by
  intro n
  induction n with
  | zero => intro t d ks dd _ hf; simp [flatL] at hf
  | succ n ih =>
    intro t d ks dd hd hf hdd empty xs b w h
    have hfl := hf
    obtain ⟨d, rfl⟩ : ∃ m, d = m + 1 := ⟨d - 1, by omega⟩
    simp only [flatL, hdd] at hf
    cases hz : szO P t with
    | none => simp [hz] at hf
    | some z =>
    simp only [hz] at hf
    cases dd with
    | int kk => simp [Instr.checkKey, und hdd]
    | bool => simp [Instr.checkKey, und hdd]
    | string => simp [Instr.checkKey, und hdd]
    | struct fs =>
      dsimp only at hf
      split at hf
      · cases hf
      cases hff : flatF (flatL P n) fs.toList 0 with
      | none => simp [hff] at hf
      | some k =>
        simp only [hff] at hf
        split at hf
        · cases hf
          simp only [agB, vOf, if_true]
          simp only [Instr.checkKey, Sem.run_bind, und hdd, Result.andThen_ok]
          rw [← Array.forIn_toList]
          have := ckFields ih d (by omega) empty fs.toList 0 ks xs b w hff (by simpa using h)
          simp only [Sem.run_bind, Sem.run_pure] at this ⊢
          first
            | exact this
            | (rw [this]; rfl)
            | (simp only [this, Result.andThen_ok])
        · cases hf
    | array len e =>
      dsimp only at hf
      cases hff : flatL P n e with
      | none => simp [hff] at hf
      | some k =>
        simp only [hff] at hf
        split at hf
        · rename_i hkz
          cases hf
          obtain ⟨de, hde⟩ := flatL_und hff
          obtain ⟨r1, r2, r3⟩ := flat_run (P := P) n e n k de (Nat.le_refl _) hff hde
          simp only [agB, vOf, if_true]
          simp only [Instr.checkKey, Sem.run_bind, und hdd, Result.andThen_ok, szr r1]
          simp only [Std.Legacy.Range.forIn_eq_forIn_range', Std.Legacy.Range.size, Nat.sub_zero, Nat.add_one_sub_one, Nat.div_one]
          have hloop := ckArr (P := P) k.length k rfl d e empty xs.toArray w (fun w => szr r1 w) (fun i b h1 hs => by
            have p1 := run_part (P := P) hde r1 r2 (cs := xs) (off := i * k.length) (by simpa using h1) w
            simp only [Sem.run_bind, p1, Result.andThen_ok]
            exact ih e d k de (by omega) hff hde empty _ b w (by simpa using hs)) len 0 b (by omega) (by simpa using h)
          rw [hloop]
          rfl
        · cases hf
    | _ => simp at hf

/-! ## Finding a key -/

theorem keyEq_of {kk : KeyK} {x y : Value} {b : Bool} (h : keyEq kk x y = some b) : ∃ xs ys, x = vOf kk.ag xs ∧ y = vOf kk.ag ys ∧ seqs kk.ks xs ys = some b := by
  obtain ⟨ag, ks⟩ := kk
  cases ag with
  | true =>
    cases x <;> cases y <;> simp [keyEq] at h
    rename_i xs ys
    exact ⟨xs.toList, ys.toList, by simp [vOf], by simp [vOf], h⟩
  | false =>
    rcases ks with _ | ⟨l, _ | ⟨l2, r⟩⟩ <;> simp only [keyEq] at h <;> try (cases h; done)
    exact ⟨[x], [y], by simp [vOf], by simp [vOf], by simp [seqs, h]⟩

/-- The type's keys are of the kind. -/
def KeyFits (P : Program) (t : TypeId) (kk : KeyK) (dd : TypeDesc) : Prop := P.underlying t = some dd ∧ agB dd = kk.ag ∧ flatL P 20 t = some kk.ks

theorem keyO_fits {t : TypeId} {kk : KeyK} (h : keyO P t = some kk) : ∃ dd, KeyFits P t kk dd := by
  unfold keyO at h
  split at h
  · rename_i a ks ha hf
    cases h
    obtain ⟨dd, hdd⟩ := flatL_und hf
    refine ⟨dd, hdd, ?_, hf⟩
    unfold agO at ha
    rw [hdd] at ha
    simp only [Option.map_some, Option.some.injEq] at ha
    rw [← ha]
    cases dd <;> rfl
  · cases h

theorem key_equal {t : TypeId} {kk : KeyK} {dd : TypeDesc} (hf : KeyFits P t kk dd) {x y : Value} {b : Bool} (h : keyEq kk x y = some b) (w : World) : (Op.equal t x y).run P w = .ok b w := by
  obtain ⟨xs, ys, rfl, rfl, hs⟩ := keyEq_of h
  have key : ∀ n, n = 9999 → (Op.equalIn (n + 1) t (vOf kk.ag xs) (vOf kk.ag ys)).run P w = .ok b w := by
    intro n hn
    have := (flat_run (P := P) 20 t (n + 1) kk.ks dd (by omega) hf.2.2 hf.1).2.2 _ _ b w hs
    rwa [hf.2.1] at this
  exact key 9999 rfl

theorem key_check {t : TypeId} {kk : KeyK} {dd : TypeDesc} (hf : KeyFits P t kk dd) {x : Value} (h : keyOk kk x = true) (empty : Bool) (w : World) : (Instr.checkKey empty 10000 t x).run P w = .ok () w := by
  unfold keyOk at h
  cases hk : keyEq kk x x with
  | none => simp [hk] at h
  | some b =>
    obtain ⟨xs, ys, hx, hy, hs⟩ := keyEq_of hk
    have hs' := (seqs_self hs).1
    have key : ∀ n, n = 9999 → (Instr.checkKey empty (n + 1) t (vOf kk.ag xs)).run P w = .ok () w := by
      intro n hn
      have := ck_run (P := P) 20 t (n + 1) kk.ks dd (by omega) hf.2.2 hf.1 empty xs true w hs'
      rwa [hf.2.1] at this
    rw [hx]
    exact key 9999 rfl

theorem sameNow_eq {t : TypeId} {kk : KeyK} {dd : TypeDesc} (hf : KeyFits P t kk dd) {x y : Value} {b c : Bool} (h : keyEq kk x y = some b) (hs : Instr.sameNow dd x y = some c) : c = b := by
  obtain ⟨h1, h2, h3⟩ := hf
  have hk : kk.ag = false → kk.ks.length = 1 := fun ha => by
    obtain ⟨r1, r2, r3⟩ := flat_run (P := P) 20 t 20 kk.ks dd (Nat.le_refl _) h3 h1
    exact r2 (by rw [h2]; exact ha)
  obtain ⟨ag, ks⟩ := kk
  cases dd <;> simp only [agB] at h2 <;> (try (simp [Instr.sameNow] at hs; done)) <;> subst h2
  all_goals
    rcases ks with _ | ⟨l, _ | ⟨l2, r⟩⟩ <;> simp only [keyEq] at h <;> try (cases h; done)
    cases x <;> cases y <;> simp only [Instr.sameNow, reduceCtorEq] at hs
    all_goals
      cases l <;> simp only [seq1, reduceCtorEq] at h
      all_goals first
        | (split at hs <;> simp_all; done)
        | (simp_all; done)

def outK (es : List MapEntry) (r : Option Nat) (i : Nat) : Option (Nat × Value) := r.bind fun j => (es[j]?).map fun e => (i + j, e.val)

theorem outK_succ (e : MapEntry) (es : List MapEntry) (r : Option Nat) (i : Nat) : outK (e :: es) (r.map (· + 1)) i = outK es r (i + 1) := by
  cases r with
  | none => rfl
  | some j => simp only [outK, Option.map_some, Option.bind_some, List.getElem?_cons_succ]; congr 1; funext e; congr 1; omega

theorem find_run {t : TypeId} {kk : KeyK} {dd : TypeDesc} (hf : KeyFits P t kk dd) (ρ : Place) {k : Value} : ∀ (es : List MapEntry) (r : Option Nat) (i : Nat) (w : World), find kk es k = some r →
    (Instr.findNow dd k (es.map (trE ρ)) i = none ∨ Instr.findNow dd k (es.map (trE ρ)) i = some (outK (es.map (trE ρ)) r i)) ∧ (Instr.findAsking t k (es.map (trE ρ)) i).run P w = .ok (outK (es.map (trE ρ)) r i) w
  | [], r, i, w, h => by simp only [find] at h; cases h; simp [Instr.findNow, Instr.findAsking, outK]
  | e :: es, r, i, w, h => by
    simp only [find] at h
    split at h
    · rename_i hk
      cases h
      have hke : (trE ρ e).key = e.key := (keyEq_tr hk ρ).2
      refine ⟨?_, ?_⟩
      · simp only [List.map_cons, Instr.findNow, hke]
        cases hs : Instr.sameNow dd k e.key with
        | none => left; rfl
        | some c => rw [sameNow_eq hf hk hs]; right; simp [outK]
      · simp only [List.map_cons, Instr.findAsking, hke, Sem.run_bind, key_equal hf hk w, Result.andThen_ok, if_true, Sem.run_pure]
        simp [outK]
    · rename_i hk
      split at h
      · rename_i r' hr
        cases h
        have hke : (trE ρ e).key = e.key := (keyEq_tr hk ρ).2
        obtain ⟨h1, h2⟩ := find_run hf ρ es r' (i + 1) w hr
        refine ⟨?_, ?_⟩
        · simp only [List.map_cons, Instr.findNow, hke]
          cases hs : Instr.sameNow dd k e.key with
          | none => left; rfl
          | some c =>
            rw [sameNow_eq hf hk hs]
            simp only
            rw [outK_succ]; exact h1
        · simp only [List.map_cons, Instr.findAsking, hke, Sem.run_bind, key_equal hf hk w, Result.andThen_ok, Bool.false_eq_true, if_false]
          rw [outK_succ]; exact h2
      · cases h
    · cases h

theorem findKey_run {t : TypeId} {kk : KeyK} {dd : TypeDesc} (hf : KeyFits P t kk dd) (ρ : Place) {k : Value} {es : List MapEntry} {r : Option Nat} (h : find kk es k = some r) (w : World) :
    (Instr.findKey t k (es.map (trE ρ))).run P w = .ok (outK (es.map (trE ρ)) r 0) w := by
  obtain ⟨h1, h2⟩ := find_run hf ρ es r 0 w h
  unfold Instr.findKey
  simp only [Sem.run_bind, und hf.1, Result.andThen_ok]
  rcases h1 with h1 | h1
  · rw [h1]; exact h2
  · rw [h1]; rfl

end Go.IM

set_option linter.unusedSimpArgs false
namespace Go.IM
open Go Go.RowKit
set_option linter.unusedVariables false

variable {P : Program} {base ng : Nat} {S : Nat → Prop} {ρ : Place} {H H' : Heap} {w w1 : World} {f : Fr} {o : Oper} {v : Value}

/-! ## Maps -/

theorem mapAt_is {r : Nat} {es : List MapEntry} {k : Nat} (h : H.mapAt r = some (es, k)) : H[r]? = some (.map es k) := by
  unfold Heap.mapAt at h
  split at h
  · rename_i hh; cases h; exact hh
  · cases h

theorem run_getMap {r : Nat} {es : Array MapEntry} {k : Nat} (h : w.heap[r]? = some (.map es k)) : (getObj r).run P w = .ok (.map es k) w := by
  simp [getObj, Sem.run, h]

def putO (w : World) (r : Nat) (o : Obj) : World := { w with heap := w.heap.setIfInBounds r o }

theorem run_setMap {r : Nat} {es : Array MapEntry} {k : Nat} (h : w.heap[r]? = some (.map es k)) (o : Obj) : (setObj r o).run P w = .ok () (putO w r o) := by
  simp [setObj, Sem.run, h, putO]

theorem put_same {r : Nat} {x : Obj} (h : w.heap[r]? = some x) (o : Obj) : (putO w r o).heap[r]? = some o := by
  have := (Array.getElem?_eq_some_iff.1 h).1
  simp [putO, this]
theorem put_other {r b : Nat} (h : b ≠ r) (o : Obj) : (putO w r o).heap[b]? = w.heap[b]? := by
  simp [putO, Array.getElem?_setIfInBounds, Ne.symm h]
theorem put_size (r : Nat) (o : Obj) : (putO w r o).heap.size = w.heap.size := by simp [putO]

/-- A map's entries are written. -/
theorem Sim.putMap (h : HRel base ng S ρ H w) {r : Nat} (hr : S r) {es es' : List MapEntry} {k k' : Nat} (hc : H[r]? = some (.map es k)) (hok : ∀ e ∈ es', okV S e.key ∧ okV S e.val) {s : Sem Next} {n : Next}
    (hv : okV S v) (hn : n = .value (trV ρ v) ∨ (n = .skip ∧ v = undef)) (hs : s.run P w = .ok n (putO w (ρ r).blk (.map (es'.map (trE ρ)).toArray k'))) : Sim P base ng S ρ H w s v (H.set r (.map es' k')) := by
  have m := h.maps r es k hr hc
  have hlen : (H.set r (.map es' k')).length = H.length := by simp
  obtain ⟨h1, h2⟩ := h.modifyMap (w' := putO w (ρ r).blk (.map (es'.map (trE ρ)).toArray k')) (es := es') (k := k') hr hc (fun b hb => put_other hb _) (put_size _ _) ⟨rfl, rfl, rfl⟩ ⟨m.low, put_same m.obj _, hok⟩
  exact ⟨ρ, _, n, hs, hn, by rw [grow_same hlen]; exact h1, by rw [grow_same hlen]; exact h2, by rw [grow_same hlen]; exact hv⟩

theorem sim_mkmap (h : HRel base ng S ρ H w) {s : Sem Next} (hs : s.run P w = .ok (.value (.map (some w.heap.size))) (w.alloc (.map #[] 0))) : Sim P base ng S ρ H w s (.map (some H.length)) (H ++ [.map [] 0]) := by
  obtain ⟨h1, h2⟩ := h.adoptMap (w' := w.alloc (.map #[] 0)) (es := []) (k := 0) (r := ⟨w.heap.size, 0, 0, 0⟩) (Nat.le_refl _) (fun b hb => Below.heap_alloc _ _ _ hb) (by simp) ⟨rfl, rfl, rfl⟩
    ⟨by rw [upd_same]; exact h.low, by rw [upd_same]; show (w.heap.push (.map #[] 0))[w.heap.size]? = _; simp, by simp⟩
  refine ⟨_, _, _, hs, .inl ?_, h1, h2, ?_⟩
  · simp [trV]
  · simp only [okV]; exact .inr ⟨Nat.le_refl _, by simp⟩

theorem sim_mkm {t : TypeId} (hop : o.op = .makeMap t none) (h : HRel base ng S ρ H w) (he : iop .mkm f H = some (v, H')) : Sim P base ng S ρ H w (execOp (fun x => trV ρ (ev f x)) o) v H' := by
  simp only [iop, Option.some.injEq, Prod.mk.injEq] at he
  obtain ⟨rfl, rfl⟩ := he
  exact sim_mkmap h (by simp [execOp, hop, Instr.makeMap])

theorem sim_mkh {t : TypeId} {x : Operand} {kt e : TypeId} (hop : o.op = .makeMap t (some x)) (hu : P.underlying t = some (.map kt e)) (h : HRel base ng S ρ H w) (he : iop (.mkh x) f H = some (v, H')) : Sim P base ng S ρ H w (execOp (fun x => trV ρ (ev f x)) o) v H' := by
  simp only [iop] at he
  split at he
  · rename_i k n hx
    cases he
    exact sim_mkmap h (by simp [execOp, hop, Instr.makeMap, und hu, hx, trV, asInt, asIntOf])
  · cases he

theorem find_lt {kk : KeyK} : ∀ {es : List MapEntry} {k : Value} {i : Nat}, find kk es k = some (some i) → ∃ e, es[i]? = some e ∧ keyEq kk k e.key = some true
  | [], k, i, h => by simp [find] at h
  | e :: es, k, i, h => by
    simp only [find] at h
    split at h
    · rename_i hk; cases h; exact ⟨e, by simp, hk⟩
    · split at h
      · rename_i r hr
        cases r with
        | none => simp at h
        | some j =>
          simp only [Option.map_some, Option.some.injEq] at h
          subst h
          obtain ⟨e', h1, h2⟩ := find_lt hr
          exact ⟨e', by simpa using h1, h2⟩
      · cases h
    · cases h

theorem look_find {kk : KeyK} {es : List MapEntry} {k : Value} {r : Option Nat} (h : look kk es k = some r) : keyOk kk k = true ∧ find kk es k = some r := by
  unfold look at h
  split at h
  · rename_i hk; exact ⟨hk, h⟩
  · cases h

theorem findNil_run {t : TypeId} {kk : KeyK} {dd : TypeDesc} (hf : KeyFits P t kk dd) (k : Value) (w : World) : (Instr.findKey t k []).run P w = .ok none w := by
  simp [Instr.findKey, und hf.1, Instr.findNow]

theorem sim_lkp {t kt e : TypeId} {m k : Operand} {ok : Bool} {z : Value} {kk : KeyK} (hop : o.op = .lookup t m k ok) (hu : P.underlying t = some (.map kt e)) (hz : zvO P e = some z) (hzf : flatV z = true) (hk : keyO P kt = some kk)
    (h : HRel base ng S ρ H w) (hm : okV S (ev f m)) (he : iop (.lkp kk z ok m k) f H = some (v, H')) : Sim P base ng S ρ H w (execOp (fun x => trV ρ (ev f x)) o) v H' := by
  obtain ⟨dd, hf⟩ := keyO_fits hk
  obtain ⟨z1, z2, z3⟩ := flatV_tr hzf ρ S
  simp only [iop] at he
  split at he
  · rename_i hx
    split at he
    · rename_i hko
      cases he
      obtain ⟨k1, _⟩ := keyOk_tr hko ρ
      refine Sim.same h ?_ ?_
      · simp only [execOp, hop, hx, trV, Instr.lookup, Sem.run_bind, und hu, Result.andThen_ok, Sem.run_pure, k1, key_check hf hko, findNil_run hf, zvr hz]
        cases ok <;> simp [trV, z1, trV_bool]
      · cases ok <;> simp [okV, z2]
    · cases he
  · rename_i r hx
    rw [hx] at hm; simp only [okV] at hm
    split at he
    · rename_i es ck hmap
      have hc := mapAt_is hmap
      have mm := h.maps r es ck hm hc
      split at he
      · rename_i i hl
        obtain ⟨hko, hfi⟩ := look_find hl
        obtain ⟨k1, _⟩ := keyOk_tr hko ρ
        split at he
        · rename_i en hen
          cases he
          have hv := (mm.ok en (List.mem_of_getElem? hen)).2
          refine Sim.same h ?_ ?_
          · have hrun := findKey_run hf ρ hfi w
            have hout : outK (es.map (trE ρ)) (some i) 0 = some (i, trV ρ en.val) := by simp [outK, hen, trE]
            rw [hout] at hrun
            simp only [execOp, hop, hx, trV, Instr.lookup, Sem.run_bind, und hu, Result.andThen_ok, Sem.run_pure, k1, run_getMap mm.obj, key_check hf hko, hrun]
            cases ok <;> simp [trV, trV_bool]
          · cases ok <;> simp [okV, hv]
        · cases he
      · rename_i hl
        obtain ⟨hko, hfi⟩ := look_find hl
        obtain ⟨k1, _⟩ := keyOk_tr hko ρ
        cases he
        refine Sim.same h ?_ ?_
        · have hrun := findKey_run hf ρ hfi w
          have hout : outK (es.map (trE ρ)) none 0 = none := rfl
          rw [hout] at hrun
          simp only [execOp, hop, hx, trV, Instr.lookup, Sem.run_bind, und hu, Result.andThen_ok, Sem.run_pure, k1, run_getMap mm.obj, key_check hf hko, hrun, zvr hz]
          cases ok <;> simp [trV, z1, trV_bool]
        · cases ok <;> simp [okV, z2]
      · cases he
    · cases he
  · cases he

theorem sameBits_key {kk : KeyK} {x : Value} {b : Bool} (h : keyEq kk x x = some b) : ∀ n, 0 < n → Instr.sameBits n x x = true := by
  obtain ⟨ag, ks⟩ := kk
  have one : ∀ (l : Leaf) (y : Value) (c : Bool) (n : Nat), seq1 l y y = some c → Instr.sameBits n y y = true := by
    intro l y c n h
    cases l <;> cases y <;> simp [seq1] at h <;> simp [Instr.sameBits, bytes_self]
  intro n hn
  cases ag with
  | false =>
    simp only [keyEq] at h
    rcases ks with _ | ⟨l, _ | ⟨l2, r⟩⟩ <;> try (cases h; done)
    exact one l x b n h
  | true =>
    cases x <;> simp [keyEq] at h
    rename_i cs
    obtain ⟨m, rfl⟩ : ∃ m, n = m + 1 := ⟨n - 1, by omega⟩
    simp only [Instr.sameBits, beq_self_eq_true, Bool.true_and, List.all_eq_true]
    have : ∀ (ks : List Leaf) (xs : List Value) (b : Bool), seqs ks xs xs = some b → ∀ p ∈ xs.zip xs, Instr.sameBits m p.1 p.2 = true := by
      intro ks
      induction ks with
      | nil => intro xs b h p hp; cases xs <;> simp [seqs] at h; simp at hp
      | cons k ks ih =>
        intro xs b h p hp
        cases xs with
        | nil => simp at hp
        | cons x xs =>
          simp only [seqs] at h
          split at h
          · rename_i a c h1 h2
            simp only [List.zip_cons_cons, List.mem_cons] at hp
            rcases hp with rfl | hp
            · exact one k x a m h1
            · exact ih xs c h2 p hp
          · cases h
    intro p hp
    exact this ks cs.toList b h p hp

theorem keyStays {kk : KeyK} {x : Value} {b : Bool} (h : keyEq kk x x = some b) (w : World) : (Instr.keyThatStays x x).run P w = .ok x w := by
  have key : ∀ n, 0 < n → (if Instr.sameBits n x x = true then (pure x : Sem Value) else pure (if (0 : Nat) = 0 then x else x)).run P w = .ok x w := fun n hn => by rw [sameBits_key h n hn]; rfl
  unfold Instr.keyThatStays
  rw [if_pos (sameBits_key h 10000 (by decide))]
  rfl

theorem map_modify {es : List MapEntry} (i : Nat) (k x : Value) (hk : ∀ e, es[i]? = some e → e.key = k) (hkt : trV ρ k = k) :
    (es.map (trE ρ)).toArray.modify i (fun e => { e with key := k, val := trV ρ x }) = ((es.modify i fun e => { e with val := x }).map (trE ρ)).toArray := by
  apply Array.ext'
  simp only [Array.toList_modify]
  apply List.ext_getElem?
  intro j
  simp only [List.getElem?_modify, List.getElem?_map]
  by_cases hj : i = j
  · subst hj
    cases he : es[i]? with
    | none => simp
    | some e => have := hk e he; subst this; simp [trE, hkt]
  · simp [hj]

theorem sim_mup {t kt e : TypeId} {m k x : Operand} {kk : KeyK} (hop : o.op = .mapUpdate t m k x ∨ o.op = .insert t m k x) (hu : P.underlying t = some (.map kt e)) (hk : keyO P kt = some kk)
    (h : HRel base ng S ρ H w) (hm : okV S (ev f m)) (hkv : okV S (ev f k)) (hxv : okV S (ev f x)) (he : iop (.mup kk m k x) f H = some (v, H')) : Sim P base ng S ρ H w (execOp (fun x => trV ρ (ev f x)) o) v H' := by
  obtain ⟨dd, hf⟩ := keyO_fits hk
  have hex : ∀ w, (execOp (fun x => trV ρ (ev f x)) o).run P w = ((Instr.mapUpdate t (trV ρ (ev f m)) (trV ρ (ev f k)) (trV ρ (ev f x))).run P w).andThen fun _ w' => .ok .skip w' := by
    intro w; rcases hop with hop | hop <;> simp [execOp, hop]
  simp only [iop] at he
  split at he
  · rename_i r hx
    rw [hx] at hm; simp only [okV] at hm
    split at he
    · rename_i es ck hmap
      have hc := mapAt_is hmap
      have mm := h.maps r es ck hm hc
      split at he
      · rename_i i hl
        obtain ⟨hko, hfi⟩ := look_find hl
        obtain ⟨k1, k2⟩ := keyOk_tr hko ρ
        obtain ⟨en, hen, hke⟩ := find_lt hfi
        have hkeq := keyEq_eq hke
        cases he
        refine Sim.putMap h hm hc (fun e' he' => ?_) (okV_undef _) (.inr ⟨rfl, rfl⟩) ?_
        · rw [List.mem_iff_getElem?] at he'
          obtain ⟨j, hj⟩ := he'
          rw [List.getElem?_modify] at hj
          cases hej : es[j]? with
          | none => simp [hej] at hj
          | some e0 =>
            have h0 := mm.ok e0 (List.mem_of_getElem? hej)
            simp only [hej, Option.map_eq_map, Option.map_some, Option.some.injEq] at hj
            subst hj
            split
            · exact ⟨h0.1, hxv⟩
            · exact h0
        · have hrun := findKey_run hf ρ hfi w
          have hout : outK (es.map (trE ρ)) (some i) 0 = some (i, trV ρ en.val) := by simp [outK, hen, trE]
          rw [hout] at hrun
          have hold : (((es.map (trE ρ)).toArray[i]?).map (·.key)).getD (trV ρ (ev f k)) = ev f k := by simp [hen, trE, ← hkeq, k1]
          rw [hex]
          simp only [hx, trV, Instr.mapUpdate, Sem.run_bind, und hu, Result.andThen_ok, Sem.run_pure, k1, run_getMap mm.obj, key_check hf hko, hrun]
          simp only [k1] at hold
          simp only [hold, keyStays k2, Result.andThen_ok, run_setMap mm.obj]
          rw [map_modify i (ev f k) (ev f x) (fun e he => by rw [hen] at he; cases he; exact hkeq.symm) k1]
      · rename_i hl
        obtain ⟨hko, hfi⟩ := look_find hl
        obtain ⟨k1, k2⟩ := keyOk_tr hko ρ
        cases he
        refine Sim.putMap h hm hc (fun e' he' => ?_) (okV_undef _) (.inr ⟨rfl, rfl⟩) ?_
        · rcases List.mem_append.1 he' with he' | he'
          · exact mm.ok e' he'
          · simp only [List.mem_singleton] at he'; subst he'; exact ⟨hkv, hxv⟩
        · have hrun := findKey_run hf ρ hfi w
          have hout : outK (es.map (trE ρ)) none 0 = none := rfl
          rw [hout] at hrun
          rw [hex]
          simp only [hx, trV, Instr.mapUpdate, Sem.run_bind, und hu, Result.andThen_ok, Sem.run_pure, k1, run_getMap mm.obj, key_check hf hko, hrun, run_setMap mm.obj]
          congr 3
          simp [trE, k1]
      · cases he
    · cases he
  · cases he

theorem sim_men {t kt e : TypeId} {m k : Operand} {z : Value} {kk : KeyK} (hop : o.op = .mapEntry t m k) (hu : P.underlying t = some (.map kt e)) (hz : zvO P e = some z) (hzf : flatV z = true) (hk : keyO P kt = some kk)
    (h : HRel base ng S ρ H w) (hm : okV S (ev f m)) (hkv : okV S (ev f k)) (he : iop (.men kk z m k) f H = some (v, H')) : Sim P base ng S ρ H w (execOp (fun x => trV ρ (ev f x)) o) v H' := by
  obtain ⟨dd, hf⟩ := keyO_fits hk
  obtain ⟨z1, z2, z3⟩ := flatV_tr hzf ρ S
  simp only [iop] at he
  split at he
  · rename_i r hx
    rw [hx] at hm; simp only [okV] at hm
    split at he
    · rename_i es ck hmap
      have hc := mapAt_is hmap
      have mm := h.maps r es ck hm hc
      split at he
      · rename_i i hl
        obtain ⟨hko, hfi⟩ := look_find hl
        obtain ⟨k1, k2⟩ := keyOk_tr hko ρ
        split at he
        · rename_i en hen
          obtain ⟨en', hen', hke⟩ := find_lt hfi
          rw [hen] at hen'; cases hen'
          have hkeq := keyEq_eq hke
          cases he
          have hv := (mm.ok en (List.mem_of_getElem? hen)).2
          have hsim : Sim P base ng S ρ H w (execOp (fun x => trV ρ (ev f x)) o) (.tuple #[en.val, .int .i64 en.born]) (H.set r (.map es ck)) := by
            refine Sim.putMap h hm hc mm.ok (by simp [okV, hv]) (.inl rfl) ?_
            have hrun := findKey_run hf ρ hfi w
            have hout : outK (es.map (trE ρ)) (some i) 0 = some (i, trV ρ en.val) := by simp [outK, hen, trE]
            rw [hout] at hrun
            have hold : (((es.map (trE ρ)).toArray[i]?).map (·.key)).getD (ev f k) = ev f k := by simp [hen, trE, ← hkeq, k1]
            have hmod : (es.map (trE ρ)).toArray.modify i (fun e => { e with key := ev f k }) = (es.map (trE ρ)).toArray := by
              apply Array.ext'
              simp only [Array.toList_modify]
              apply List.ext_getElem?
              intro j
              simp only [List.getElem?_modify, List.getElem?_map]
              by_cases hj : i = j
              · subst hj; simp [hen, trE, ← hkeq, k1]
              · simp [hj]
            simp only [execOp, hop, hx, trV, Instr.mapEntry, Sem.run_bind, und hu, Result.andThen_ok, Sem.run_pure, k1, run_getMap mm.obj, key_check hf hko, hrun]
            simp only [hold, keyStays k2, Result.andThen_ok, run_setMap mm.obj, hmod]
            simp [hen, trE, goInt, trV]
          have hset : H.set r (.map es ck) = H := by
            apply List.ext_getElem?
            intro j
            rw [List.getElem?_set]
            split
            · rename_i hj; subst hj; split
              · exact hc.symm
              · rename_i hlt; rw [List.getElem?_eq_none (by omega)]
            · rfl
          rw [hset] at hsim
          exact hsim
        · cases he
      · rename_i hl
        obtain ⟨hko, hfi⟩ := look_find hl
        obtain ⟨k1, k2⟩ := keyOk_tr hko ρ
        cases he
        refine Sim.putMap h hm hc (fun e' he' => ?_) (by simp [okV, z2]) (.inl rfl) ?_
        · rcases List.mem_append.1 he' with he' | he'
          · exact mm.ok e' he'
          · simp only [List.mem_singleton] at he'; subst he'; exact ⟨hkv, z2⟩
        · have hrun := findKey_run hf ρ hfi w
          have hout : outK (es.map (trE ρ)) none 0 = none := rfl
          rw [hout] at hrun
          simp only [execOp, hop, hx, trV, Instr.mapEntry, Sem.run_bind, und hu, Result.andThen_ok, Sem.run_pure, k1, run_getMap mm.obj, key_check hf hko, hrun, zvr hz, run_setMap mm.obj]
          simp [trE, k1, z1, goInt, trV]
      · cases he
    · cases he
  · cases he

theorem findIdx_tr (es : List MapEntry) (b : Int) : (es.map (trE ρ)).toArray.findIdx? (fun e => (e.born : Int) == b) = es.findIdx? (fun e => (e.born : Int) == b) := by
  simp only [List.findIdx?_toArray, List.findIdx?_map]
  rfl

theorem sim_mes {t : TypeId} {m s x : Operand} (hop : o.op = .entryStore t m s x)
    (h : HRel base ng S ρ H w) (hm : okV S (ev f m)) (hxv : okV S (ev f x)) (he : iop (.mes m s x) f H = some (v, H')) : Sim P base ng S ρ H w (execOp (fun x => trV ρ (ev f x)) o) v H' := by
  simp only [iop] at he
  split at he
  · rename_i r kb born hx hs
    rw [hx] at hm; simp only [okV] at hm
    split at he
    · rename_i es ck hmap
      have hc := mapAt_is hmap
      have mm := h.maps r es ck hm hc
      split at he
      · rename_i i hl
        cases he
        refine Sim.putMap h hm hc (fun e' he' => ?_) (okV_undef _) (.inr ⟨rfl, rfl⟩) ?_
        · rw [List.mem_iff_getElem?] at he'
          obtain ⟨j, hj⟩ := he'
          rw [List.getElem?_modify] at hj
          cases hej : es[j]? with
          | none => simp [hej] at hj
          | some e0 =>
            have h0 := mm.ok e0 (List.mem_of_getElem? hej)
            simp only [hej, Option.map_eq_map, Option.map_some, Option.some.injEq] at hj
            subst hj
            split
            · exact ⟨h0.1, hxv⟩
            · exact h0
        · have hmod : (es.map (trE ρ)).toArray.modify i (fun e => { e with val := trV ρ (ev f x) }) = ((es.modify i fun e => { e with val := ev f x }).map (trE ρ)).toArray := by
            apply Array.ext'
            simp only [Array.toList_modify]
            apply List.ext_getElem?
            intro j
            simp only [List.getElem?_modify, List.getElem?_map]
            by_cases hj : i = j
            · subst hj
              cases he : es[i]? with
              | none => simp
              | some e => simp [trE]
            · simp [hj]
          simp only [execOp, hop, hx, hs, trV, Instr.entryStore, Sem.run_bind, Result.andThen_ok, Sem.run_pure, run_getMap mm.obj, asInt, asIntOf, findIdx_tr, hl, run_setMap mm.obj, hmod]
      · cases he
    · cases he
  · cases he

end Go.IM

namespace Go.IM
open Go Go.RowKit
set_option linter.unusedVariables false

variable {P : Program} {base ng : Nat} {S : Nat → Prop} {ρ : Place} {H H' : Heap} {w : World} {f : Fr} {o : Oper} {v : Value}

/-- Deletion from a map, and those that leave: not handled here. -/
def plainOp : IOp → Bool
  | .mdl .. | .pan .. | .call .. => false
  | _ => true

theorem okOpds_mem {xs : Array Operand} (h : ∀ x ∈ xs.toList, okV S (ev f x)) : ∀ x ∈ xs, okV S (ev f x) := fun x hx => h x (by simpa using hx)

theorem sim_call {c : Call} {i : IOp} (hop : o.op = .call c) (hc : compCall P c = some i) (hp : plainOp i = true) (h : HRel base ng S ρ H w)
    (hv : ∀ x ∈ c.args.toList, okV S (ev f x)) (he : iop i f H = some (v, H')) :
    Sim P base ng S ρ H w (execOp (fun x => trV ρ (ev f x)) o) v H' := by
  unfold compCall at hc
  split at hc
  · cases hc; simp [plainOp] at hp
  · cases hc
  · rename_i b hcb
    split at hc
    · -- len
      rename_i t x ht hx
      rw [hx] at hv
      split at hc <;> try (cases hc; done)
      · rename_i hu; cases hc; exact sim_len (k := .str) hop hcb ht hx h hu (hv _ (by simp)) he
      · rename_i n _ hu; cases hc; exact sim_len (k := .arr n) hop hcb ht hx h (Or.inl ⟨_, hu⟩) (hv _ (by simp)) he
      · rename_i a hu
        split at hc
        · rename_i n _ hu2; cases hc; exact sim_len (k := .arr n) hop hcb ht hx h (Or.inr ⟨_, _, hu, hu2⟩) (hv _ (by simp)) he
        · cases hc
      · rename_i hu; cases hc; exact sim_len (k := .sl) hop hcb ht hx h ⟨_, hu⟩ (hv _ (by simp)) he
      · rename_i hu; cases hc; exact sim_len (k := .map) hop hcb ht hx h ⟨_, _, hu⟩ (hv _ (by simp)) he
    · -- cap
      rename_i t x ht hx
      rw [hx] at hv
      split at hc
      · rename_i e hu
        cases hc
        simp only [iop] at he
        split at he
        · rename_i a l k hs
          split at he
          · rename_i hev; cases he; exact sim_cap hop hcb ht hx h hu hs hev (hv _ (by simp))
          · cases he
        · cases he
      · cases hc
    · -- append
      rename_i t u s x ht hx
      rw [hx] at hv
      split at hc
      · rename_i e hsl
        split at hc
        · rename_i n b k hn hb hu
          split at hc
          · rename_i z hz
            split at hc
            · rename_i hzn; cases hc
              exact sim_apz hop hcb ht hx h hsl hn hb hz hu hzn.1 hzn.2 (hv _ (by simp)) he
            · cases hc
          · cases hc
        · rename_i n b d hn hb hu
          split at hc
          · rename_i z hz
            split at hc
            · rename_i hzn; cases hc
              exact sim_app hop hcb ht hx h hsl hn hb hz (.inl ⟨_, hu⟩) hzn.1 hzn.2 (hv _ (by simp)) (hv _ (by simp)) he
            · cases hc
          · cases hc
        · rename_i n b hn hb hu
          split at hc
          · rename_i z hz
            split at hc
            · rename_i hzn; cases hc
              exact sim_app hop hcb ht hx h hsl hn hb hz (.inr hu) hzn.1 hzn.2 (hv _ (by simp)) (hv _ (by simp)) he
            · cases hc
          · cases hc
        · cases hc
      · cases hc
    · -- copy
      rename_i t u d s ht hx
      rw [hx] at hv
      split at hc
      · rename_i e hsl
        split at hc
        · rename_i n hn; cases hc
          exact sim_cpy hop hcb ht hx h hsl hn (hv _ (by simp)) (hv _ (by simp)) he
        · cases hc
      · cases hc
    · -- clear
      rename_i t x ht hx
      rw [hx] at hv
      split at hc
      · rename_i e hsl
        split at hc
        · rename_i z hz; cases hc
          exact sim_clr hop hcb ht hx h hsl hz (hv _ (by simp)) he
        · cases hc
      · cases hc
    · rename_i xs
      cases hc
      exact sim_mnx (mx := false) hop (by simpa using hcb) rfl h he
    · rename_i xs
      cases hc
      exact sim_mnx (mx := true) hop (by simpa using hcb) rfl h he
    · split at hc
      · simp only [Option.map_eq_some_iff] at hc
        obtain ⟨ks, _, rfl⟩ := hc
        simp [plainOp] at hp
      · cases hc
    · cases hc

theorem sim_op {i : IOp} (hc : compOp P o = some i) (hp : plainOp i = true) (h : HRel base ng S ρ H w)
    (hv : ∀ x ∈ o.op.operands.toList, okV S (ev f x)) (he : iop i f H = some (v, H')) :
    Sim P base ng S ρ H w (execOp (fun x => trV ρ (ev f x)) o) v H' := by
  unfold compOp at hc
  split at hc
  · rename_i x hop; cases hc; rw [hop] at hv; simp only [iop] at he; cases he
    exact sim_mov (.inl hop) h (hv _ (by simp [Op.operands]))
  · rename_i x hop; cases hc; rw [hop] at hv; simp only [iop] at he; cases he
    exact sim_mov (.inr hop) h (hv _ (by simp [Op.operands]))
  · rename_i c a b hop; cases hc; rw [hop] at hv; simp only [iop] at he
    split at he
    · rename_i t ht; cases he
      exact sim_pick hop h (hv _ (by simp [Op.operands])) (hv _ (by simp [Op.operands])) ht
    · cases he
  · rename_i op t x hop; cases hc; simp only [iop] at he
    split at he
    · rename_i u hu; cases he; exact sim_una hop h hu
    · cases he
  · -- binOp
    rename_i op t x y u hop
    rw [hop] at hv
    split at hc
    · cases hc; simp only [iop] at he
      split at he
      · rename_i z hz; cases he; exact sim_bin hop h hz
      · cases he
    · cases hc; simp only [iop] at he
      split at he
      · rename_i z hz; cases he; exact sim_bin hop h hz
      · cases he
    · rename_i d hd1 hd2 hd
      have key : ∀ (n : Bool), op = (if n then BinOp.neq else .eql) → compEq P t d n x y = some i → Sim P base ng S ρ H w (execOp (fun x => trV ρ (ev f x)) o) v H' := by
        intro n hn hc
        have fin : ∀ k, i = .eq k n x y → EqFits P k t d x y → Sim P base ng S ρ H w (execOp (fun x => trV ρ (ev f x)) o) v H' := by
          intro k hi hk
          subst hi
          simp only [iop] at he
          split at he
          · rename_i b hb; cases he; exact sim_eq hop hn h hd hk hb
          · cases he
        have flt : agB d = true → (if P.eqGuardType P.depth t then none else (flatL P 20 t).map fun ks => IOp.eq (.flat ks) n x y) = some i → Sim P base ng S ρ H w (execOp (fun x => trV ρ (ev f x)) o) v H' := by
          intro ha hc
          split at hc
          · cases hc
          · rename_i hg
            cases hf : flatL P 20 t with
            | none => simp [hf] at hc
            | some ks => simp [hf] at hc; exact fin (.flat ks) hc.symm ⟨ha, by simpa using hg, hf⟩
        unfold compEq at hc
        split at hc <;> try (cases hc; done)
        · exact fin .bool (by cases hc; rfl) rfl
        · exact fin .ptr (by cases hc; rfl) ⟨_, rfl⟩
        · exact fin .sli (by cases hc; rfl) ⟨_, rfl⟩
        · exact fin .map (by cases hc; rfl) ⟨_, _, rfl⟩
        · exact fin .fun_ (by cases hc; rfl) ⟨_, _, _, rfl⟩
        · split at hc
          · rename_i hnil; exact fin .ifc (by cases hc; rfl) ⟨⟨_, rfl⟩, hnil⟩
          · cases hc
        · exact flt rfl hc
        · exact flt rfl hc
      split at hc
      · exact key false rfl hc
      · exact key true rfl hc
      · cases hc
    · cases hc
  · -- convert
    rename_i s d x hop
    rw [hop] at hv
    split at hc
    · rename_i ks k hs hd; cases hc; simp only [iop] at he
      split at he
      · rename_i kx n hx; cases he; exact sim_cnv hop h hs hd hx
      · cases he
    · rename_i hs hd; cases hc
      simp only [iop] at he
      cases hx : ev f x <;> simp only [hx, islc] at he <;> try (cases he; done)
      rename_i s
      have hb : bnds f s.size s.size none none none = some (0, s.size, s.size) := rfl
      simp [hb] at he
      obtain ⟨rfl, rfl⟩ := he
      have := sim_cstr (P := P) hop h hs hd hx

      rwa [hx] at this
    · rename_i e hs hd
      split at hc
      · rename_i hu; cases hc; simp only [iop] at he
        split at he
        · rename_i b hx; cases he; exact sim_s2b hop h hs hd hu hx
        · cases he
      · cases hc
    · rename_i e hs hd
      split at hc
      · rename_i hu; cases hc; simp only [iop] at he
        split at he
        · rename_i a n c hx
          split at he
          · rename_i m xs hel
            split at he
            · rename_i bs hb; cases he; exact sim_b2s hop h hs hd hu hx (hv _ (by simp [Op.operands])) hel hb
            · cases he
          · cases he
        · cases he
      · cases hc
    · rename_i e1 e hs hd
      split at hc
      · rename_i hu
        split at hc
        · rename_i hsd; subst hsd; cases hc; simp only [iop] at he
          split at he
          · rename_i a l k hx
            split at he
            · rename_i cl hw; obtain ⟨c, lo⟩ := cl; cases he; exact sim_msk hop h hd hu hx (hv _ (by simp [Op.operands])) hw
            · cases he
          · cases he
        · cases hc
      · cases hc
    · cases hc
  · rename_i t hop
    cases hz : zcO P t with
    | none => simp [hz] at hc
    | some z => simp [hz] at hc; subst hc; simp only [iop] at he; cases he; exact sim_new hop h hz
  · rename_i t x hop
    rw [hop] at hv
    cases hz : szO P t with
    | none => simp [hz] at hc
    | some z =>
      simp [hz] at hc; subst hc; simp only [iop] at he
      split at he
      · rename_i hn; cases he; exact sim_box hop h (hv _ (by simp [Op.operands])) hn.2
      · cases he
  · -- build
    rename_i t ps hop
    rw [hop] at hv
    have hv' : ∀ p ∈ ps.toList, okV S (ev f p.2) := fun p hp => hv _ (by simp [Op.operands]; exact ⟨_, by simpa using hp⟩)
    split at hc
    · rename_i fs z ht hz
      split at hc
      · rename_i hall
        cases hq : placesS P fs.toList ps.toList with
        | none => simp [hq] at hc
        | some ps' =>
          simp [hq] at hc; subst hc; simp only [iop] at he
          split at he
          · rename_i c hcc; cases he; exact sim_bldS hop h ht hz hall hq hv' hcc
          · cases he
      · cases hc
    · rename_i l e z ht hz
      cases hn : szO P e with
      | none => simp [hn] at hc
      | some n =>
        simp [hn] at hc; subst hc; simp only [iop] at he
        split at he
        · rename_i c hcc; cases he; exact sim_bldA hop h ht hz hn hv' hcc
        · cases he
    · cases hc
  · -- buildSlice
    rename_i t len ps hop
    rw [hop] at hv
    have hv' : ∀ p ∈ ps.toList, okV S (ev f p.2) := fun p hp => hv _ (by simp [Op.operands]; exact ⟨_, by simpa using hp⟩)
    split at hc
    · rename_i e hsl
      split at hc
      · rename_i n z hn hz
        split at hc
        · rename_i hb; cases hc; simp only [iop] at he
          split at he
          · rename_i c hcc; cases he; exact sim_bsl hop h hsl hz hn hb.1 hb.2 hv' hcc
          · cases he
        · cases hc
      · cases hc
    · cases hc
  · -- load
    rename_i t a hop
    rw [hop] at hv
    split at hc
    · rename_i n ha hn; cases hc; simp only [iop] at he
      split at he
      · rename_i p hx
        split at he
        · rename_i c hr
          split at he
          · rename_i xs hcut; cases he; exact sim_ldn hop h ha hn hx (hv _ (by simp [Op.operands])) hr hcut
          · cases he
        · cases he
      · cases he
    · rename_i n ha hn; cases hc; simp only [iop] at he
      split at he
      · rename_i p hx
        split at he
        · rename_i c hr
          split at he
          · rename_i xs hcut; cases he; exact sim_ld1 hop h ha hx (hv _ (by simp [Op.operands])) hr hcut
          · cases he
        · cases he
      · cases he
    · cases hc
  · -- store
    rename_i t a x hop
    rw [hop] at hv
    cases hn : szO P t with
    | none => simp [hn] at hc
    | some n =>
      simp [hn] at hc; subst hc; simp only [iop] at he
      split at he
      · rename_i p hx
        split at he
        · rename_i c lo hr
          split at he
          · rename_i hh; cases he
            exact sim_sto hop h hn hx (hv _ (by simp [Op.operands])) (hv _ (by simp [Op.operands])) hr hh.1 hh.2.1 hh.2.2
          · cases he
        · cases he
      · cases he
  · -- nilCheck
    rename_i x hop
    rw [hop] at hv
    cases hc; simp only [iop] at he
    split at he
    · rename_i a hx; cases he
      have := sim_nckP (P := P) hop h hx (hv _ (by simp [Op.operands])); rwa [hx] at this
    · rename_i g a b hx; cases he
      have := sim_nckF (P := P) hop h hx (hv _ (by simp [Op.operands])); rwa [hx] at this
    · cases he
  · -- fieldAddr
    rename_i t x j hop
    rw [hop] at hv
    split at hc
    · rename_i fs ht
      split at hc
      · rename_i g hg
        split at hc
        · rename_i n hn
          split at hc
          · cases hc
          · rename_i hn0; cases hc; simp only [iop] at he
            split at he
            · rename_i a hx; cases he; exact sim_fad hop h ht hg hn hn0 hx (hv _ (by simp [Op.operands]))
            · cases he
        · cases hc
      · cases hc
    · cases hc
  · -- field
    rename_i t x j hop
    rw [hop] at hv
    split at hc
    · rename_i fs ht
      split at hc
      · rename_i g hg
        cases hk : szPart P g.type with
        | none => simp [hk] at hc
        | some k =>
          simp [hk] at hc; subst hc; simp only [iop] at he
          split at he
          · rename_i cs hx
            cases k with
            | some n =>
              simp only at he
              split at he
              · rename_i xs hcut; cases he
                exact sim_fld hop h ht hg hk hx (hv _ (by simp [Op.operands])) (by simp [hcut])
              · cases he
            | none =>
              simp only at he
              split at he
              · rename_i u hcut; cases he
                exact sim_fld hop h ht hg hk hx (hv _ (by simp [Op.operands])) hcut
              · cases he
          · cases he
      · cases hc
    · cases hc
  · -- indexAddr
    rename_i t x j hop
    rw [hop] at hv
    split at hc
    · rename_i len e ht
      cases hn : szO P e with
      | none => simp [hn] at hc
      | some n =>
        simp [hn] at hc; subst hc; simp only [iop] at he
        split at he
        · rename_i a jj hx hi
          split at he
          · rename_i hj; cases he; exact sim_ixa hop h ht hn hx (hv _ (by simp [Op.operands])) hi hj
          · cases he
        · cases he
    · rename_i e ht
      cases hn : szO P e with
      | none => simp [hn] at hc
      | some n =>
        simp [hn] at hc; subst hc; simp only [iop] at he
        split at he
        · rename_i a l c jj hx hi
          split at he
          · rename_i hj; cases he; exact sim_ixs hop h ht hn hx (hv _ (by simp [Op.operands])) hi hj
          · cases he
        · cases he
    · cases hc
  · -- index
    rename_i t x j hop
    rw [hop] at hv
    split at hc
    · rename_i len e ht
      split at hc
      · rename_i k n hk hn
        cases hc; simp only [iop] at he
        split at he
        · rename_i cs jj hx hi
          split at he
          · rename_i hj
            cases k with
            | some m =>
              simp only at he
              split at he
              · rename_i xs hcut; cases he
                exact sim_ixv hop h ht hk hn hx (hv _ (by simp [Op.operands])) hi hj (by simp [hcut])
              · cases he
            | none =>
              simp only at he
              split at he
              · rename_i u hcut; cases he
                exact sim_ixv hop h ht hk hn hx (hv _ (by simp [Op.operands])) hi hj hcut
              · cases he
          · cases he
        · cases he
      · cases hc
    · rename_i ht
      cases hc; simp only [iop] at he
      split at he
      · rename_i s jj hx hi
        split at he
        · rename_i hj
          split at he
          · rename_i b hb; cases he; exact sim_ixt hop h ht hx hi hj hb
          · cases he
        · cases he
      · cases he
    · cases hc
  · -- slice
    rename_i t x lo hi mx hop
    rw [hop] at hv
    have hx : okV S (ev f x) := hv _ (by simp [Op.operands])
    split at hc
    · rename_i ht; cases hc; exact sim_slc (k := .str) hop h ht hx he
    · rename_i n e ht
      cases hn : szO P e with
      | none => simp [hn] at hc
      | some k => simp [hn] at hc; subst hc; exact sim_slc (k := .arr n k) hop h ⟨_, ht, hn⟩ hx he
    · rename_i e ht
      cases hn : szO P e with
      | none => simp [hn] at hc
      | some k => simp [hn] at hc; subst hc; exact sim_slc (k := .sl k) hop h ⟨_, ht, hn⟩ hx he
    · cases hc
  · -- makeSlice
    rename_i t l c hop
    split at hc
    · rename_i e ht
      split at hc
      · rename_i n b z hn hb hz
        split at hc
        · rename_i hzn; cases hc; exact sim_mks hop h ht hz hn hb he
        · cases hc
      · cases hc
    · cases hc
  · -- makeInterface
    rename_i t x hop
    rw [hop] at hv
    split at hc
    · cases hc
    · rename_i d hd ht; cases hc; simp only [iop] at he; cases he
      exact sim_mki hop h ht (fun ms e => hd ms e) (hv _ (by simp [Op.operands]))
    · cases hc
  · -- typeAssert
    rename_i x u t ok hop
    rw [hop] at hv
    split at hc
    · cases hc
    · rename_i d hd ht
      split at hc
      · rename_i z hz
        split at hc
        · rename_i hf; cases hc
          exact sim_tas hop h ht (fun ms e => hd ms e) hz hf (hv _ (by simp [Op.operands])) he
        · cases hc
      · cases hc
    · cases hc
  · -- extract
    rename_i x j hop
    rw [hop] at hv
    cases hc; simp only [iop] at he
    split at he
    · rename_i vs hx
      split at he
      · rename_i u hu; cases he; exact sim_ext hop h hx (hv _ (by simp [Op.operands])) hu
      · cases he
    · cases he
  · -- makeFunc
    rename_i g a b hop
    rw [hop] at hv
    cases hc; simp only [iop] at he; cases he
    exact sim_fun hop h (fun x hx => hv _ (by simp [Op.operands]; exact .inl hx)) (fun x hx => hv _ (by simp [Op.operands]; exact .inr hx))
  · rename_i hop
    cases hc; exact sim_mkm hop h he
  · rename_i t x hop
    split at hc
    · rename_i kt e hu
      cases hc; exact sim_mkh hop hu h he
    · cases hc
  · rename_i t m k ok hop
    rw [hop] at hv
    split at hc
    · rename_i kt e hu
      split at hc
      · rename_i z hz
        split at hc
        · rename_i hzf
          simp only [Option.map_eq_some_iff] at hc
          obtain ⟨ks, hks, rfl⟩ := hc
          exact sim_lkp hop hu hz hzf hks h (hv _ (by simp [Op.operands])) he
        · cases hc
      · cases hc
    · cases hc
  · rename_i t m k x hop
    rw [hop] at hv
    split at hc
    · rename_i kt e hu
      simp only [Option.map_eq_some_iff] at hc
      obtain ⟨ks, hks, rfl⟩ := hc
      exact sim_mup (.inl hop) hu hks h (hv _ (by simp [Op.operands])) (hv _ (by simp [Op.operands])) (hv _ (by simp [Op.operands])) he
    · cases hc
  · rename_i t m k x hop
    rw [hop] at hv
    split at hc
    · rename_i kt e hu
      simp only [Option.map_eq_some_iff] at hc
      obtain ⟨ks, hks, rfl⟩ := hc
      exact sim_mup (.inr hop) hu hks h (hv _ (by simp [Op.operands])) (hv _ (by simp [Op.operands])) (hv _ (by simp [Op.operands])) he
    · cases hc
  · rename_i t m k hop
    rw [hop] at hv
    split at hc
    · rename_i kt e hu
      split at hc
      · rename_i z hz
        split at hc
        · rename_i hzf
          simp only [Option.map_eq_some_iff] at hc
          obtain ⟨ks, hks, rfl⟩ := hc
          exact sim_men hop hu hz hzf hks h (hv _ (by simp [Op.operands])) (hv _ (by simp [Op.operands])) he
        · cases hc
      · cases hc
    · cases hc
  · rename_i t m s x hop
    rw [hop] at hv
    cases hc; exact sim_mes hop h (hv _ (by simp [Op.operands])) (hv _ (by simp [Op.operands])) he
  · cases hc; simp [plainOp] at hp
  · rename_i c hop
    rw [hop] at hv
    exact sim_call hop hc hp h (fun x hx => hv _ (by simp [Op.operands, Call.operands]; exact .inr (by simpa using hx))) he
  · cases hc

end Go.IM
