/- Functions whose variables of several cells stay in registers answer as the functions that keep them in memory. For every program. -/
import Derived.Test.YtpffdendgnkpoaaImE
namespace Go.IM
open Go Go.RowKit
set_option linter.unusedVariables false
set_option linter.unusedSimpArgs false

/-! # Other places for the blocks

Two runs of the ideal machine that differ in where their blocks lie: `A`, and `B`, which may hold more. -/

def renA (σ : Nat → Nat) (a : Addr) : Addr := ⟨σ a.block, a.off, a.spot⟩

def ren (σ : Nat → Nat) : Value → Value
  | .pointer (some a) => .pointer (some (renA σ a))
  | .slice (some a) l c => .slice (some (renA σ a)) l c
  | .map (some r) => .map (some (σ r))
  | .func fn first cap => .func fn (first.map (ren σ)) (cap.map (ren σ))
  | .iface t v => .iface t (ren σ v)
  | .agg cs => .agg (cs.map (ren σ))
  | .tuple vs => .tuple (vs.map (ren σ))
  | v => v

variable {σ σ1 σ2 : Nat → Nat} {A A1 A2 B B1 B2 : Heap} {v w : Value} {f g : Fr} {n m ng : Nat}

theorem ren_agree {S : Nat → Prop} {σ σ' : Nat → Nat} (h : ∀ i, S i → σ' i = σ i) : ∀ v : Value, okV S v → ren σ' v = ren σ v
  | .bool _, _ | .int _ _, _ | .float _ _, _ | .complex _ _ _, _ | .string _, _ | .nilFunc, _ | .nilIface, _ | .chan _, _ => by simp [ren]
  | .pointer none, _ | .map none, _ | .slice none _ _, _ => by simp [ren]
  | .pointer (some a), hv => by simp only [okV] at hv; simp [ren, renA, h _ hv.1]
  | .slice (some a) l c, hv => by simp only [okV] at hv; simp [ren, renA, h _ hv.1]
  | .map (some r), hv => by simp only [okV] at hv; simp [ren, h _ hv]
  | .func fn a b, hv => by
    simp only [okV] at hv; simp only [ren]
    have h1 : a.map (ren σ') = a.map (ren σ) := by
      apply Array.map_congr_left; intro x hx; exact ren_agree h x (hv.2.1 x hx)
    have h2 : b.map (ren σ') = b.map (ren σ) := by
      apply Array.map_congr_left; intro x hx; exact ren_agree h x (hv.2.2 x hx)
    rw [h1, h2]
  | .iface t v, hv => by simp only [okV] at hv; simp only [ren]; rw [ren_agree h v hv]
  | .agg cs, hv => by
    simp only [okV] at hv; simp only [ren]
    have h1 : cs.map (ren σ') = cs.map (ren σ) := by
      apply Array.map_congr_left; intro x hx; exact ren_agree h x (hv x hx).1
    rw [h1]
  | .tuple cs, hv => by
    simp only [okV] at hv; simp only [ren]
    have h1 : cs.map (ren σ') = cs.map (ren σ) := by
      apply Array.map_congr_left; intro x hx; exact ren_agree h x (hv x hx)
    rw [h1]

theorem flat1_ren (h : flat1 v = true) (σ : Nat → Nat) : ren σ v = v := by
  cases v with
  | pointer a => cases a <;> simp_all [flat1, ren]
  | slice a l c => cases a <;> simp_all [flat1, ren]
  | map a => cases a <;> simp_all [flat1, ren]
  | _ => simp_all [flat1, ren]

theorem map_flat1 {l : List Value} (h : ∀ v ∈ l, flat1 v = true) (σ : Nat → Nat) : l.map (ren σ) = l := by
  have : l.map (ren σ) = l.map id := List.map_congr_left fun v hv => flat1_ren (h v hv) σ
  simpa using this

theorem flatV_ren (h : flatV v = true) (σ : Nat → Nat) : ren σ v = v := by
  cases v with
  | agg cs =>
    simp only [flatV, List.all_eq_true] at h
    simp only [ren]
    congr 1
    apply Array.ext (by simp)
    intro i h1 h2
    simp only [Array.getElem_map]
    exact flat1_ren (h _ (Array.getElem_mem_toList h2)) σ
  | _ => exact flat1_ren (by simpa [flatV] using h) σ

theorem notTuple_ren (σ : Nat → Nat) (v : Value) : notTuple (ren σ v) = notTuple v := by
  cases v with
  | pointer a => cases a <;> simp [ren, notTuple]
  | slice a l c => cases a <;> simp [ren, notTuple]
  | map a => cases a <;> simp [ren, notTuple]
  | _ => simp [ren, notTuple]

theorem one1_ren (σ : Nat → Nat) (v : Value) : one1 (ren σ v) = one1 v := by
  cases v with
  | pointer a => cases a <;> simp [ren, one1]
  | slice a l c => cases a <;> simp [ren, one1]
  | map a => cases a <;> simp [ren, one1]
  | _ => simp [ren, one1]

theorem cells_ren (σ : Nat → Nat) (v : Value) : (ren σ v).cells = v.cells.map (ren σ) := by
  cases v with
  | pointer a => cases a <;> simp [ren, Value.cells]
  | slice a l c => cases a <;> simp [ren, Value.cells]
  | map a => cases a <;> simp [ren, Value.cells]
  | _ => simp [ren, Value.cells]

theorem cells_ok {S : Nat → Prop} (h : okV S v) (ht : notTuple v = true) : ∀ c ∈ v.cells.toList, okV S c ∧ one1 c = true := by
  cases v with
  | agg cs => simp only [okV] at h; intro c hc; exact h c (by simpa [Value.cells] using hc)
  | tuple cs => simp [notTuple] at ht
  | _ => intro c hc; simp [Value.cells] at hc; subst hc; exact ⟨h, rfl⟩

/-! ### Memory -/

def renE (σ : Nat → Nat) (e : MapEntry) : MapEntry := { e with key := ren σ e.key, val := ren σ e.val }

def renO (σ : Nat → Nat) : IObj → IObj
  | .cells c ro lo => .cells (c.map (ren σ)) ro lo
  | .map es k => .map (es.map (renE σ)) k
  | .dead => .dead

def okO (n : Nat) : IObj → Prop
  | .cells c _ _ => ∀ v ∈ c, okV (· < n) v ∧ one1 v = true
  | .map es _ => ∀ e ∈ es, okV (· < n) e.key ∧ okV (· < n) e.val
  | .dead => True

theorem okV_le {n m : Nat} (h : n ≤ m) {v : Value} (hv : okV (· < n) v) : okV (· < m) v := okV_mono (fun i hi => Nat.lt_of_lt_of_le hi h) v hv

theorem okO_le {n m : Nat} (h : n ≤ m) {o : IObj} (ho : okO n o) : okO m o := by
  cases o with
  | cells c ro lo => exact fun v hv => ⟨okV_le h (ho v hv).1, (ho v hv).2⟩
  | map es k => exact fun e he => ⟨okV_le h (ho e he).1, okV_le h (ho e he).2⟩
  | dead => trivial

theorem renO_agree (h : ∀ i, i < n → σ1 i = σ i) {o : IObj} (ho : okO n o) : renO σ1 o = renO σ o := by
  cases o with
  | cells c ro lo => simp only [renO]; congr 1; exact List.map_congr_left fun v hv => ren_agree h v (ho v hv).1
  | map es k =>
    simp only [renO]; congr 1
    refine List.map_congr_left fun e he => ?_
    simp only [renE, ren_agree h _ (ho e he).1, ren_agree h _ (ho e he).2]
  | dead => rfl

theorem nro_ren (σ : Nat → Nat) (o : IObj) : nro (renO σ o) = nro o := by cases o <;> rfl

structure HR (ng : Nat) (σ : Nat → Nat) (A B : Heap) : Prop where
  lt : ∀ i, i < A.length → σ i < B.length
  inj : ∀ i j, i < A.length → j < A.length → σ i = σ j → i = j
  obj : ∀ (i : Nat) (o : IObj), A[i]? = some o → B[σ i]? = some (renO σ o)
  ok : ∀ (i : Nat) (o : IObj), A[i]? = some o → okO A.length o
  glob : ∀ i, i < ng → σ i = i ∧ i < A.length

/-- What is kept from one place of the runs to a later one. -/
structure EX (σ : Nat → Nat) (A B : Heap) (σ1 : Nat → Nat) (A1 B1 : Heap) : Prop where
  la : A.length ≤ A1.length
  lb : B.length ≤ B1.length
  agree : ∀ i, i < A.length → σ1 i = σ i
  new : ∀ i, A.length ≤ i → i < A1.length → B.length ≤ σ1 i
  frame : ∀ (b : Nat), b < B.length → (∀ i, i < A.length → σ i ≠ b) → B1[b]? = B[b]?
  nro : ∀ (b : Nat) (o : IObj), B.length ≤ b → B1[b]? = some o → (∀ i, i < A1.length → σ1 i ≠ b) → nro o = true

theorem EX.refl (σ : Nat → Nat) (A B : Heap) : EX σ A B σ A B :=
  ⟨Nat.le_refl _, Nat.le_refl _, fun _ _ => rfl, fun i h1 h2 => by omega, fun _ _ _ => rfl, fun b o h1 h2 => by have := (List.getElem?_eq_some_iff.1 h2).1; omega⟩

theorem EX.trans (h : EX σ A B σ1 A1 B1) (k : EX σ1 A1 B1 σ2 A2 B2) : EX σ A B σ2 A2 B2 := by
  refine ⟨Nat.le_trans h.la k.la, Nat.le_trans h.lb k.lb, fun i hi => by rw [k.agree i (Nat.lt_of_lt_of_le hi h.la), h.agree i hi], ?_, ?_, ?_⟩
  · intro i h1 h2
    by_cases hi : i < A1.length
    · rw [k.agree i hi]; exact h.new i h1 hi
    · exact Nat.le_trans h.lb (k.new i (by omega) h2)
  · intro b hb hne
    rw [k.frame b (Nat.lt_of_lt_of_le hb h.lb) (fun i hi => ?_)]
    · exact h.frame b hb hne
    · by_cases hA : i < A.length
      · rw [h.agree i hA]; exact hne i hA
      · have := h.new i (by omega) hi; omega
  · intro b o hb ho hne
    by_cases h1 : b < B1.length
    · have hne' : ∀ i, i < A1.length → σ1 i ≠ b := fun i hi => by rw [← k.agree i hi]; exact hne i (Nat.lt_of_lt_of_le hi k.la)
      exact h.nro b o hb (by rw [← k.frame b h1 hne']; exact ho) hne'
    · exact k.nro b o (by omega) ho hne

theorem HR.ren_eq (h : HR ng σ A B) (e : EX σ A B σ1 A1 B1) (hv : okV (· < A.length) v) : ren σ1 v = ren σ v := ren_agree e.agree v hv

/-- What only grew in the one, only grew in the other. -/
theorem EX.pre (h : HR ng σ A B) (h1 : HR ng σ1 A1 B1) (e : EX σ A B σ1 A1 B1) (p : Pre A A1) : Pre B B1 := by
  have hold : ∀ b, b < B.length → B1[b]? = B[b]? := by
    intro b hb
    by_cases hx : ∃ i, i < A.length ∧ σ i = b
    · obtain ⟨i, hi, rfl⟩ := hx
      have hA : A[i]? = some A[i] := List.getElem?_eq_getElem hi
      have hA1 : A1[i]? = some A[i] := by rw [p.get hi]; exact hA
      have := h1.obj i _ hA1
      rw [e.agree i hi, renO_agree e.agree (h.ok i _ hA)] at this
      rw [this, h.obj i _ hA]
    · exact e.frame b hb fun i hi hne => hx ⟨i, hi, hne⟩
  refine ⟨B1.drop B.length, ?_, ?_⟩
  · apply List.ext_getElem?
    intro b
    by_cases hb : b < B.length
    · rw [hold b hb, List.getElem?_append_left hb]
    · rw [List.getElem?_append_right (by omega), List.getElem?_drop]; congr 1; omega
  · intro o ho
    obtain ⟨k, hk⟩ := List.mem_iff_getElem?.1 ho
    rw [List.getElem?_drop] at hk
    by_cases hx : ∃ i, i < A1.length ∧ σ1 i = B.length + k
    · obtain ⟨i, hi, he⟩ := hx
      have hA1 : A1[i]? = some A1[i] := List.getElem?_eq_getElem hi
      have := h1.obj i _ hA1
      rw [he, hk] at this
      have hge : A.length ≤ i := by
        rcases Nat.lt_or_ge i A.length with hlt | hge
        · have a1 := e.agree i hlt
          have a2 := h.lt i hlt
          omega
        · exact hge
      cases this
      rw [nro_ren]
      obtain ⟨t, ht, hn⟩ := p
      apply hn
      subst ht
      rw [List.getElem_append_right hge]
      exact List.getElem_mem _
    · exact e.nro _ o (by omega) hk fun i hi hne => hx ⟨i, hi, hne⟩

/-! ### Looking things up -/

theorem HR.row {b : Nat} {c : List Value} (h : HR ng σ A B) (hr : A.row b = some c) : B.row (σ b) = some (c.map (ren σ)) ∧ b < A.length ∧ ∀ v ∈ c, okV (· < A.length) v ∧ one1 v = true := by
  unfold Heap.row at hr
  split at hr <;> cases hr
  rename_i ro lo hh
  have := h.obj _ _ hh
  refine ⟨by unfold Heap.row; rw [this]; rfl, (List.getElem?_eq_some_iff.1 hh).1, h.ok _ _ hh⟩

theorem HR.wrow {b lo : Nat} {c : List Value} (h : HR ng σ A B) (hr : A.wrow b = some (c, lo)) : B.wrow (σ b) = some (c.map (ren σ), lo) ∧ b < A.length ∧ ∀ v ∈ c, okV (· < A.length) v ∧ one1 v = true := by
  unfold Heap.wrow at hr
  split at hr <;> cases hr
  rename_i hh
  have := h.obj _ _ hh
  refine ⟨by unfold Heap.wrow; rw [this]; rfl, (List.getElem?_eq_some_iff.1 hh).1, h.ok _ _ hh⟩

theorem HR.mapAt {b k : Nat} {es : List MapEntry} (h : HR ng σ A B) (hr : A.mapAt b = some (es, k)) : B.mapAt (σ b) = some (es.map (renE σ), k) ∧ b < A.length ∧ ∀ e ∈ es, okV (· < A.length) e.key ∧ okV (· < A.length) e.val := by
  unfold Heap.mapAt at hr
  split at hr <;> cases hr
  rename_i hh
  have := h.obj _ _ hh
  refine ⟨by unfold Heap.mapAt; rw [this]; rfl, (List.getElem?_eq_some_iff.1 hh).1, h.ok _ _ hh⟩

theorem cut_map (h : Value → Value) (c : List Value) (o n : Nat) : cut (c.map h) o n = (cut c o n).map (List.map h) := by
  unfold cut; simp only [List.length_map]; split
  · simp only [Option.map_some, List.map_drop, List.map_take]
  · rfl

theorem cut_mem {c xs : List Value} {o n : Nat} (h : cut c o n = some xs) : ∀ v ∈ xs, v ∈ c := by
  unfold cut at h; split at h <;> cases h
  exact fun v hv => List.mem_of_mem_drop (List.mem_of_mem_take hv)

theorem cut_len {c xs : List Value} {o n : Nat} (h : cut c o n = some xs) : xs.length = n := by
  unfold cut at h; split at h <;> cases h
  rw [List.length_take, List.length_drop]; omega

theorem lay_map (h : Value → Value) (c xs : List Value) (o : Nat) : lay (c.map h) o (xs.map h) = (lay c o xs).map h := by
  unfold lay; simp only [List.length_map, List.map_append, List.map_drop, List.map_take]

theorem lay_mem {c xs : List Value} {o : Nat} {v : Value} (h : v ∈ lay c o xs) : v ∈ c ∨ v ∈ xs := by
  unfold lay at h
  simp only [List.mem_append] at h
  rcases h with (h | h) | h
  · exact .inl (List.mem_of_mem_take h)
  · exact .inr h
  · exact .inl (List.mem_of_mem_drop h)

/-! ### Memory that grows or is written -/

def updN (σ : Nat → Nat) (k m : Nat) : Nat → Nat := fun i => if i = k then m else σ i
theorem updN_same (σ : Nat → Nat) (k m : Nat) : updN σ k m k = m := by simp [updN]
theorem updN_ne {k m i : Nat} (h : i ≠ k) : updN σ k m i = σ i := by simp [updN, h]

theorem HR.push (h : HR ng σ A B) {o : IObj} (ho : okO A.length o) (hn : nro o = true) :
    HR ng (updN σ A.length B.length) (A ++ [o]) (B ++ [renO σ o]) ∧ EX σ A B (updN σ A.length B.length) (A ++ [o]) (B ++ [renO σ o]) := by
  have hag : ∀ i, i < A.length → updN σ A.length B.length i = σ i := fun i hi => updN_ne (by omega)
  refine ⟨⟨?_, ?_, ?_, ?_, ?_⟩, ⟨by simp, by simp, hag, ?_, ?_, ?_⟩⟩
  · intro i hi
    by_cases e : i < A.length
    · rw [hag i e]; have := h.lt i e; simp; omega
    · simp at hi; have : i = A.length := by omega
      subst this; rw [updN_same]; simp
  · intro i j hi hj hij
    simp at hi hj
    by_cases e : i < A.length
    · by_cases e2 : j < A.length
      · rw [hag i e, hag j e2] at hij; exact h.inj i j e e2 hij
      · have : j = A.length := by omega
        subst this
        rw [hag i e, updN_same] at hij; have := h.lt i e; omega
    · have : i = A.length := by omega
      subst this
      by_cases e2 : j < A.length
      · rw [hag j e2, updN_same] at hij; have := h.lt j e2; omega
      · omega
  · intro i p hp
    by_cases e : i < A.length
    · rw [List.getElem?_append_left e] at hp
      rw [hag i e, List.getElem?_append_left (h.lt i e), h.obj i p hp, renO_agree hag (h.ok i p hp)]
    · have hi := (List.getElem?_eq_some_iff.1 hp).1
      simp at hi; have : i = A.length := by omega
      subst this
      rw [List.getElem?_append_right (Nat.le_refl _)] at hp
      simp at hp; subst hp
      rw [updN_same, List.getElem?_append_right (Nat.le_refl _)]
      simp [renO_agree hag ho]
  · intro i p hp
    by_cases e : i < A.length
    · rw [List.getElem?_append_left e] at hp
      exact okO_le (by simp) (h.ok i p hp)
    · have hi := (List.getElem?_eq_some_iff.1 hp).1
      simp at hi; have : i = A.length := by omega
      subst this
      rw [List.getElem?_append_right (Nat.le_refl _)] at hp
      simp at hp; subst hp
      exact okO_le (by simp) ho
  · intro i hi
    have := h.glob i hi
    exact ⟨by rw [hag i this.2]; exact this.1, by simp; omega⟩
  · intro i h1 h2
    simp at h2; have : i = A.length := by omega
    subst this; rw [updN_same]; exact Nat.le_refl _
  · intro b hb _; exact List.getElem?_append_left hb
  · intro b p hb hp hne
    have hi := (List.getElem?_eq_some_iff.1 hp).1
    simp at hi; have : b = B.length := by omega
    subst this
    exact absurd (updN_same σ A.length B.length) (hne A.length (by simp))

theorem HR.set (h : HR ng σ A B) {b : Nat} (hb : b < A.length) {o : IObj} (ho : okO A.length o) :
    HR ng σ (A.set b o) (B.set (σ b) (renO σ o)) ∧ EX σ A B σ (A.set b o) (B.set (σ b) (renO σ o)) := by
  refine ⟨⟨?_, ?_, ?_, ?_, ?_⟩, ⟨by simp, by simp, fun _ _ => rfl, fun i h1 h2 => by simp at h2; omega, ?_, fun c p h1 h2 => by have := (List.getElem?_eq_some_iff.1 h2).1; simp at this; omega⟩⟩
  · intro i hi; simp at hi ⊢; exact h.lt i hi
  · intro i j hi hj; simp at hi hj; exact h.inj i j hi hj
  · intro i p hp
    by_cases e : b = i
    · subst e
      rw [List.getElem?_set_self hb] at hp; cases hp
      rw [List.getElem?_set_self (h.lt _ hb)]
    · rw [List.getElem?_set_ne e] at hp
      have hi := (List.getElem?_eq_some_iff.1 hp).1
      rw [List.getElem?_set_ne (fun hh => e (h.inj _ _ hb hi hh))]; exact h.obj i p hp
  · intro i p hp
    simp only [List.length_set]
    by_cases e : b = i
    · subst e
      rw [List.getElem?_set_self hb] at hp; cases hp; exact ho
    · rw [List.getElem?_set_ne e] at hp; exact h.ok i p hp
  · intro i hi; simp only [List.length_set]; exact h.glob i hi
  · intro c hc hne; exact List.getElem?_set_ne (hne b hb)

end Go.IM

namespace Go.IM
open Go Go.RowKit
set_option linter.unusedVariables false
set_option linter.unusedSimpArgs false

variable {σ σ1 σ2 : Nat → Nat} {A A1 A2 B B1 B2 : Heap} {v w : Value} {f g : Fr} {n m ng : Nat}

def opds : IOp → List Operand
  | .mov x | .una _ x | .cnv _ x | .s2b x | .b2s x | .box _ x | .ld1 x | .ldn _ x | .nck x | .fad _ x | .fld _ _ x | .mki _ x | .tas _ _ _ x | .ext x _ | .len _ x | .cap x | .msk x | .clr _ x | .mkh x | .pan x | .regb _ x => [x]
  | .pick c a b => [c, a, b]
  | .bin _ x y | .eq _ _ x y | .sto _ x y | .ixa _ _ x y | .ixs _ x y | .ixv _ _ _ x y | .ixt x y | .mks _ _ _ x y | .app _ _ x y | .apz _ _ _ x y | .cpy _ x y | .lkp _ _ _ x y | .men _ _ x y | .mdl _ x y | .upd _ _ x y | .apl _ _ _ x y => [x, y]
  | .new _ | .mkm | .reg _ => []
  | .bld _ ps | .bsl _ _ ps => ps.map (·.2.2)
  | .stk _ a x ks => a :: x :: ks.map (·.2)
  | .slc _ x lo hi mx => x :: (lo.toList ++ hi.toList ++ mx.toList)
  | .fun_ _ a b => a ++ b
  | .mnx _ xs => xs
  | .mup _ m k x | .mes m k x => [m, k, x]
  | .call g as => g :: as

/-- The values that stand in an operation have no addresses; and it is one of the program's. -/
def zOk : IOp → Bool
  | .new z | .bld z _ | .bsl _ z _ | .mks _ _ z _ _ | .apz _ _ z _ _ | .clr z _ => z.all flat1
  | .tas _ z _ _ | .lkp _ z _ _ _ | .men _ z _ _ => flatV z
  | .fun_ (.func _) _ _ => true
  | .fun_ _ _ _ | .reg _ | .regb .. | .upd .. | .apl .. => false
  | _ => true

/-- The other run's answer to an operation. -/
abbrev RO (ng : Nat) (σ : Nat → Nat) (A B : Heap) (x : Option (Value × Heap)) (v : Value) (A1 : Heap) : Prop :=
  ∃ σ1 B1, x = some (ren σ1 v, B1) ∧ HR ng σ1 A1 B1 ∧ EX σ A B σ1 A1 B1 ∧ okV (· < A1.length) v

theorem RO.same (h : HR ng σ A B) (hv : okV (· < A.length) v) : RO ng σ A B (some (ren σ v, B)) v A := ⟨σ, B, rfl, h, EX.refl _ _ _, hv⟩

theorem RO.pushP (h : HR ng σ A B) {o : IObj} (ho : okO A.length o) (hn : nro o = true) : RO ng σ A B (some (.pointer (some ⟨B.length, 0, none⟩), B ++ [renO σ o])) (.pointer (some ⟨A.length, 0, none⟩)) (A ++ [o]) := by
  obtain ⟨h1, h2⟩ := h.push ho hn
  exact ⟨_, _, by simp [ren, renA, updN_same], h1, h2, by simp [okV]⟩

theorem RO.pushS (h : HR ng σ A B) {o : IObj} (ho : okO A.length o) (hn : nro o = true) (l c : Nat) : RO ng σ A B (some (.slice (some ⟨B.length, 0, none⟩) l c, B ++ [renO σ o])) (.slice (some ⟨A.length, 0, none⟩) l c) (A ++ [o]) := by
  obtain ⟨h1, h2⟩ := h.push ho hn
  exact ⟨_, _, by simp [ren, renA, updN_same], h1, h2, by simp [okV]⟩

theorem RO.pushM (h : HR ng σ A B) {o : IObj} (ho : okO A.length o) (hn : nro o = true) : RO ng σ A B (some (.map (some B.length), B ++ [renO σ o])) (.map (some A.length)) (A ++ [o]) := by
  obtain ⟨h1, h2⟩ := h.push ho hn
  exact ⟨_, _, by simp [ren, updN_same], h1, h2, by simp [okV]⟩

theorem RO.set (h : HR ng σ A B) {b : Nat} (hb : b < A.length) {o : IObj} (ho : okO A.length o) (hv : okV (· < A.length) v) : RO ng σ A B (some (ren σ v, B.set (σ b) (renO σ o))) v (A.set b o) := by
  obtain ⟨h1, h2⟩ := h.set hb ho
  exact ⟨σ, _, rfl, h1, h2, by simpa using hv⟩

theorem ren_int (σ : Nat → Nat) (k : IntKind) (n : Int) : ren σ (.int k n) = .int k n := by simp [ren]
theorem ren_bool (σ : Nat → Nat) (b : Bool) : ren σ (.bool b) = .bool b := by simp [ren]
theorem ren_string (σ : Nat → Nat) (b : ByteArray) : ren σ (.string b) = .string b := by simp [ren]

theorem int?_ren (σ : Nat → Nat) (v : Value) : int? (ren σ v) = int? v := by
  cases v with
  | pointer a => cases a <;> simp [ren, int?]
  | slice a l c => cases a <;> simp [ren, int?]
  | map a => cases a <;> simp [ren, int?]
  | _ => simp [ren, int?]

theorem lenv_ren (σ : Nat → Nat) (v : Value) : lenv (ren σ v) = lenv v := by
  cases v with
  | pointer a => cases a <;> simp [ren, lenv]
  | slice a l c => cases a <;> simp [ren, lenv]
  | map a => cases a <;> simp [ren, lenv]
  | _ => simp [ren, lenv]

theorem byte?_ren (σ : Nat → Nat) (v : Value) : byte? (ren σ v) = byte? v := by
  cases v with
  | pointer a => cases a <;> simp [ren, byte?]
  | slice a l c => cases a <;> simp [ren, byte?]
  | map a => cases a <;> simp [ren, byte?]
  | _ => simp [ren, byte?]

theorem bytes?_ren (σ : Nat → Nat) : ∀ l : List Value, bytes? (l.map (ren σ)) = bytes? l
  | [] => rfl
  | v :: l => by simp only [List.map_cons, bytes?, byte?_ren, bytes?_ren σ l]

theorem seq1_ren (σ : Nat → Nat) (l : Leaf) (x y : Value) (h : seq1 l x y ≠ none) : seq1 l (ren σ x) (ren σ y) = seq1 l x y := by
  cases l <;> cases x <;> first | (exact absurd rfl h) | (cases y <;> first | (exact absurd rfl h) | simp [ren, seq1])

theorem seqs_ren (σ : Nat → Nat) : ∀ (ks : List Leaf) (xs ys : List Value), seqs ks xs ys ≠ none → seqs ks (xs.map (ren σ)) (ys.map (ren σ)) = seqs ks xs ys
  | [], [], [], _ => rfl
  | [], [], _ :: _, h => absurd rfl h
  | [], _ :: _, [], h => absurd rfl h
  | [], _ :: _, _ :: _, h => absurd rfl h
  | _ :: _, [], _, h => absurd rfl h
  | _ :: _, _ :: _, [], h => absurd rfl h
  | k :: ks, x :: xs, y :: ys, h => by
    simp only [seqs] at h
    have h1 : seq1 k x y ≠ none := fun e => h (by simp [e])
    have h2 : seqs ks xs ys ≠ none := fun e => h (by rw [e]; cases seq1 k x y <;> rfl)
    simp only [List.map_cons, seqs, seq1_ren σ k x y h1, seqs_ren σ ks xs ys h2]

theorem keyEq_ren (σ : Nat → Nat) (kk : KeyK) (x y : Value) (h : keyEq kk x y ≠ none) : keyEq kk (ren σ x) (ren σ y) = keyEq kk x y := by
  obtain ⟨ag, ks⟩ := kk
  cases ag with
  | true =>
    cases x <;> first | (exact absurd rfl h) | skip
    cases y <;> first | (exact absurd rfl h) | skip
    rename_i xs ys
    have h' : seqs ks xs.toList ys.toList ≠ none := h
    show keyEq ⟨true, ks⟩ (ren σ (.agg xs)) (ren σ (.agg ys)) = seqs ks xs.toList ys.toList
    simp only [ren, keyEq, Array.toList_map]
    exact seqs_ren σ ks _ _ h'
  | false =>
    simp only [keyEq] at h ⊢
    split at h
    · exact seq1_ren σ _ x y h
    · exact absurd rfl h

theorem find_ren (σ : Nat → Nat) (kk : KeyK) (k : Value) : ∀ es : List MapEntry, find kk es k ≠ none → find kk (es.map (renE σ)) (ren σ k) = find kk es k
  | [], _ => rfl
  | e :: es, h => by
    simp only [find] at h
    have h1 : keyEq kk k e.key ≠ none := fun x => h (by simp [x])
    simp only [List.map_cons, find, renE, keyEq_ren σ kk k e.key h1]
    cases hk : keyEq kk k e.key with
    | none => exact absurd hk h1
    | some b =>
      cases b with
      | true => rfl
      | false =>
        simp only [hk] at h
        have h2 : find kk es k ≠ none := fun x => h (by simp [x])
        have := find_ren σ kk k es h2
        simp only [this]

theorem look_ren (σ : Nat → Nat) (kk : KeyK) (es : List MapEntry) (k : Value) (h : look kk es k ≠ none) : look kk (es.map (renE σ)) (ren σ k) = look kk es k := by
  unfold look at *
  have hk : keyOk kk k = true := by
    by_cases e : keyOk kk k = true
    · exact e
    · simp [e] at h
  have hk2 : keyEq kk k k ≠ none := fun x => by simp [keyOk, x] at hk
  have : keyOk kk (ren σ k) = true := by unfold keyOk at *; rw [keyEq_ren σ kk k k hk2]; exact hk
  rw [if_pos hk] at h
  rw [if_pos hk, if_pos this]
  exact find_ren σ kk k es h

theorem keyOk_ren (σ : Nat → Nat) (kk : KeyK) (k : Value) (h : keyOk kk k = true) : keyOk kk (ren σ k) = true := by
  have hk2 : keyEq kk k k ≠ none := fun x => by simp [keyOk, x] at h
  unfold keyOk at *; rw [keyEq_ren σ kk k k hk2]; exact h

theorem ieq_ren (σ : Nat → Nat) (k : EqK) (x y : Value) (h : ieq k x y ≠ none) : ieq k (ren σ x) (ren σ y) = ieq k x y := by
  cases k
  case flat ks =>
    cases x <;> first | (exact absurd rfl h) | skip
    cases y <;> first | (exact absurd rfl h) | skip
    simp only [ieq] at h
    simp only [ren, ieq, Array.toList_map]
    exact seqs_ren σ ks _ _ h
  case bool => cases x <;> first | (exact absurd rfl h) | (cases y <;> first | (exact absurd rfl h) | simp [ren, ieq])
  case ptr =>
    cases x <;> first | (exact absurd rfl h) | skip
    rename_i a
    cases a <;> cases y <;> first | (exact absurd rfl h) | (simp [ren, ieq]; done) | (rename_i b; cases b <;> first | (exact absurd rfl h) | simp [ren, ieq])
  case sli =>
    cases x <;> first | (exact absurd rfl h) | skip
    rename_i a _ _
    cases a <;> cases y <;> first | (exact absurd rfl h) | (simp [ren, ieq]; done) | (rename_i b _ _; cases b <;> first | (exact absurd rfl h) | simp [ren, ieq])
  case map =>
    cases x <;> first | (exact absurd rfl h) | skip
    rename_i a
    cases a <;> cases y <;> first | (exact absurd rfl h) | (simp [ren, ieq]; done) | (rename_i b; cases b <;> first | (exact absurd rfl h) | simp [ren, ieq])
  case fun_ => cases x <;> first | (exact absurd rfl h) | (cases y <;> first | (exact absurd rfl h) | simp [ren, ieq])
  case ifc => cases x <;> first | (exact absurd rfl h) | (cases y <;> first | (exact absurd rfl h) | simp [ren, ieq])

theorem iuna_ren {op : UnOp} {x : Value} (σ : Nat → Nat) (h : iuna op x = some v) : iuna op (ren σ x) = some v ∧ flat1 v = true := by
  unfold iuna at h
  split at h <;> first | (cases h; done) | skip
  · cases h; simp [ren, iuna, flat1]
  · unfold ibits at h
    simp only at h
    cases h
    simp [ren, iuna, ibits, flat1]
  · cases h; simp [ren, iuna, flat1]

theorem ibits_flat {k : IntKind} {op : BinOp} {a b : Int} (h : ibits k op a b = some v) : flat1 v = true := by
  unfold ibits at h
  cases op <;> simp only [reduceCtorEq] at h <;> first | (cases h; done) | (cases h; rfl)

theorem ibin_ren {op : BinOp} {x y : Value} (σ : Nat → Nat) (h : ibin op x y = some v) : ibin op (ren σ x) (ren σ y) = some v ∧ flat1 v = true := by
  have hx : ren σ x = x := by
    cases x with
    | int _ _ => simp [ren]
    | string _ => simp [ren]
    | _ => cases op <;> simp [ibin] at h
  have hy : ren σ y = y := by
    cases y with
    | int _ _ => simp [ren]
    | string _ => simp [ren]
    | _ => cases op <;> cases x <;> simp [ibin] at h
  rw [hx, hy]
  refine ⟨h, ?_⟩
  unfold ibin at h
  repeat' split at h
  all_goals first
    | (cases h; done)
    | (cases h; rfl)
    | exact ibits_flat h
    | (simp only [Option.map_eq_some_iff] at h; obtain ⟨_, _, rfl⟩ := h; rfl)

/-! ### What slices hold -/

theorem str_map (σ : Nat → Nat) (s : ByteArray) : (s.data.toList.map fun b => Value.int .u8 b.toNat).map (ren σ) = s.data.toList.map fun b => Value.int .u8 b.toNat :=
  map_flat1 (fun v hv => by obtain ⟨b, _, rfl⟩ := List.mem_map.1 hv; rfl) σ
theorem str_ok {n : Nat} (s : ByteArray) : ∀ v ∈ s.data.toList.map (fun b => Value.int .u8 b.toNat), okV (· < n) v ∧ one1 v = true := by
  intro v hv; obtain ⟨b, _, rfl⟩ := List.mem_map.1 hv; exact ⟨by simp [okV], rfl⟩

theorem elems_ren {esz : Nat} {x : Nat × List Value} (h : HR ng σ A B) (he : elems A esz v = some x) : elems B esz (ren σ v) = some (x.1, x.2.map (ren σ)) ∧ ∀ c ∈ x.2, okV (· < A.length) c ∧ one1 c = true := by
  cases v <;> first | (simp [elems] at he; done) | skip
  case string s =>
    simp only [elems] at he
    split at he <;> cases he
    rename_i e
    exact ⟨by simp [ren, elems, e, str_map], str_ok s⟩
  case slice a l c =>
    cases a with
    | none => simp only [elems] at he; cases he; simp [ren, elems]
    | some a =>
      simp only [elems] at he
      split at he
      · rename_i e; cases he; simp [ren, elems, e]
      · rename_i e
        split at he <;> try (cases he; done)
        rename_i r hr
        simp only [Option.map_eq_some_iff] at he
        obtain ⟨xs, hx, rfl⟩ := he
        obtain ⟨h1, h2, h3⟩ := h.row hr
        refine ⟨?_, fun c hc => h3 c (cut_mem hx c hc)⟩
        simp only [ren, elems, e, if_false, renA, h1, cut_map, hx, Option.map_some]

theorem firsts_ren {esz k : Nat} {xs : List Value} (h : HR ng σ A B) (he : firsts A esz k v = some xs) : firsts B esz k (ren σ v) = some (xs.map (ren σ)) ∧ ∀ c ∈ xs, okV (· < A.length) c ∧ one1 c = true := by
  cases v <;> first | (simp [firsts] at he; done) | skip
  case string s =>
    simp only [firsts] at he
    split at he <;> cases he
    rename_i e
    exact ⟨by simp only [ren, firsts, e, if_true, List.map_take, str_map], fun c hc => str_ok s c (List.mem_of_mem_take hc)⟩
  case slice a l c =>
    cases a with
    | none => simp only [firsts] at he; cases he; simp [ren, firsts]
    | some a =>
      simp only [firsts] at he
      split at he
      · rename_i e; cases he; simp [ren, firsts, e]
      · rename_i e
        split at he <;> try (cases he; done)
        rename_i r hr
        obtain ⟨h1, h2, h3⟩ := h.row hr
        refine ⟨?_, fun c hc => h3 c (cut_mem he c hc)⟩
        simp only [ren, firsts, e, if_false, renA, h1, cut_map, he, Option.map_some]

theorem ifill_ren (σ : Nat → Nat) : ∀ (ps : List (Nat × Nat × Value)) (z c : List Value), ifill z ps = some c → ifill (z.map (ren σ)) (ps.map fun p => (p.1, p.2.1, ren σ p.2.2)) = some (c.map (ren σ))
  | [], z, c, h => by simp only [ifill] at h; cases h; rfl
  | (o, n, v) :: ps, z, c, h => by
    simp only [ifill] at h
    split at h <;> try (cases h; done)
    rename_i hc
    have hs : (ren σ v).cells.size = n := by rw [cells_ren]; simpa using hc.1
    simp only [List.map_cons, ifill, hs, List.length_map, hc.2.1, notTuple_ren, hc.2.2, and_self, if_true]
    have := ifill_ren σ ps _ c h
    rwa [← lay_map, show (v.cells.toList.map (ren σ)) = (ren σ v).cells.toList by rw [cells_ren]; simp] at this

theorem ifill_ok {S : Nat → Prop} : ∀ (ps : List (Nat × Nat × Value)) (z c : List Value), ifill z ps = some c → (∀ v ∈ z, okV S v ∧ one1 v = true) → (∀ p ∈ ps, okV S p.2.2) → ∀ v ∈ c, okV S v ∧ one1 v = true
  | [], z, c, h, hz, _ => by simp only [ifill] at h; cases h; exact hz
  | (o, n, v) :: ps, z, c, h, hz, hp => by
    simp only [ifill] at h
    split at h <;> try (cases h; done)
    rename_i hc
    refine ifill_ok ps _ c h (fun u hu => ?_) (fun p hp' => hp p (by simp [hp']))
    rcases lay_mem hu with hu | hu
    · exact hz u hu
    · exact cells_ok (hp (o, n, v) (by simp)) hc.2.2 u hu

theorem flat_ok {n : Nat} {z : List Value} (h : z.all flat1 = true) : (∀ v ∈ z, okV (· < n) v ∧ one1 v = true) ∧ ∀ σ : Nat → Nat, z.map (ren σ) = z := by
  rw [List.all_eq_true] at h
  refine ⟨fun v hv => ?_, fun σ => map_flat1 h σ⟩
  have := flat1_tr (h v hv) (fun _ => default) (· < n)
  exact ⟨this.2.1, by rw [one1_eq]; exact this.2.2.1⟩

theorem flatV_ok {n : Nat} {z : Value} (h : flatV z = true) : okV (· < n) z := (flatV_tr h (fun _ => default) _).2.1

end Go.IM

namespace Go.IM
open Go Go.RowKit
set_option linter.unusedVariables false
set_option linter.unusedSimpArgs false

variable {σ σ1 σ2 : Nat → Nat} {A A1 A2 B B1 B2 : Heap} {v w : Value} {f g : Fr} {n m ng : Nat}

theorem bnd_ren {x : Operand} {y : Nat} (e : ev g x = ren σ (ev f x)) : bnd g x y = bnd f x y := by
  unfold bnd; rw [e, int?_ren]

theorem bnds_ren {len cap : Nat} {lo hi mx : Option Operand} (e : ∀ x ∈ lo.toList ++ hi.toList ++ mx.toList, ev g x = ren σ (ev f x)) : bnds g len cap lo hi mx = bnds f len cap lo hi mx := by
  have b : ∀ x ∈ lo.toList ++ hi.toList ++ mx.toList, ∀ y, bnd g x y = bnd f x y := fun x hx y => bnd_ren (e x hx)
  cases lo <;> cases hi <;> cases mx <;> simp at b <;> delta bnds <;> simp only [b]

theorem islc_ren {k : SlK} {x : Value} {lo hi mx : Option Operand} (h : HR ng σ A B) (e : ∀ x ∈ lo.toList ++ hi.toList ++ mx.toList, ev g x = ren σ (ev f x)) (ox : okV (· < A.length) x) (he : islc k x f lo hi mx A = some (v, A1)) :
    RO ng σ A B (islc k (ren σ x) g lo hi mx B) v A1 := by
  have bs : ∀ len cap, bnds g len cap lo hi mx = bnds f len cap lo hi mx := fun len cap => bnds_ren e
  unfold islc at he
  split at he
  · rename_i s
    split at he <;> try (cases he; done)
    rename_i hm
    split at he <;> cases he
    rename_i l hh m hb
    have e2 : mx = none := by cases mx <;> simp_all
    subst e2
    have : islc .str (ren σ (.string s)) g lo hi none B = some (ren σ (.string (s.extract l hh)), B) := by
      simp only [ren, islc, Option.isSome_none, Bool.false_eq_true, if_false, bs, hb]
    rw [this]
    exact RO.same h (by simp [okV])
  · rename_i n esz a
    split at he <;> cases he
    rename_i l hh m hb
    simp only [okV] at ox
    have : islc (.arr n esz) (ren σ (.pointer (some a))) g lo hi mx B = some (ren σ (.slice (some (if m = l then a else a.add (l * esz))) (hh - l) (2 * (m - l))), B) := by
      simp only [ren, islc, bs, hb, renA]
      congr 4
      split <;> simp [renA, Addr.add]
      split <;> simp
    rw [this]
    refine RO.same h ?_
    simp only [okV]
    split
    · exact ox
    · unfold Addr.add; split
      · exact ox
      · exact ⟨ox.1, by simp [ox.2]⟩
  · rename_i esz a n c
    split at he
    · rename_i hc
      split at he <;> try (cases he; done)
      rename_i hn
      split at he <;> cases he
      rename_i l hh m hb
      cases a with
      | none =>
        have : islc (.sl esz) (ren σ (.slice none n c)) g lo hi mx B = some (ren σ (.slice (if m = l then none else (none : Option Addr).map (·.add (l * esz))) (hh - l) (2 * (m - l))), B) := by
          simp only [ren, islc, bs, hb, hc, if_true, hn, if_false]
          split <;> simp [ren]
        rw [this]
        refine RO.same h ?_
        simp only [okV] at ox
        obtain ⟨rfl, rfl⟩ := ox
        have hb' : hh = 0 ∧ m = 0 := by
          revert hb
          delta bnds
          have z : ∀ x : Operand, ∀ y, bnd f x 0 = some y → y = 0 := by
            intro x y hy; unfold bnd at hy; split at hy <;> try (cases hy; done)
            split at hy <;> cases hy; omega
          cases mx with
          | none =>
            cases hi with
            | none => cases lo with
              | none => intro hb; simp at hb; omega
              | some x =>
                intro hb; simp only at hb
                split at hb <;> simp at hb
                omega
            | some y =>
              intro hb; simp only at hb
              split at hb <;> try (cases hb; done)
              rename_i h0 hy
              have := z _ _ hy
              split at hb <;> simp at hb
              omega
          | some w =>
            intro hb; simp only at hb
            split at hb <;> try (cases hb; done)
            rename_i m0 hw
            have := z _ _ hw
            subst this
            cases hi with
            | none => simp at hb
            | some y =>
              simp only at hb
              split at hb <;> try (cases hb; done)
              rename_i h0 hy
              have := z _ _ hy
              split at hb <;> simp at hb
              omega
        split <;> simp [okV] <;> omega
      | some a =>
        have : islc (.sl esz) (ren σ (.slice (some a) n c)) g lo hi mx B = some (ren σ (.slice (if m = l then some a else (some a).map (·.add (l * esz))) (hh - l) (2 * (m - l))), B) := by
          simp only [ren, islc, bs, hb, hc, if_true, hn, if_false]
          split <;> simp [ren, renA, Addr.add]
          split <;> simp
        rw [this]
        refine RO.same h ?_
        simp only [okV] at ox
        split
        · simpa only [okV] using ox
        · simp only [Option.map_some, okV]
          unfold Addr.add; split
          · exact ox
          · exact ⟨ox.1, by simp [ox.2]⟩
    · rename_i hc
      split at he <;> try (cases he; done)
      rename_i a
      split at he <;> try (cases he; done)
      rename_i r e' hw
      split at he <;> try (cases he; done)
      rename_i hcond
      split at he <;> try (cases he; done)
      rename_i l hh m hb
      simp only [okV] at ox
      obtain ⟨w1, w2, w3⟩ := h.wrow hw
      have base : islc (.sl esz) (ren σ (.slice (some a) n c)) g lo hi mx B = (if mx.isSome = true then some (.slice (some (if m = l then renA σ a else (renA σ a).add (l * esz))) (hh - l) (2 * (m - l)), B)
          else if l = n ∧ 0 < l then some (.slice (some ⟨B.length, 0, none⟩) 0 1, B ++ [.dead]) else some (.slice (some ((renA σ a).add (l * esz))) (hh - l) 1, B)) := by
        simp only [ren, islc, hc, if_false, renA, w1, List.length_map, hcond, and_self, if_true, bs, hb]
      have addR : ∀ k, (renA σ a).add k = renA σ (a.add k) := fun k => by unfold Addr.add; split <;> rfl
      have addO : ∀ k, (a.add k).block < A.length ∧ (a.add k).spot = none := fun k => by
        unfold Addr.add; split
        · exact ox
        · exact ⟨ox.1, by simp [ox.2]⟩
      rw [base]
      split at he
      · rename_i hm; rw [if_pos hm]; cases he
        have : (if m = l then renA σ a else (renA σ a).add (l * esz)) = renA σ (if m = l then a else a.add (l * esz)) := by split; rfl; exact addR _
        rw [this]
        have := RO.same (v := .slice (some (if m = l then a else a.add (l * esz))) (hh - l) (2 * (m - l))) h (by simp only [okV]; split; exact ox; exact addO _)
        simpa only [ren] using this
      · rename_i hm; rw [if_neg hm]
        split at he
        · rename_i hl; rw [if_pos hl]; cases he
          exact RO.pushS h (o := .dead) trivial rfl 0 1
        · rename_i hl; rw [if_neg hl]; cases he
          rw [addR]
          have := RO.same (v := .slice (some (a.add (l * esz))) (hh - l) 1) h (by simp only [okV]; exact addO _)
          simpa only [ren] using this
  · cases he

theorem iapp_ren {esz bytes k : Nat} {x : Value} {xs : List Value} (h : HR ng σ A B) (ox : okV (· < A.length) x) (oxs : ∀ c ∈ xs, okV (· < A.length) c ∧ one1 c = true) (he : iapp esz bytes x k xs A = some (v, A1)) :
    RO ng σ A B (iapp esz bytes (ren σ x) k (xs.map (ren σ)) B) v A1 := by
  unfold iapp at he
  split at he <;> try (cases he; done)
  rename_i h0
  have h0' : (xs.map (ren σ)).length = k * esz ∧ 0 < esz := by simpa using h0
  split at he
  · rename_i l c
    have base : iapp esz bytes (ren σ (.slice none l c)) k (xs.map (ren σ)) B = if k = 0 then some (.slice none 0 0, B)
        else if k * bytes < 1099511627776 ∧ k < 1099511627776 then some (.slice (some ⟨B.length, 0, none⟩) k 1, B ++ [.cells (xs.map (ren σ)) false esz]) else none := by
      simp only [ren, iapp, h0', and_self, if_true]
    rw [base]
    split at he
    · rename_i e; rw [if_pos e]; cases he; have := RO.same (v := .slice none 0 0) h (by simp [okV]); simpa only [ren] using this
    · rename_i e; rw [if_neg e]
      split at he
      · rename_i e2; rw [if_pos e2]; cases he
        exact RO.pushS h (o := .cells xs false esz) oxs rfl k 1
      · cases he
  · rename_i a l c
    simp only [okV] at ox
    split at he
    · rename_i hc
      split at he
      · rename_i hle
        split at he
        · rename_i e; cases he
          have : iapp esz bytes (ren σ (.slice (some a) l c)) k (xs.map (ren σ)) B = some (ren σ (.slice (some a) l c), B) := by
            simp only [ren, iapp, h0', and_self, if_true, hc, hle, e]
            subst e; simp at hle; simp [hle]
          rw [this]; exact RO.same h (by simpa only [okV] using ox)
        · rename_i e
          split at he <;> try (cases he; done)
          rename_i r lo hw
          split at he <;> cases he
          rename_i hfit
          obtain ⟨w1, w2, w3⟩ := h.wrow hw
          have : iapp esz bytes (ren σ (.slice (some a) l c)) k (xs.map (ren σ)) B = some (ren σ (.slice (some a) (l + k) c), B.set (σ a.block) (renO σ (.cells (lay r (a.off + l * esz) xs) false lo))) := by
            simp only [ren, iapp, h0', and_self, if_true, hc, hle, e, if_false, renA, w1, List.length_map, hfit, lay_map, renO]
          rw [this]
          exact RO.set h w2 (o := .cells (lay r (a.off + l * esz) xs) false lo) (fun u hu => by rcases lay_mem hu with hu | hu; exact w3 u hu; exact oxs u hu) (by simpa only [okV] using ox)
      · rename_i hle
        split at he <;> try (cases he; done)
        rename_i hsz
        split at he <;> cases he
        rename_i k' old hel
        obtain ⟨e1, e2⟩ := elems_ren h hel
        have : iapp esz bytes (ren σ (.slice (some a) l c)) k (xs.map (ren σ)) B = some (.slice (some ⟨B.length, 0, none⟩) (l + k) 1, B ++ [renO σ (.cells (old ++ xs) false esz)]) := by
          simp only [ren] at e1
          simp only [ren, iapp, h0', and_self, if_true, hc, hle, if_false, hsz, e1, renO, List.map_append]
        rw [this]
        exact RO.pushS h (o := .cells (old ++ xs) false esz) (fun u hu => by rcases List.mem_append.1 hu with hu | hu; exact e2 u hu; exact oxs u hu) rfl (l + k) 1
    · rename_i hc
      split at he <;> try (cases he; done)
      rename_i r e' hw
      split at he <;> try (cases he; done)
      rename_i he'
      split at he <;> try (cases he; done)
      rename_i old hcut
      obtain ⟨w1, w2, w3⟩ := h.wrow hw
      have base : iapp esz bytes (ren σ (.slice (some a) l c)) k (xs.map (ren σ)) B = if k = 0 then some (.slice (some (renA σ a)) l 1, B)
          else if (l + k) * bytes < 1099511627776 ∧ l + k < 1099511627776 then some (.slice (some ⟨B.length, 0, none⟩) (l + k) 1, (B.set (σ a.block) .dead) ++ [.cells ((old ++ xs).map (ren σ)) false esz]) else none := by
        simp only [ren, iapp, h0', and_self, if_true, hc, if_false, renA, w1, he', cut_map, hcut, Option.map_some, List.map_append]
      rw [base]
      split at he
      · rename_i e; rw [if_pos e]; cases he
        have := RO.same (v := .slice (some a) l 1) h (by simpa only [okV] using ox)
        simpa only [ren] using this
      · rename_i e; rw [if_neg e]
        split at he
        · rename_i e2; rw [if_pos e2]; cases he
          obtain ⟨s1, s2⟩ := h.set w2 (o := .dead) trivial
          have ol : ∀ c ∈ old ++ xs, okV (· < (A.set a.block .dead).length) c ∧ one1 c = true := by
            intro u hu; simp only [List.length_set]
            rcases List.mem_append.1 hu with hu | hu
            · exact w3 u (cut_mem hcut u hu)
            · exact oxs u hu
          obtain ⟨σ1, B1, r1, r2, r3, r4⟩ := RO.pushS s1 (o := .cells (old ++ xs) false esz) ol rfl (l + k) 1
          simp only [List.length_set, renO] at r1 r4 ⊢
          exact ⟨σ1, B1, r1, r2, s2.trans r3, r4⟩
        · cases he
  · cases he

end Go.IM

namespace Go.IM
open Go Go.RowKit
set_option linter.unusedVariables false
set_option linter.unusedSimpArgs false

variable {σ σ1 σ2 : Nat → Nat} {A A1 A2 B B1 B2 : Heap} {v w : Value} {f g : Fr} {n m ng : Nat}

theorem add_ren (σ : Nat → Nat) (a : Addr) (k : Nat) : (renA σ a).add k = renA σ (a.add k) := by unfold Addr.add; split <;> rfl
theorem add_ok {a : Addr} {k : Nat} (h : a.block < n ∧ a.spot = none) : (a.add k).block < n ∧ (a.add k).spot = none := by
  unfold Addr.add; split
  · exact h
  · exact ⟨h.1, by simp [h.2]⟩
theorem RO.flat (h : HR ng σ A B) (hv : flat1 v = true) : RO ng σ A B (some (v, B)) v A := by
  have := RO.same (v := v) h (flat1_tr hv (fun _ => default) _).2.1
  rwa [flat1_ren hv] at this
theorem RO.of (x : Option (Value × Heap)) {y : Option (Value × Heap)} (r : RO ng σ A B y v A1) (e : x = y) : RO ng σ A B x v A1 := by rw [e]; exact r
theorem agg_ok {S : Nat → Prop} {xs : List Value} (h : ∀ c ∈ xs, okV S c ∧ one1 c = true) : okV S (.agg xs.toArray) := by
  simp only [okV]; intro c hc; exact h c (by simpa using hc)
theorem ren_agg (σ : Nat → Nat) (xs : List Value) : ren σ (.agg xs.toArray) = .agg (xs.map (ren σ)).toArray := by simp [ren]
theorem parts_ren {ps : List (Nat × Nat × Operand)} (e : ∀ x ∈ ps.map (·.2.2), ev g x = ren σ (ev f x)) : ps.map (fun (o, n, x) => (o, n, ev g x)) = (ps.map fun (o, n, x) => (o, n, ev f x)).map fun p => (p.1, p.2.1, ren σ p.2.2) := by
  rw [List.map_map]
  refine List.map_congr_left fun p hp => ?_
  obtain ⟨o, n, x⟩ := p
  simp only [Function.comp]
  rw [e x (List.mem_map.2 ⟨_, hp, rfl⟩)]
theorem parts_ok {S : Nat → Prop} {ps : List (Nat × Nat × Operand)} (e : ∀ x ∈ ps.map (·.2.2), okV S (ev f x)) : ∀ p ∈ ps.map (fun (o, n, x) => (o, n, ev f x)), okV S p.2.2 := by
  intro p hp
  obtain ⟨q, hq, rfl⟩ := List.mem_map.1 hp
  exact e q.2.2 (List.mem_map.2 ⟨q, hq, rfl⟩)
theorem rep_ok {S : Nat → Prop} {z : List Value} {k : Nat} (h : ∀ c ∈ z, okV S c ∧ one1 c = true) : ∀ c ∈ (List.replicate k z).flatten, okV S c ∧ one1 c = true := by
  intro c hc
  obtain ⟨l, hl, hcl⟩ := List.mem_flatten.1 hc
  rw [(List.mem_replicate.1 hl).2] at hcl
  exact h c hcl
theorem rep_ren {z : List Value} {k : Nat} (h : ∀ σ : Nat → Nat, z.map (ren σ) = z) (σ : Nat → Nat) : ((List.replicate k z).flatten).map (ren σ) = (List.replicate k z).flatten := by
  rw [List.map_flatten, List.map_replicate, h σ]

theorem modify_ren (σ : Nat → Nat) (es : List MapEntry) (i : Nat) (x : Value) : (es.map (renE σ)).modify i (fun e => { e with val := ren σ x }) = (es.modify i fun e => { e with val := x }).map (renE σ) := by
  apply List.ext_getElem?
  intro k
  simp only [List.getElem?_modify, List.getElem?_map]
  by_cases e : i = k
  · simp only [e, if_true]; cases es[k]? <;> rfl
  · simp only [e, if_false]; cases es[k]? <;> rfl

theorem modify_ok {S : Nat → Prop} {es : List MapEntry} {i : Nat} {x : Value} (h : ∀ e ∈ es, okV S e.key ∧ okV S e.val) (hx : okV S x) : ∀ e ∈ es.modify i (fun e => { e with val := x }), okV S e.key ∧ okV S e.val := by
  intro e he
  obtain ⟨k, hk⟩ := List.mem_iff_getElem?.1 he
  rw [List.getElem?_modify] at hk
  cases ha : es[k]? with
  | none => rw [ha] at hk; simp at hk
  | some a =>
    rw [ha] at hk
    simp at hk
    subst hk
    have := h a (List.mem_of_getElem? ha)
    split
    · exact ⟨this.1, hx⟩
    · exact this

theorem map_eraseIdxI {α β : Type} (f : α → β) : ∀ (l : List α) (j : Nat), (l.eraseIdx j).map f = (l.map f).eraseIdx j
  | [], _ => by simp
  | a :: l, 0 => by simp
  | a :: l, j + 1 => by simp [map_eraseIdxI f l j]

theorem born_ren (σ : Nat → Nat) (es : List MapEntry) (b : Int) : (es.map (renE σ)).findIdx? (fun e => (e.born : Int) == b) = es.findIdx? (fun e => (e.born : Int) == b) := by
  rw [List.findIdx?_map]; rfl

/-- Every operation that stays as it is. -/
theorem ren_iop {i : IOp} (hz : zOk i = true) (h : HR ng σ A B) (ho : ∀ x ∈ opds i, ev g x = ren σ (ev f x) ∧ okV (· < A.length) (ev f x)) (he : iop i f A = some (v, A1)) :
    RO ng σ A B (iop i g B) v A1 := by
  cases i
  case mov x =>
    obtain ⟨e, o⟩ := ho x (by simp [opds])
    simp only [iop] at he; cases he
    exact .of _ (RO.same h o) (by simp only [iop, e])
  case pick c a b =>
    obtain ⟨e1, o1⟩ := ho c (by simp [opds])
    obtain ⟨e2, o2⟩ := ho a (by simp [opds])
    obtain ⟨e3, o3⟩ := ho b (by simp [opds])
    simp only [iop] at he
    split at he <;> cases he
    rename_i t ht
    cases t with
    | true => exact .of _ (RO.same h o2) (by simp only [iop, e1, ht, ren, e2, if_true])
    | false => exact .of _ (RO.same h o3) (by simp only [iop, e1, ht, ren, e3, Bool.false_eq_true, if_false])
  case una op x =>
    obtain ⟨e, o⟩ := ho x (by simp [opds])
    simp only [iop] at he
    split at he <;> cases he
    rename_i hu
    obtain ⟨u1, u2⟩ := iuna_ren σ hu
    exact .of _ (RO.flat h u2) (by simp only [iop, e, u1])
  case bin op x y =>
    obtain ⟨e1, o1⟩ := ho x (by simp [opds])
    obtain ⟨e2, o2⟩ := ho y (by simp [opds])
    simp only [iop] at he
    split at he <;> cases he
    rename_i hu
    obtain ⟨u1, u2⟩ := ibin_ren σ hu
    exact .of _ (RO.flat h u2) (by simp only [iop, e1, e2, u1])
  case eq k neq x y =>
    obtain ⟨e1, o1⟩ := ho x (by simp [opds])
    obtain ⟨e2, o2⟩ := ho y (by simp [opds])
    simp only [iop] at he
    split at he <;> cases he
    rename_i b hb
    exact .of _ (RO.flat h rfl) (by simp only [iop, e1, e2, ieq_ren σ k _ _ (by rw [hb]; simp), hb])
  case cnv k x =>
    obtain ⟨e, o⟩ := ho x (by simp [opds])
    simp only [iop] at he
    split at he <;> cases he
    rename_i hx
    exact .of _ (RO.flat h rfl) (by simp only [iop, e, hx, ren])
  case s2b x =>
    obtain ⟨e, o⟩ := ho x (by simp [opds])
    simp only [iop] at he
    split at he <;> cases he
    rename_i s hx
    exact .of _ (RO.pushS h (o := .cells (s.data.toList.map fun (b : UInt8) => Value.int .u8 (b.toNat : Int)) false 1) (str_ok s) rfl s.size 1) (by simp only [iop, e, hx, ren, renO, str_map])
  case b2s x =>
    obtain ⟨e, o⟩ := ho x (by simp [opds])
    simp only [iop] at he
    split at he <;> try (cases he; done)
    rename_i a n' c hx
    split at he <;> try (cases he; done)
    rename_i y xs hel
    split at he <;> cases he
    rename_i bs hbs
    obtain ⟨e1, _⟩ := elems_ren h hel
    refine .of _ (RO.flat h rfl) ?_
    cases a with
    | none => simp only [ren] at e1; simp only [iop, e, hx, ren, e1, bytes?_ren, hbs]
    | some a => simp only [ren] at e1; simp only [iop, e, hx, ren, e1, bytes?_ren, hbs]
  case new z =>
    simp only [iop] at he; cases he
    simp only [zOk] at hz
    obtain ⟨z1, z2⟩ := flat_ok (n := A.length) hz
    exact .of _ (RO.pushP h (o := .cells z false 0) z1 rfl) (by simp only [iop, renO, z2])
  case box k x =>
    obtain ⟨e, o⟩ := ho x (by simp [opds])
    simp only [iop] at he
    split at he <;> cases he
    rename_i hc
    exact .of _ (RO.pushP h (o := .cells (ev f x).cells.toList false 0) (cells_ok o hc.2) rfl) (by
      have hs : (ren σ (ev f x)).cells.size = k := by rw [cells_ren]; simpa using hc.1
      simp only [iop, e, hs, notTuple_ren, hc.2, and_self, if_true, renO]; rw [cells_ren]; simp)
  case bld z ps =>
    simp only [zOk] at hz
    obtain ⟨z1, z2⟩ := flat_ok (n := A.length) hz
    simp only [iop] at he
    split at he <;> cases he
    rename_i c hc
    have p1 := parts_ren (f := f) (g := g) (σ := σ) (ps := ps) (fun x hx => (ho x hx).1)
    have p2 := parts_ok (f := f) (S := (· < A.length)) (ps := ps) (fun x hx => (ho x hx).2)
    have fr := ifill_ren σ _ z c hc
    rw [z2] at fr
    refine .of _ (RO.same (v := .agg c.toArray) h (agg_ok (ifill_ok _ z c hc z1 p2))) ?_
    simp only [iop, p1, fr, ren_agg]
  case bsl k z ps =>
    simp only [zOk] at hz
    obtain ⟨z1, z2⟩ := flat_ok (n := A.length) hz
    simp only [iop] at he
    split at he <;> cases he
    rename_i c hc
    have p1 := parts_ren (f := f) (g := g) (σ := σ) (ps := ps) (fun x hx => (ho x hx).1)
    have p2 := parts_ok (f := f) (S := (· < A.length)) (ps := ps) (fun x hx => (ho x hx).2)
    have fr := ifill_ren σ _ z c hc
    rw [z2] at fr
    refine .of _ (RO.pushS h (o := .cells c false 0) (ifill_ok _ z c hc z1 p2) rfl k (2 * k)) ?_
    simp only [iop, p1, fr, renO]
  case ld1 a =>
    obtain ⟨e, o⟩ := ho a (by simp [opds])
    simp only [iop] at he
    split at he <;> try (cases he; done)
    rename_i p hp
    split at he <;> try (cases he; done)
    rename_i c hc
    split at he <;> cases he
    rename_i hv
    obtain ⟨r1, r2, r3⟩ := h.row hc
    refine .of _ (RO.same h (r3 v (List.mem_of_getElem? hv)).1) ?_
    simp only [iop, e, hp, ren, renA, r1, List.getElem?_map, hv, Option.map_some]
  case ldn k a =>
    obtain ⟨e, o⟩ := ho a (by simp [opds])
    simp only [iop] at he
    split at he <;> try (cases he; done)
    rename_i p hp
    split at he <;> try (cases he; done)
    rename_i c hc
    split at he <;> cases he
    rename_i xs hv
    obtain ⟨r1, r2, r3⟩ := h.row hc
    refine .of _ (RO.same (v := .agg xs.toArray) h (agg_ok fun c hc => r3 c (cut_mem hv c hc))) ?_
    simp only [iop, e, hp, ren, renA, r1, cut_map, hv, Option.map_some, ren_agg]
    try simp
  case sto k a x =>
    obtain ⟨e1, o1⟩ := ho a (by simp [opds])
    obtain ⟨e2, o2⟩ := ho x (by simp [opds])
    simp only [iop] at he
    split at he <;> try (cases he; done)
    rename_i p hp
    split at he <;> try (cases he; done)
    rename_i c lo hc
    split at he <;> cases he
    rename_i hcond
    obtain ⟨r1, r2, r3⟩ := h.wrow hc
    have hs : (ren σ (ev f x)).cells.size = k := by rw [cells_ren]; simpa using hcond.1
    refine .of _ (RO.set (v := undef) h r2 (o := .cells (lay c p.off (ev f x).cells.toList) false lo) (fun u hu => by rcases lay_mem hu with hu | hu; exact r3 u hu; exact cells_ok o2 hcond.2.2 u hu) (by simp [undef, okV])) ?_
    simp only [iop, e1, e2, hp, ren, renA, r1, hs, List.length_map, hcond.2.1, notTuple_ren, hcond.2.2, and_self, if_true, renO]
    rw [cells_ren, Array.toList_map, lay_map]
    simp [undef, ren]
  case stk k a x ks =>
    obtain ⟨e1, o1⟩ := ho a (by simp [opds])
    obtain ⟨e2, o2⟩ := ho x (by simp [opds])
    simp only [iop] at he
    split at he <;> try (cases he; done)
    rename_i p hp
    split at he <;> try (cases he; done)
    rename_i c lo hc
    split at he <;> cases he
    rename_i hcond
    obtain ⟨hcond, hks⟩ := hcond
    obtain ⟨r1, r2, r3⟩ := h.wrow hc
    have hs : (ren σ (ev f x)).cells.size = k := by rw [cells_ren]; simpa using hcond.1
    have hks' : ∀ y ∈ ks, apart (renA σ p) k y.1 (ev g y.2) := by
      intro y hy
      obtain ⟨e3, o3⟩ := ho y.2 (by simp only [opds, List.mem_cons, List.mem_map]; exact .inr (.inr ⟨y, hy, rfl⟩))
      have := hks y hy
      rw [e3]
      revert this
      cases hev : ev f y.2 with
      | pointer q =>
        cases q with
        | none => intro _; simp [ren, apart]
        | some q =>
          rw [hev] at o3
          simp only [okV] at o3
          simp only [ren, apart, renA]
          rintro (hh | hh)
          · exact .inl fun eq => hh (h.inj _ _ r2 o3.1 eq)
          · exact .inr hh
      | slice q _ _ => cases q <;> simp [ren, apart]
      | map q => cases q <;> simp [ren, apart]
      | _ => simp [ren, apart]
    refine .of _ (RO.set (v := undef) h r2 (o := .cells (lay c p.off (ev f x).cells.toList) false lo) (fun u hu => by rcases lay_mem hu with hu | hu; exact r3 u hu; exact cells_ok o2 hcond.2.2 u hu) (by simp [undef, okV])) ?_
    have hcc : ((ren σ (ev f x)).cells.size = k ∧ (renA σ p).off + k ≤ (c.map (ren σ)).length ∧ notTuple (ren σ (ev f x)) = true) ∧ ∀ y ∈ ks, apart (renA σ p) k y.1 (ev g y.2) :=
      ⟨⟨hs, by rw [List.length_map]; exact hcond.2.1, by rw [notTuple_ren]; exact hcond.2.2⟩, hks'⟩
    simp only [iop, e1, e2, hp, ren]
    have r1' : B.wrow (renA σ p).block = some (c.map (ren σ), lo) := r1
    rw [r1']
    simp only [if_pos hcc, renO]
    rw [cells_ren, Array.toList_map]
    show some (undef, B.set (σ p.block) (.cells (lay (c.map (ren σ)) p.off _) false lo)) = _
    rw [lay_map]
    simp [undef, ren]
  case nck x =>
    obtain ⟨e, o⟩ := ho x (by simp [opds])
    simp only [iop] at he
    split at he <;> cases he
    · rename_i a hx
      rw [hx] at o
      refine .of _ (RO.same h o) ?_
      simp only [iop, e, hx, ren]
    · rename_i k a b hx
      rw [hx] at o
      refine .of _ (RO.same h o) ?_
      simp only [iop, e, hx, ren]
  case fad k x =>
    obtain ⟨e, o⟩ := ho x (by simp [opds])
    simp only [iop] at he
    split at he <;> cases he
    rename_i a hx
    rw [hx] at o
    simp only [okV] at o
    refine .of _ (RO.same (v := .pointer (some (a.add k))) h (by simp only [okV]; exact add_ok o)) ?_
    simp only [iop, e, hx, ren, add_ren]
  case ixa n' esz x i =>
    obtain ⟨e1, o1⟩ := ho x (by simp [opds])
    obtain ⟨e2, o2⟩ := ho i (by simp [opds])
    simp only [iop] at he
    split at he <;> try (cases he; done)
    rename_i a j hx hj
    split at he <;> cases he
    rename_i hc
    rw [hx] at o1
    simp only [okV] at o1
    refine .of _ (RO.same (v := .pointer (some (a.add (j.toNat * esz)))) h (by simp only [okV]; exact add_ok o1)) ?_
    simp only [iop, e1, e2, hx, int?_ren, hj, ren, if_pos hc, add_ren]
  case ixs esz x i =>
    obtain ⟨e1, o1⟩ := ho x (by simp [opds])
    obtain ⟨e2, o2⟩ := ho i (by simp [opds])
    simp only [iop] at he
    split at he <;> try (cases he; done)
    rename_i a l cp j hx hj
    split at he <;> cases he
    rename_i hc
    rw [hx] at o1
    simp only [okV] at o1
    refine .of _ (RO.same (v := .pointer (some (a.add (j.toNat * esz)))) h (by simp only [okV]; exact add_ok o1)) ?_
    simp only [iop, e1, e2, hx, int?_ren, hj, ren, if_pos hc, add_ren]
  case fld off k x =>
    obtain ⟨e, o⟩ := ho x (by simp [opds])
    simp only [iop] at he
    split at he <;> try (cases he; done)
    rename_i cs hx
    rw [hx] at o
    simp only [okV] at o
    cases k with
    | none =>
      simp only at he
      split at he <;> cases he
      rename_i hv
      refine .of _ (RO.same h (o v (by simpa using List.mem_of_getElem? hv)).1) ?_
      simp only [iop, e, hx, ren, Array.toList_map, List.getElem?_map, hv, Option.map_some]
    | some k =>
      simp only at he
      split at he <;> cases he
      rename_i xs hv
      refine .of _ (RO.same (v := .agg xs.toArray) h (agg_ok fun c hc => o c (by simpa using cut_mem hv c hc))) ?_
      simp only [iop, e, hx, ren, Array.toList_map, cut_map, hv, Option.map_some]
      simp
  case ixv len esz k x i =>
    obtain ⟨e, o⟩ := ho x (by simp [opds])
    obtain ⟨e2, o2⟩ := ho i (by simp [opds])
    simp only [iop] at he
    split at he <;> try (cases he; done)
    rename_i cs j hx hj
    rw [hx] at o
    simp only [okV] at o
    split at he <;> try (cases he; done)
    rename_i hc
    cases k with
    | none =>
      simp only at he
      split at he <;> cases he
      rename_i hv
      refine .of _ (RO.same h (o v (by simpa using List.mem_of_getElem? hv)).1) ?_
      simp only [iop, e, e2, int?_ren, hj, hx, ren, if_pos hc, Array.toList_map, List.getElem?_map, hv, Option.map_some]
    | some k =>
      simp only at he
      split at he <;> cases he
      rename_i xs hv
      refine .of _ (RO.same (v := .agg xs.toArray) h (agg_ok fun c hc => o c (by simpa using cut_mem hv c hc))) ?_
      simp only [iop, e, e2, int?_ren, hj, hx, ren, if_pos hc, Array.toList_map, cut_map, hv, Option.map_some]
      simp
  case ixt x i =>
    obtain ⟨e, o⟩ := ho x (by simp [opds])
    obtain ⟨e2, o2⟩ := ho i (by simp [opds])
    simp only [iop] at he
    split at he <;> try (cases he; done)
    rename_i s j hx hj
    split at he <;> try (cases he; done)
    rename_i hc
    split at he <;> cases he
    rename_i b hb
    exact .of _ (RO.flat h rfl) (by simp only [iop, e, e2, int?_ren, hj, hx, ren, if_pos hc, hb])
  case slc k x lo hi mx =>
    obtain ⟨e, o⟩ := ho x (by simp [opds])
    simp only [iop] at he
    exact .of _ (islc_ren h (fun y hy => (ho y (by simp only [opds, List.mem_cons]; exact .inr hy)).1) o he) (by simp only [iop, e])
  case mks esz bytes z l c =>
    obtain ⟨e1, o1⟩ := ho l (by simp [opds])
    obtain ⟨e2, o2⟩ := ho c (by simp [opds])
    simp only [zOk] at hz
    obtain ⟨z1, z2⟩ := flat_ok (n := A.length) hz
    simp only [iop] at he
    split at he <;> try (cases he; done)
    rename_i a b ha hb
    split at he <;> cases he
    rename_i hc
    refine .of _ (RO.pushS h (o := .cells ((List.replicate b.toNat z).flatten) false 0) (rep_ok z1) rfl a.toNat (2 * b.toNat)) ?_
    simp only [iop, e1, e2, int?_ren, ha, hb, if_pos hc, renO, rep_ren z2]
  case mki t x =>
    obtain ⟨e, o⟩ := ho x (by simp [opds])
    simp only [iop] at he; cases he
    exact .of _ (RO.same (v := .iface t (ev f x)) h (by simpa only [okV] using o)) (by simp only [iop, e, ren])
  case tas t zero ok x =>
    obtain ⟨e, o⟩ := ho x (by simp [opds])
    simp only [zOk] at hz
    have zr := flatV_ren hz σ
    have zo := flatV_ok (n := A.length) hz
    simp only [iop] at he
    split at he <;> try (cases he; done)
    · rename_i u y hx
      rw [hx] at o
      simp only [okV] at o
      split at he
      · rename_i hu; cases he
        cases ok with
        | true => exact .of _ (RO.same (v := .tuple #[y, .bool true]) h (by simp [okV, o])) (by simp [iop, e, hx, ren, hu])
        | false => exact .of _ (RO.same h o) (by simp [iop, e, hx, ren, hu])
      · rename_i hu
        split at he <;> cases he
        rename_i hk
        exact .of _ (RO.same (v := .tuple #[zero, .bool false]) h (by simp [okV, zo])) (by simp [iop, e, hx, ren, hu, hk, zr])
    · rename_i hx
      split at he <;> cases he
      rename_i hk
      exact .of _ (RO.same (v := .tuple #[zero, .bool false]) h (by simp [okV, zo])) (by simp [iop, e, hx, ren, hk, zr])
  case ext x i =>
    obtain ⟨e, o⟩ := ho x (by simp [opds])
    simp only [iop] at he
    split at he <;> try (cases he; done)
    rename_i vs hx
    split at he <;> cases he
    rename_i hv
    rw [hx] at o
    simp only [okV] at o
    refine .of _ (RO.same h (o v (by simpa using List.mem_of_getElem? hv))) ?_
    simp only [iop, e, hx, ren, Array.toList_map, List.getElem?_map, hv, Option.map_some]
  case fun_ fn first cap =>
    cases fn <;> first | (simp [zOk] at hz; done) | skip
    rename_i F
    simp only [iop] at he; cases he
    refine .of _ (RO.same (v := .func (.func F) (first.map (ev f)).toArray (cap.map (ev f)).toArray) h ?_) ?_
    · simp only [okV]
      refine ⟨⟨F, rfl⟩, fun u hu => ?_, fun u hu => ?_⟩
      · simp only [List.mem_toArray, List.mem_map] at hu
        obtain ⟨y, hy, rfl⟩ := hu
        exact (ho y (by simp [opds, hy])).2
      · simp only [List.mem_toArray, List.mem_map] at hu
        obtain ⟨y, hy, rfl⟩ := hu
        exact (ho y (by simp [opds, hy])).2
    · have a1 : first.map (ev g) = (first.map (ev f)).map (ren σ) := by rw [List.map_map]; exact List.map_congr_left fun y hy => (ho y (by simp [opds, hy])).1
      have a2 : cap.map (ev g) = (cap.map (ev f)).map (ren σ) := by rw [List.map_map]; exact List.map_congr_left fun y hy => (ho y (by simp [opds, hy])).1
      simp only [iop, a1, a2, ren]
      simp
  case len k x =>
    obtain ⟨e, o⟩ := ho x (by simp [opds])
    simp only [iop] at he
    split at he <;> try (cases he; done)
    · rename_i s hx; cases he; exact .of _ (RO.flat h rfl) (by simp only [iop, e, hx, ren])
    · cases he; exact .of _ (RO.flat h rfl) (by simp only [iop])
    · rename_i a l c hx; cases he
      refine .of _ (RO.flat h rfl) ?_
      cases a <;> simp only [iop, e, hx, ren]
    · rename_i hx; cases he; exact .of _ (RO.flat h rfl) (by simp only [iop, e, hx, ren])
    · rename_i r hx
      split at he <;> cases he
      rename_i es k hm
      obtain ⟨m1, m2, m3⟩ := h.mapAt hm
      exact .of _ (RO.flat h rfl) (by simp only [iop, e, hx, ren, m1, List.length_map])
  case cap x =>
    obtain ⟨e, o⟩ := ho x (by simp [opds])
    simp only [iop] at he
    split at he <;> try (cases he; done)
    rename_i a l c hx
    split at he <;> cases he
    rename_i hc
    refine .of _ (RO.flat h rfl) ?_
    cases a <;> simp only [iop, e, hx, ren, hc, if_true]
  case app esz bytes s x =>
    obtain ⟨e1, o1⟩ := ho s (by simp [opds])
    obtain ⟨e2, o2⟩ := ho x (by simp [opds])
    simp only [iop] at he
    split at he <;> try (cases he; done)
    rename_i k xs hel
    obtain ⟨l1, l2⟩ := elems_ren h hel
    exact .of _ (iapp_ren h o1 l2 he) (by simp only [iop, e1, e2, l1])
  case apz esz bytes z s x =>
    obtain ⟨e1, o1⟩ := ho s (by simp [opds])
    obtain ⟨e2, o2⟩ := ho x (by simp [opds])
    simp only [zOk] at hz
    obtain ⟨z1, z2⟩ := flat_ok (n := A.length) hz
    simp only [iop] at he
    split at he <;> try (cases he; done)
    rename_i k hk
    split at he <;> try (cases he; done)
    rename_i hc
    exact .of _ (iapp_ren h o1 (rep_ok z1) he) (by simp only [iop, e1, e2, int?_ren, hk, if_pos hc, rep_ren z2])
  case msk x =>
    obtain ⟨e, o⟩ := ho x (by simp [opds])
    simp only [iop] at he
    split at he <;> try (cases he; done)
    rename_i a l c hx
    split at he <;> cases he
    rename_i r hr
    obtain ⟨r, lo⟩ := r
    obtain ⟨r1, r2, r3⟩ := h.wrow hr
    rw [hx] at o
    exact .of _ (RO.same h o) (by simp only [iop, e, hx, ren, renA, r1])
  case cpy esz d s =>
    obtain ⟨e1, o1⟩ := ho d (by simp [opds])
    obtain ⟨e2, o2⟩ := ho s (by simp [opds])
    simp only [iop] at he
    split at he <;> try (cases he; done)
    · rename_i hd hs; cases he
      exact .of _ (RO.flat h rfl) (by simp only [iop, e1, e2, hd, lenv_ren, hs, ren])
    · rename_i a l c k hd hs
      split at he <;> try (cases he; done)
      rename_i xs hf
      obtain ⟨f1, f2⟩ := firsts_ren h hf
      split at he
      · rename_i hz0; cases he
        exact .of _ (RO.flat h rfl) (by simp only [iop, e1, e2, hd, lenv_ren, hs, ren, f1, if_pos hz0])
      · rename_i hz0
        split at he <;> try (cases he; done)
        rename_i r lo hr
        split at he <;> cases he
        rename_i hc
        obtain ⟨r1, r2, r3⟩ := h.wrow hr
        refine .of _ (RO.set (v := .int .i64 (min k l : Nat)) h r2 (o := .cells (lay r a.off xs) false lo) (fun u hu => by rcases lay_mem hu with hu | hu; exact r3 u hu; exact f2 u hu) (by simp [okV])) ?_
        simp only [iop, e1, e2, hd, lenv_ren, hs, ren, f1, if_neg hz0, renA, r1, List.length_map, hc, and_self, if_true, renO, lay_map]
  case clr z x =>
    obtain ⟨e, o⟩ := ho x (by simp [opds])
    simp only [zOk] at hz
    obtain ⟨z1, z2⟩ := flat_ok (n := A.length) hz
    have ht : ∀ C : Heap, okV (· < C.length) (.tuple #[]) := fun C => by simp [okV]
    simp only [iop] at he
    split at he <;> try (cases he; done)
    · rename_i hx; cases he
      exact .of _ (RO.same (v := .tuple #[]) h (ht A)) (by simp [iop, e, hx, ren])
    · rename_i a l c hx
      split at he
      · rename_i hl; cases he
        exact .of _ (RO.same (v := .tuple #[]) h (ht A)) (by simp [iop, e, hx, ren, hl])
      · rename_i hl
        split at he <;> try (cases he; done)
        rename_i r lo hr
        split at he <;> cases he
        rename_i hc
        obtain ⟨r1, r2, r3⟩ := h.wrow hr
        refine .of _ (RO.set (v := .tuple #[]) h r2 (o := .cells (lay r a.off ((List.replicate l z).flatten)) false lo) (fun u hu => by rcases lay_mem hu with hu | hu; exact r3 u hu; exact rep_ok z1 u hu) (ht A)) ?_
        simp only [iop, e, hx, ren, if_neg hl, renA, r1, List.length_map, if_pos hc, renO, ← lay_map, rep_ren z2]
        simp
  case mnx mx xs =>
    have a1 : xs.map (ev g) = (xs.map (ev f)).map (ren σ) := by rw [List.map_map]; exact List.map_congr_left fun y hy => (ho y (by simpa [opds] using hy)).1
    simp only [iop] at he
    split at he <;> try (cases he; done)
    rename_i k a rest hx
    split at he <;> cases he
    rename_i l hl
    refine .of _ (RO.flat h rfl) ?_
    have : ∀ rest : List Value, (rest.map (ren σ)).mapM int? = rest.mapM int? := by
      intro rest
      induction rest with
      | nil => rfl
      | cons y ys ih => simp only [List.map_cons, List.mapM_cons, int?_ren, ih]
    simp only [iop, a1, hx, List.map_cons, ren, this, hl]
  case mkm =>
    simp only [iop] at he; cases he
    exact .of _ (RO.pushM h (o := .map [] 0) (by simp [okO]) rfl) (by simp [iop, renO])
  case mkh x =>
    obtain ⟨e, o⟩ := ho x (by simp [opds])
    simp only [iop] at he
    split at he <;> cases he
    rename_i hx
    exact .of _ (RO.pushM h (o := .map [] 0) (by simp [okO]) rfl) (by simp [iop, e, hx, ren, renO])
  case lkp kk zero ok mm k =>
    obtain ⟨e1, o1⟩ := ho mm (by simp [opds])
    obtain ⟨e2, o2⟩ := ho k (by simp [opds])
    simp only [zOk] at hz
    have zr := flatV_ren hz σ
    have zo := flatV_ok (n := A.length) hz
    have res : ∀ (y : Value) (b : Bool), okV (· < A.length) y → RO ng σ A B (some (if ok = true then .tuple #[ren σ y, .bool b] else ren σ y, B)) (if ok = true then .tuple #[y, .bool b] else y) A := by
      intro y b hy
      cases ok with
      | true => exact .of _ (RO.same (v := .tuple #[y, .bool b]) h (by simp [okV, hy])) (by simp [ren])
      | false => exact .of _ (RO.same h hy) (by simp)
    simp only [iop] at he
    split at he <;> try (cases he; done)
    · rename_i hm
      split at he <;> cases he
      rename_i hk
      have := res zero false zo
      rw [zr] at this
      exact .of _ this (by simp only [iop, e1, e2, hm, ren, keyOk_ren σ kk _ hk, if_true])
    · rename_i r hm
      split at he <;> try (cases he; done)
      rename_i es ck hes
      obtain ⟨m1, m2, m3⟩ := h.mapAt hes
      split at he <;> try (cases he; done)
      · rename_i i hl
        split at he <;> cases he
        rename_i en hen
        have := res en.val true (m3 en (List.mem_of_getElem? hen)).2
        refine .of _ this ?_
        simp only [iop, e1, e2, hm, ren, m1, look_ren σ kk es _ (by rw [hl]; simp), hl, List.getElem?_map, hen, Option.map_some, renE]
      · rename_i hl; cases he
        have := res zero false zo
        rw [zr] at this
        exact .of _ this (by simp only [iop, e1, e2, hm, ren, m1, look_ren σ kk es _ (by rw [hl]; simp), hl])
  case mup kk mm k x =>
    obtain ⟨e1, o1⟩ := ho mm (by simp [opds])
    obtain ⟨e2, o2⟩ := ho k (by simp [opds])
    obtain ⟨e3, o3⟩ := ho x (by simp [opds])
    simp only [iop] at he
    split at he <;> try (cases he; done)
    rename_i r hm
    split at he <;> try (cases he; done)
    rename_i es ck hes
    obtain ⟨m1, m2, m3⟩ := h.mapAt hes
    split at he <;> cases he
    · rename_i i hl
      refine .of _ (RO.set (v := undef) h m2 (o := .map (es.modify i fun e => { e with val := ev f x }) ck) (modify_ok m3 o3) (by simp [undef, okV])) ?_
      simp only [iop, e1, e2, e3, hm, ren, m1, look_ren σ kk es _ (by rw [hl]; simp), hl, renO, modify_ren]
      simp [undef, ren]
    · rename_i hl
      refine .of _ (RO.set (v := undef) h m2 (o := .map (es ++ [{ key := ev f k, val := ev f x, born := ck }]) (ck + 1)) (fun e he => by
        rcases List.mem_append.1 he with he | he
        · exact m3 e he
        · simp at he; subst he; exact ⟨o2, o3⟩) (by simp [undef, okV])) ?_
      simp only [iop, e1, e2, e3, hm, ren, m1, look_ren σ kk es _ (by rw [hl]; simp), hl, renO, List.map_append, List.map_cons, List.map_nil, renE]
      simp [undef, ren]
  case men kk zero mm k =>
    obtain ⟨e1, o1⟩ := ho mm (by simp [opds])
    obtain ⟨e2, o2⟩ := ho k (by simp [opds])
    simp only [zOk] at hz
    have zr := flatV_ren hz σ
    have zo := flatV_ok (n := A.length) hz
    simp only [iop] at he
    split at he <;> try (cases he; done)
    rename_i r hm
    split at he <;> try (cases he; done)
    rename_i es ck hes
    obtain ⟨m1, m2, m3⟩ := h.mapAt hes
    split at he <;> try (cases he; done)
    · rename_i i hl
      split at he <;> cases he
      rename_i en hen
      refine .of _ (RO.same (v := .tuple #[en.val, .int .i64 en.born]) h (by simp [okV, (m3 en (List.mem_of_getElem? hen)).2])) ?_
      simp only [iop, e1, e2, hm, ren, m1, look_ren σ kk es _ (by rw [hl]; simp), hl, List.getElem?_map, hen, Option.map_some, renE]
      simp [ren]
    · rename_i hl; cases he
      refine .of _ (RO.set (v := .tuple #[zero, .int .i64 ck]) h m2 (o := .map (es ++ [{ key := ev f k, val := zero, born := ck }]) (ck + 1)) (fun e he => by
        rcases List.mem_append.1 he with he | he
        · exact m3 e he
        · simp at he; subst he; exact ⟨o2, zo⟩) (by simp [okV, zo])) ?_
      simp only [iop, e1, e2, hm, ren, m1, look_ren σ kk es _ (by rw [hl]; simp), hl, renO, List.map_append, List.map_cons, List.map_nil, renE, zr]
      simp [ren, zr]
  case mes mm s x =>
    obtain ⟨e1, o1⟩ := ho mm (by simp [opds])
    obtain ⟨e2, o2⟩ := ho s (by simp [opds])
    obtain ⟨e3, o3⟩ := ho x (by simp [opds])
    simp only [iop] at he
    split at he <;> try (cases he; done)
    rename_i r kk born hm hb
    split at he <;> try (cases he; done)
    rename_i es ck hes
    obtain ⟨m1, m2, m3⟩ := h.mapAt hes
    split at he <;> cases he
    rename_i i hi
    refine .of _ (RO.set (v := undef) h m2 (o := .map (es.modify i fun e => { e with val := ev f x }) ck) (modify_ok m3 o3) (by simp [undef, okV])) ?_
    simp only [iop, e1, e2, e3, hm, hb, ren, m1, born_ren, hi, renO, modify_ren]
    simp [undef, ren]
  case mdl kk mm k =>
    obtain ⟨e1, o1⟩ := ho mm (by simp [opds])
    obtain ⟨e2, o2⟩ := ho k (by simp [opds])
    have ht : ∀ C : Heap, okV (· < C.length) (.tuple #[]) := fun C => by simp [okV]
    simp only [iop] at he
    split at he <;> try (cases he; done)
    · rename_i hm
      split at he <;> cases he
      rename_i hk
      exact .of _ (RO.same (v := .tuple #[]) h (ht A)) (by simp [iop, e1, e2, hm, ren, keyOk_ren σ kk _ hk])
    · rename_i r hm
      split at he <;> try (cases he; done)
      rename_i es ck hes
      obtain ⟨m1, m2, m3⟩ := h.mapAt hes
      split at he <;> cases he
      · rename_i i hl
        refine .of _ (RO.set (v := .tuple #[]) h m2 (o := .map (es.eraseIdx i) ck) (fun e he => m3 e (List.mem_of_mem_eraseIdx he)) (ht A)) ?_
        simp only [iop, e1, e2, hm, ren, m1, look_ren σ kk es _ (by rw [hl]; simp), hl, renO, map_eraseIdxI]
        simp [ren]
      · rename_i hl
        exact .of _ (RO.same (v := .tuple #[]) h (ht A)) (by simp [iop, e1, e2, hm, ren, m1, look_ren σ kk es _ (by rw [hl]; simp), hl])
  all_goals first
    | (simp [zOk] at hz; done)
    | (simp [iop] at he; done)

end Go.IM

namespace Go.IM
open Go Go.RowKit
set_option linter.unusedVariables false
set_option linter.unusedSimpArgs false

/-! # Registers: variables of several cells that never leave their function -/

/-- What a temporary of a region stands for: cells of a register, or a list of values that is appended. -/
inductive DE where
  | adr (t o : Nat) (gd : Option (Nat × Bool))
  | lit (n : Nat) (gd : Option (Nat × Bool))
  | live
  deriving Inhabited

abbrev DM := List (Nat × DE)

structure PI where
  n : Nat
  bt : List Nat
  dt : List Nat

def PI.free (pi : PI) (t : Nat) : Bool := !pi.bt.contains t && !pi.dt.contains t

def PI.opd (pi : PI) (ng : Nat) : Operand → Bool
  | .tmp t => pi.free t
  | .const v => flatV v
  | .global g => g < ng
  | .func _ => true

def PI.dst (pi : PI) : Option Nat → Bool
  | none => true
  | some d => pi.free d

def PI.grd (pi : PI) : Option (Nat × Bool) → Bool
  | none => true
  | some (t, _) => pi.free t

def DE.gd : DE → Option (Nat × Bool)
  | .adr _ _ g | .lit _ g => g
  | .live => none

def sameG : Option (Nat × Bool) → Option (Nat × Bool) → Bool
  | none, _ => true
  | some (a, b), some (c, d) => a == c && b == d
  | some _, none => false

/-- Behind a write to a temporary. -/
def keepG (d : Option Nat) (dm : DM) : DM := match d with
  | none => dm
  | some d => dm.filter fun e => e.1 != d && (match e.2.gd with | some (u, _) => u != d | none => true)

def keepB (t : Nat) (dm : DM) : DM := dm.filter fun e => match e.2 with | .adr t' _ _ => t' != t | _ => true
def noLit (dm : DM) : DM := dm.filter fun e => match e.2 with | .lit .. => false | _ => true

def isLive (dm : DM) (t : Nat) : Bool := dm.any fun e => e.1 == t && (match e.2 with | .live => true | _ => false)
def liveIf (g : Option (Nat × Bool)) (t : Nat) (dm : DM) : DM := if g.isNone then (t, .live) :: dm else dm

def PI.adr (pi : PI) (dm : DM) (gd : Option (Nat × Bool)) : Operand → Option (Nat × Nat)
  | .tmp u => if pi.bt.contains u then some (u, 0) else match dm.lookup u with
    | some (.adr t o g) => if sameG g gd then some (t, o) else none
    | _ => none
  | _ => none

def PI.lit (dm : DM) (gd : Option (Nat × Bool)) : Operand → Option (Nat × Nat)
  | .tmp u => match dm.lookup u with
    | some (.lit n g) => if sameG g gd then some (u, n) else none
    | _ => none
  | _ => none

/-- A read at an address that a store to a register leaves. -/
def PI.far (pi : PI) (ng : Nat) (dm : DM) (t o n : Nat) (k : Nat × Operand) : Bool :=
  match pi.adr dm none k.2 with
  | some (t', o') => isLive dm t' && (t' != t || decide (o + n ≤ o') || decide (o' + k.1 ≤ o))
  | none => pi.opd ng k.2

def isPlainCall : IOp → Bool
  | .call .. | .pan _ => true
  | i => plainOp i && zOk i

def isReg : IOp → Bool
  | .reg _ | .regb .. | .upd .. | .apl .. => true
  | _ => false

def promO (ng : Nat) (pi : PI) (dm : DM) (o : IOper) : Option (IOper × DM) :=
  let same : Option (IOper × DM) := if (opds o.op).all (pi.opd ng) && pi.dst o.dst && isPlainCall o.op && !isReg o.op then some (o, keepG o.dst dm) else none
  if !pi.grd o.guard then none else
  match o.op with
  | .new z => match o.dst with
    | some t => if pi.bt.contains t then (if o.guard.isNone && !o.quiet && z.all flat1 then some (⟨some t, none, false, .reg z⟩, keepB t (keepG (some t) dm)) else none) else same
    | none => same
  | .box n x => match o.dst with
    | some t => if pi.bt.contains t then (if o.guard.isNone && !o.quiet && pi.opd ng x then some (⟨some t, none, false, .regb n x⟩, keepB t (keepG (some t) dm)) else none) else same
    | none => same
  | .bsl n z ps => match o.dst with
    | some d => if pi.dt.contains d then (if decide (d < pi.n) && !pi.bt.contains d && !o.quiet && z.all flat1 && decide (0 < n) && (ps.map (·.2.2)).all (pi.opd ng) then some (⟨some d, o.guard, false, .bld z ps⟩, (d, .lit n o.guard) :: keepG (some d) dm) else none) else same
    | none => same
  | .app esz bytes s x => match PI.lit dm o.guard x with
    | some (u, n) => if pi.opd ng s && pi.dst o.dst then some (⟨o.dst, o.guard, o.quiet, .apl esz bytes n s (.tmp u)⟩, keepG o.dst dm) else none
    | none => same
  | .fad off x => match pi.adr dm o.guard x with
    | some (t, b) => match o.dst with
      | some d => if decide (d < pi.n) && pi.dt.contains d && !pi.bt.contains d && !o.quiet then some (⟨some d, o.guard, false, .fld 0 (some 0) (.tmp t)⟩, (d, .adr t (b + off) o.guard) :: liveIf o.guard t (keepG (some d) dm)) else none
      | none => none
    | none => same
  | .ld1 x => match pi.adr dm o.guard x with
    | some (t, b) => if pi.dst o.dst && !o.quiet then some (⟨o.dst, o.guard, false, .fld b none (.tmp t)⟩, liveIf o.guard t (keepG o.dst dm)) else none
    | none => same
  | .ldn n x => match pi.adr dm o.guard x with
    | some (t, b) => if pi.dst o.dst && !o.quiet then some (⟨o.dst, o.guard, false, .fld b (some n) (.tmp t)⟩, liveIf o.guard t (keepG o.dst dm)) else none
    | none => same
  | .sto n a x => match pi.adr dm o.guard a with
    | some (t, b) => if o.guard.isNone && o.dst.isNone && !o.quiet && pi.opd ng x then some (⟨some t, none, false, .upd b n (.tmp t) x⟩, liveIf none t (noLit (keepG (some t) dm))) else none
    | none => same
  | .stk n a x ks => match pi.adr dm o.guard a with
    | some (t, b) => if o.guard.isNone && o.dst.isNone && !o.quiet && pi.opd ng x && ks.all (pi.far ng dm t b n) then some (⟨some t, none, false, .upd b n (.tmp t) x⟩, liveIf none t (noLit (keepG (some t) dm))) else none
    | none => if o.guard.isNone && pi.opd ng a && pi.opd ng x && pi.dst o.dst && ks.all (fun k => pi.opd ng k.2 || (match pi.adr dm none k.2 with | some (t, _) => isLive dm t | none => false)) then
        some (⟨o.dst, o.guard, o.quiet, .stk n a x (ks.filter fun k => pi.opd ng k.2)⟩, keepG o.dst dm) else none
  | _ => same

def promOps (ng : Nat) (pi : PI) : DM → List IOper → Option (List IOper)
  | _, [] => some []
  | dm, o :: os => match promO ng pi dm o with
    | some (o', dm') => match promOps ng pi dm' os with
      | some l => some (o' :: l)
      | none => none
    | none => none

def promC (ng : Nat) (pi : PI) : ICode → Option ICode
  | .skip => some .skip
  | .ops d l => (promOps ng pi [] l).map (.ops d)
  | .seq a b => match promC ng pi a, promC ng pi b with
    | some a, some b => some (.seq a b)
    | _, _ => none
  | .cond c a b => match promC ng pi a, promC ng pi b with
    | some a, some b => if pi.opd ng c then some (.cond c a b) else none
    | _, _ => none
  | .block i a => (promC ng pi a).map (.block i)
  | .loop a => (promC ng pi a).map .loop
  | .exit i => some (.exit i)
  | .ret => some .ret

def promRes (pi : PI) : IRes → Option IRes
  | .tmp t => if pi.free t then some (.tmp t) else none
  | .cell t => if pi.bt.contains t then some (.reg1 t) else if pi.free t then some (.cell t) else none
  | .agg t n => if pi.bt.contains t then some (.rega t n) else if pi.free t then some (.agg t n) else none
  | .rega .. | .reg1 _ => none

def promRs (pi : PI) : List IRes → Option (List IRes)
  | [] => some []
  | r :: rs => match promRes pi r, promRs pi rs with
    | some r, some rs => some (r :: rs)
    | _, _ => none

def resets (l : List Nat) : List IOper := l.map fun t => ⟨some t, none, false, .mov (.const undef)⟩

/-- The registers are empty at first. -/
def addR (l : List Nat) : ICode → Option ICode
  | .ops d os => some (.ops d (resets l ++ os))
  | .seq a b => (addR l a).map (.seq · b)
  | .block i a => (addR l a).map (.block i)
  | _ => none

def promFn (ng : Nat) (pi : PI) (fn : IFn) : Option IFn :=
  if pi.n != fn.ntmps then none else match promC ng pi fn.code, promRs pi fn.results with
  | some c, some rs => match (if pi.bt.isEmpty then some c else addR pi.bt c) with
    | some c => some { ntmps := fn.ntmps, results := rs, code := c }
    | none => none
  | _, _ => none

/-! ## The two runs -/

def renP (σ : Nat → Nat) (p : PanicEntry) : PanicEntry := { p with v := ren σ p.v }
def renEnd (σ : Nat → Nat) : IEnd → IEnd
  | .ret v => .ret (ren σ v)
  | .pan ch => .pan (ch.map (renP σ))
def renX (σ : Nat → Nat) : IExit → IExit
  | .panic ch => .panic (ch.map (renP σ))
  | x => x

def SimCall (ng : Nat) (call' call : CallFn) : Prop := ∀ F args A e A1 σ B, call' F args A = some (e, A1) → HR ng σ A B → (∀ v ∈ args, okV (· < A.length) v) →
  ∃ σ1 B1, call F (args.map (ren σ)) B = some (renEnd σ1 e, B1) ∧ HR ng σ1 A1 B1 ∧ EX σ A B σ1 A1 B1 ∧ okEnd (· < A1.length) e

/-- A block that only the second run has. -/
structure Own2 (σ : Nat → Nat) (A B : Heap) (b0 b : Nat) (cs : Array Value) : Prop where
  low : b0 ≤ b
  obj : B[b]? = some (.cells (cs.toList.map (ren σ)) false 0)
  out : ∀ i, i < A.length → σ i ≠ b
  ok : ∀ c ∈ cs.toList, okV (· < A.length) c ∧ one1 c = true

structure SR (ng : Nat) (pi : PI) (σ0 : Nat → Nat) (A0 B0 : Heap) (σ : Nat → Nat) (A B : Heap) (f g : Fr) : Prop where
  hr : HR ng σ A B
  ex : EX σ0 A0 B0 σ A B
  len : f.length = g.length
  nl : pi.n ≤ f.length
  val : ∀ t, pi.free t = true → g.getD t undef = ren σ (f.getD t undef) ∧ okV (· < A.length) (f.getD t undef)
  reg : ∀ t cs, pi.bt.contains t = true → f.getD t undef = .agg cs → ∃ b, g.getD t undef = .pointer (some ⟨b, 0, none⟩) ∧ Own2 σ A B B0.length b cs
  sep : ∀ t t' cs cs' b, pi.bt.contains t = true → pi.bt.contains t' = true → f.getD t undef = .agg cs → f.getD t' undef = .agg cs' →
    g.getD t undef = .pointer (some ⟨b, 0, none⟩) → g.getD t' undef = .pointer (some ⟨b, 0, none⟩) → t = t'

/-- What a temporary of a region stands for. -/
def DOk (pi : PI) (σ : Nat → Nat) (A B : Heap) (b0 : Nat) (f g : Fr) (d : Nat) : DE → Prop
  | .adr t o gd => pi.bt.contains t = true ∧ pi.dt.contains d = true ∧ pi.bt.contains d = false ∧ pi.grd gd = true ∧ (wants gd f = true → ∃ b, g.getD t undef = .pointer (some ⟨b, 0, none⟩) ∧ g.getD d undef = .pointer (some ⟨b, o, none⟩))
  | .lit n gd => 0 < n ∧ pi.dt.contains d = true ∧ pi.grd gd = true ∧ (wants gd f = true → ∃ b cs, f.getD d undef = .agg cs ∧ g.getD d undef = .slice (some ⟨b, 0, none⟩) n (2 * n) ∧ b < B.length ∧ Own2 σ A B b0 b cs)
  | .live => pi.bt.contains d = true ∧ ∃ cs, f.getD d undef = .agg cs

def DMR (pi : PI) (σ : Nat → Nat) (A B : Heap) (b0 : Nat) (f g : Fr) (dm : DM) : Prop := ∀ d e, (d, e) ∈ dm → DOk pi σ A B b0 f g d e

variable {σ0 σ σ1 σ2 : Nat → Nat} {A0 A A1 A2 B0 B B1 B2 : Heap} {v w : Value} {f g : Fr} {n m ng : Nat} {pi : PI} {dm : DM}

theorem free_bt {t : Nat} (h : pi.free t = true) : pi.bt.contains t = false := by simp [PI.free] at h; simp [h.1]
theorem free_dt {t : Nat} (h : pi.free t = true) : pi.dt.contains t = false := by simp [PI.free] at h; simp [h.2]
theorem ne_of_contains {l : List Nat} {a b : Nat} (h1 : l.contains a = true) (h2 : l.contains b = false) : a ≠ b := fun e => by subst e; rw [h1] at h2; cases h2

theorem getD_put (f : Fr) (d : Option Nat) (v : Value) (t : Nat) : (put d v f).getD t undef = if d = some t ∧ t < f.length then v else f.getD t undef := by
  cases d with
  | none => simp [put]
  | some d =>
    simp only [put, List.getD_eq_getElem?_getD, List.getElem?_set, Option.some.injEq]
    by_cases h : d = t
    · subst h
      by_cases h2 : d < f.length
      · simp [h2]
      · simp [h2, List.getElem?_eq_none (Nat.le_of_not_lt h2)]
    · simp [h]

theorem getD_put_ne (f : Fr) (d : Option Nat) (v : Value) (t : Nat) (h : d ≠ some t) : (put d v f).getD t undef = f.getD t undef := by rw [getD_put]; simp [h]
theorem len_put (f : Fr) (d : Option Nat) (v : Value) : (put d v f).length = f.length := by cases d <;> simp [put]

theorem Own2.step {b0 b : Nat} {cs : Array Value} (h : Own2 σ A B b0 b cs) (hr : HR ng σ A B) (e : EX σ A B σ1 A1 B1) : Own2 σ1 A1 B1 b0 b cs := by
  have hb : b < B.length := (List.getElem?_eq_some_iff.1 h.obj).1
  refine ⟨h.low, ?_, fun i hi => ?_, fun c hc => ⟨okV_le e.la (h.ok c hc).1, (h.ok c hc).2⟩⟩
  · rw [e.frame b hb h.out, h.obj]
    congr 2
    exact List.map_congr_left fun c hc => (hr.ren_eq e (h.ok c hc).1).symm
  · by_cases hA : i < A.length
    · rw [e.agree i hA]; exact h.out i hA
    · have := e.new i (by omega) hi; omega

theorem wants_eq {gd : Option (Nat × Bool)} (s : SR ng pi σ0 A0 B0 σ A B f g) (hg : pi.grd gd = true) : wants gd g = wants gd f := by
  unfold wants
  cases gd with
  | none => rfl
  | some x =>
    obtain ⟨t, b⟩ := x
    have := (s.val t hg).1
    simp only [this]
    cases f.getD t undef with
    | pointer a => cases a <;> simp [ren]
    | slice a _ _ => cases a <;> simp [ren]
    | map a => cases a <;> simp [ren]
    | _ => simp [ren]

theorem ev_eq {x : Operand} (s : SR ng pi σ0 A0 B0 σ A B f g) (hx : pi.opd ng x = true) : ev g x = ren σ (ev f x) ∧ okV (· < A.length) (ev f x) := by
  cases x with
  | tmp t => exact s.val t hx
  | const v => exact ⟨(flatV_ren hx σ).symm, flatV_ok hx⟩
  | global k =>
    have hk : k < ng := by simpa [PI.opd] using hx
    have := s.hr.glob k hk
    exact ⟨by simp [ev, ren, renA, this.1], by simp [ev, okV, this.2]⟩
  | func k => exact ⟨by simp [ev, ren], by simp [ev, okV]⟩

/-- A step that both runs make, and whose value goes where all look. -/
theorem SR.step {d : Option Nat} (s : SR ng pi σ0 A0 B0 σ A B f g) (hd : pi.dst d = true) (h1 : HR ng σ1 A1 B1) (e : EX σ A B σ1 A1 B1) (hv : okV (· < A1.length) v) :
    SR ng pi σ0 A0 B0 σ1 A1 B1 (put d v f) (put d (ren σ1 v) g) := by
  have hne : ∀ t, pi.bt.contains t = true → d ≠ some t := by
    rintro t ht rfl
    rw [free_bt hd] at ht; cases ht
  refine ⟨h1, s.ex.trans e, by rw [len_put, len_put]; exact s.len, by rw [len_put]; exact s.nl, fun t ht => ?_, fun t cs ht hf => ?_, fun t t' cs cs' b ht ht' => ?_⟩
  · rw [getD_put, getD_put, ← s.len]
    obtain ⟨v1, v2⟩ := s.val t ht
    split
    · exact ⟨rfl, hv⟩
    · exact ⟨by rw [v1, s.hr.ren_eq e v2], okV_le e.la v2⟩
  · rw [getD_put_ne _ _ _ _ (hne t ht)] at hf ⊢
    obtain ⟨b, b1, b2⟩ := s.reg t cs ht hf
    exact ⟨b, b1, b2.step s.hr e⟩
  · rw [getD_put_ne _ _ _ _ (hne t ht), getD_put_ne _ _ _ _ (hne t' ht'), getD_put_ne _ _ _ _ (hne t ht), getD_put_ne _ _ _ _ (hne t' ht')]
    exact s.sep t t' cs cs' b ht ht'

theorem mem_keepG {d : Option Nat} {k : Nat} {e : DE} (h : (k, e) ∈ keepG d dm) : (k, e) ∈ dm ∧ d ≠ some k ∧ ∀ u b, e.gd = some (u, b) → d ≠ some u := by
  unfold keepG at h
  cases d with
  | none => exact ⟨h, by simp, fun _ _ _ => by simp⟩
  | some d =>
    simp only [List.mem_filter, Bool.and_eq_true, bne_iff_ne, ne_eq] at h
    refine ⟨h.1, fun he => h.2.1 (by cases he; rfl), fun u b he hd => ?_⟩
    cases hd
    have := h.2.2
    rw [he] at this
    simp at this

theorem wants_put {gd : Option (Nat × Bool)} {d : Option Nat} (h : ∀ u b, gd = some (u, b) → d ≠ some u) : wants gd (put d v f) = wants gd f := by
  unfold wants
  cases gd with
  | none => rfl
  | some x =>
    obtain ⟨u, b⟩ := x
    show (match (put d v f).getD u undef with | .bool c => c == b | _ => false) = (match f.getD u undef with | .bool c => c == b | _ => false)
    rw [getD_put_ne _ _ _ _ (h u b rfl)]

/-- The temporaries of a region behind a step. -/
theorem DMR.step {d : Option Nat} {u : Value} (s : SR ng pi σ0 A0 B0 σ A B f g) (hm : DMR pi σ A B B0.length f g dm) (e : EX σ A B σ1 A1 B1) (hd : ∀ t, pi.bt.contains t = true → d ≠ some t) :
    DMR pi σ1 A1 B1 B0.length (put d v f) (put d u g) (keepG d dm) := by
  intro k x hx
  obtain ⟨h1, h2, h3⟩ := mem_keepG hx
  have := hm k x h1
  cases x with
  | adr t o gd =>
    obtain ⟨a1, a2, a3, a4, a5⟩ := this
    refine ⟨a1, a2, a3, a4, fun hw => ?_⟩
    rw [wants_put (gd := gd) (fun u b hu => h3 u b hu)] at hw
    rw [getD_put_ne _ _ _ _ (hd t a1), getD_put_ne _ _ _ _ h2]
    exact a5 hw
  | lit n gd =>
    obtain ⟨a1, a2, a3, a4⟩ := this
    refine ⟨a1, a2, a3, fun hw => ?_⟩
    rw [wants_put (gd := gd) (fun u b hu => h3 u b hu)] at hw
    obtain ⟨b, cs, c1, c2, c3, c4⟩ := a4 hw
    rw [getD_put_ne _ _ _ _ h2, getD_put_ne _ _ _ _ h2]
    exact ⟨b, cs, c1, c2, Nat.lt_of_lt_of_le c3 e.lb, c4.step s.hr e⟩
  | live =>
    obtain ⟨a1, a2⟩ := this
    refine ⟨a1, ?_⟩
    rw [getD_put_ne _ _ _ _ h2]; exact a2

theorem dst_ne {d : Option Nat} (hd : pi.dst d = true) : ∀ t, pi.bt.contains t = true → d ≠ some t := by
  rintro t ht rfl
  rw [free_bt hd] at ht; cases ht

/-- An operation that is not wanted. -/
theorem SR.skip {d : Option Nat} (s : SR ng pi σ0 A0 B0 σ A B f g) (hd : pi.dst d = true) : SR ng pi σ0 A0 B0 σ A B (put d undef f) (put d undef g) := by
  have := s.step (v := undef) hd s.hr (EX.refl _ _ _) (by simp [undef, okV])
  simpa [undef, ren] using this

/-- A write to a temporary at which nobody looks. -/
theorem SR.hid {d : Nat} {u : Value} (s : SR ng pi σ0 A0 B0 σ A B f g) (h1 : HR ng σ1 A1 B1) (e : EX σ A B σ1 A1 B1) (hd : pi.dt.contains d = true) (hb : pi.bt.contains d = false) : SR ng pi σ0 A0 B0 σ1 A1 B1 (put (some d) v f) (put (some d) u g) := by
  have hne : ∀ t, pi.bt.contains t = true → (some d : Option Nat) ≠ some t := fun t ht he => by cases he; rw [hb] at ht; cases ht
  have hnf : ∀ t, pi.free t = true → (some d : Option Nat) ≠ some t := fun t ht he => by cases he; rw [free_dt ht] at hd; cases hd
  refine ⟨h1, s.ex.trans e, by rw [len_put, len_put]; exact s.len, by rw [len_put]; exact s.nl, fun t ht => ?_, fun t cs ht hf => ?_, fun t t' cs cs' b ht ht' => ?_⟩
  · rw [getD_put_ne _ _ _ _ (hnf t ht), getD_put_ne _ _ _ _ (hnf t ht)]
    obtain ⟨v1, v2⟩ := s.val t ht
    exact ⟨by rw [v1, s.hr.ren_eq e v2], okV_le e.la v2⟩
  · rw [getD_put_ne _ _ _ _ (hne t ht)] at hf ⊢
    obtain ⟨b, b1, b2⟩ := s.reg t cs ht hf
    exact ⟨b, b1, b2.step s.hr e⟩
  · rw [getD_put_ne _ _ _ _ (hne t ht), getD_put_ne _ _ _ _ (hne t' ht'), getD_put_ne _ _ _ _ (hne t ht), getD_put_ne _ _ _ _ (hne t' ht')]
    exact s.sep t t' cs cs' b ht ht'

/-- A new block of the second run alone. -/
theorem own_push (hr : HR ng σ A B) {b0 : Nat} (hb : b0 ≤ B.length) {cs : Array Value} (ok : ∀ c ∈ cs.toList, okV (· < A.length) c ∧ one1 c = true) :
    HR ng σ A (B ++ [.cells (cs.toList.map (ren σ)) false 0]) ∧ EX σ A B σ A (B ++ [.cells (cs.toList.map (ren σ)) false 0]) ∧ Own2 σ A (B ++ [.cells (cs.toList.map (ren σ)) false 0]) b0 B.length cs := by
  refine ⟨⟨fun i hi => by have := hr.lt i hi; simp; omega, hr.inj, fun i o ho => ?_, hr.ok, hr.glob⟩, ⟨Nat.le_refl _, by simp, fun _ _ => rfl, fun i h1 h2 => by omega, fun b hb _ => List.getElem?_append_left hb, fun b o h1 h2 h3 => ?_⟩, ⟨hb, by simp, fun i hi he => ?_, ok⟩⟩
  · have := hr.lt i (List.getElem?_eq_some_iff.1 ho).1
    rw [List.getElem?_append_left this]; exact hr.obj i o ho
  · have hlt := (List.getElem?_eq_some_iff.1 h2).1
    simp at hlt
    have : b = B.length := by omega
    subst this
    rw [List.getElem?_append_right (Nat.le_refl _)] at h2
    simp at h2; subst h2; rfl
  · have := hr.lt i hi; omega

/-- A new register. -/
theorem SR.newreg {t : Nat} {cs : Array Value} (s : SR ng pi σ0 A0 B0 σ A B f g) (ht : pi.bt.contains t = true) (ok : ∀ c ∈ cs.toList, okV (· < A.length) c ∧ one1 c = true) :
    SR ng pi σ0 A0 B0 σ A (B ++ [.cells (cs.toList.map (ren σ)) false 0]) (put (some t) (.agg cs) f) (put (some t) (.pointer (some ⟨B.length, 0, none⟩)) g) := by
  obtain ⟨h1, e, ow⟩ := own_push s.hr s.ex.lb ok
  have hnf : ∀ u, pi.free u = true → (some t : Option Nat) ≠ some u := fun u hu he => by cases he; rw [free_bt hu] at ht; cases ht
  have old : ∀ u, pi.bt.contains u = true → u ≠ t → ∀ cs', f.getD u undef = .agg cs' → ∃ b, g.getD u undef = .pointer (some ⟨b, 0, none⟩) ∧ b < B.length := by
    intro u hu hne cs' hf
    obtain ⟨b, b1, b2⟩ := s.reg u cs' hu hf
    exact ⟨b, b1, (List.getElem?_eq_some_iff.1 b2.obj).1⟩
  refine ⟨h1, s.ex.trans e, by rw [len_put, len_put]; exact s.len, by rw [len_put]; exact s.nl, fun u hu => ?_, fun u cs' hu hf => ?_, fun u u' cu cu' b hu hu' hf hf' hg hg' => ?_⟩
  · rw [getD_put_ne _ _ _ _ (hnf u hu), getD_put_ne _ _ _ _ (hnf u hu)]
    exact s.val u hu
  · rw [getD_put] at hf ⊢
    rw [← s.len]
    by_cases hc : some t = some u ∧ u < f.length
    · rw [if_pos hc] at hf ⊢
      cases hf
      exact ⟨B.length, rfl, ow⟩
    · rw [if_neg hc] at hf ⊢
      obtain ⟨b, b1, b2⟩ := s.reg u cs' hu hf
      exact ⟨b, b1, b2.step s.hr e⟩
  · rw [getD_put] at hf hf' hg hg'
    rw [← s.len] at hg hg'
    by_cases hc : some t = some u ∧ u < f.length
    · by_cases hc' : some t = some u' ∧ u' < f.length
      · have e1 := hc.1; have e2 := hc'.1
        rw [Option.some.injEq] at e1 e2
        exact e1.symm.trans e2
      · rw [if_pos hc] at hg
        rw [if_neg hc'] at hf' hg'
        simp only [Value.pointer.injEq, Option.some.injEq, Addr.mk.injEq] at hg
        obtain ⟨b', b1, b2⟩ := s.reg u' cu' hu' hf'
        rw [b1] at hg'
        simp only [Value.pointer.injEq, Option.some.injEq, Addr.mk.injEq] at hg'
        have := (List.getElem?_eq_some_iff.1 b2.obj).1
        omega
    · rw [if_neg hc] at hf hg
      by_cases hc' : some t = some u' ∧ u' < f.length
      · rw [if_pos hc'] at hg'
        simp only [Value.pointer.injEq, Option.some.injEq, Addr.mk.injEq] at hg'
        obtain ⟨b', b1, b2⟩ := s.reg u cu hu hf
        rw [b1] at hg
        simp only [Value.pointer.injEq, Option.some.injEq, Addr.mk.injEq] at hg
        have := (List.getElem?_eq_some_iff.1 b2.obj).1
        omega
      · rw [if_neg hc'] at hf' hg'
        exact s.sep u u' cu cu' b hu hu' hf hf' hg hg'

theorem mem_keepB {t k : Nat} {e : DE} (h : (k, e) ∈ keepB t dm) : (k, e) ∈ dm ∧ ∀ t' o gd, e = .adr t' o gd → t' ≠ t := by
  unfold keepB at h
  simp only [List.mem_filter] at h
  refine ⟨h.1, fun t' o gd he => ?_⟩
  subst he
  simpa using h.2

theorem DMR.newreg {t : Nat} {cs : Array Value} {u w : Value} (s : SR ng pi σ0 A0 B0 σ A B f g) (hm : DMR pi σ A B B0.length f g dm) (ht : pi.bt.contains t = true) (e : EX σ A B σ1 A1 B1) :
    DMR pi σ1 A1 B1 B0.length (put (some t) u f) (put (some t) w g) (keepB t (keepG (some t) dm)) := by
  intro k x hx
  obtain ⟨hx, hB⟩ := mem_keepB hx
  obtain ⟨h1, h2, h3⟩ := mem_keepG hx
  have := hm k x h1
  cases x with
  | adr t' o gd =>
    obtain ⟨a1, a2, a3, a4, a5⟩ := this
    refine ⟨a1, a2, a3, a4, fun hw => ?_⟩
    rw [wants_put (gd := gd) (fun u b hu => h3 u b hu)] at hw
    have : (some t : Option Nat) ≠ some t' := fun he => hB t' o gd rfl (by cases he; rfl)
    rw [getD_put_ne _ _ _ _ this, getD_put_ne _ _ _ _ h2]
    exact a5 hw
  | lit n gd =>
    obtain ⟨a1, a2, a3, a4⟩ := this
    refine ⟨a1, a2, a3, fun hw => ?_⟩
    rw [wants_put (gd := gd) (fun u b hu => h3 u b hu)] at hw
    obtain ⟨b, cs, c1, c2, c3, c4⟩ := a4 hw
    rw [getD_put_ne _ _ _ _ h2, getD_put_ne _ _ _ _ h2]
    exact ⟨b, cs, c1, c2, Nat.lt_of_lt_of_le c3 e.lb, c4.step s.hr e⟩
  | live =>
    obtain ⟨a1, a2⟩ := this
    refine ⟨a1, ?_⟩
    rw [getD_put_ne _ _ _ _ h2]; exact a2

/-- A register that is written. -/
theorem SR.upd {t b o : Nat} {cs : Array Value} {xs : List Value} (s : SR ng pi σ0 A0 B0 σ A B f g) (ht : pi.bt.contains t = true) (hf : f.getD t undef = .agg cs) (hg : g.getD t undef = .pointer (some ⟨b, 0, none⟩)) (ow : Own2 σ A B B0.length b cs)
    (ok : ∀ c ∈ xs, okV (· < A.length) c ∧ one1 c = true) :
    SR ng pi σ0 A0 B0 σ A (B.set b (.cells (lay (cs.toList.map (ren σ)) o (xs.map (ren σ))) false 0)) (put (some t) (.agg (lay cs.toList o xs).toArray) f) g := by
  have hb : b < B.length := (List.getElem?_eq_some_iff.1 ow.obj).1
  have hnf : ∀ u, pi.free u = true → (some t : Option Nat) ≠ some u := fun u hu he => by cases he; rw [free_bt hu] at ht; cases ht
  have hto : ∀ u, u ≠ t → (some t : Option Nat) ≠ some u := fun u hu he => by cases he; exact hu rfl
  have htl : t < f.length := by
    rcases Nat.lt_or_ge t f.length with h | h
    · exact h
    · simp [List.getD_eq_getElem?_getD, List.getElem?_eq_none h, undef] at hf
  have oth : ∀ u cu, pi.bt.contains u = true → u ≠ t → f.getD u undef = .agg cu → ∀ b', g.getD u undef = .pointer (some ⟨b', 0, none⟩) → b' ≠ b := by
    intro u cu hu hne hfu b' hgu he
    subst he
    exact hne (s.sep u t cu cs b' hu ht hfu hf hgu hg)
  refine ⟨⟨fun i hi => by simpa using s.hr.lt i hi, s.hr.inj, fun i p hp => ?_, s.hr.ok, s.hr.glob⟩, ?_, by rw [len_put]; exact s.len, by rw [len_put]; exact s.nl, fun u hu => ?_, fun u cu hu hfu => ?_, fun u u' cu cu' b' hu hu' hfu hfu' hgu hgu' => ?_⟩
  · rw [List.getElem?_set_ne (fun he => ow.out i (List.getElem?_eq_some_iff.1 hp).1 he.symm)]; exact s.hr.obj i p hp
  · refine ⟨s.ex.la, by simpa using s.ex.lb, s.ex.agree, s.ex.new, fun k hk hne => ?_, fun k p hk hp hne => ?_⟩
    · rw [List.getElem?_set_ne (by have := ow.low; omega)]; exact s.ex.frame k hk hne
    · by_cases he : b = k
      · subst he
        rw [List.getElem?_set_self hb] at hp; cases hp; rfl
      · rw [List.getElem?_set_ne he] at hp; exact s.ex.nro k p hk hp hne
  · rw [getD_put_ne _ _ _ _ (hnf u hu)]; exact s.val u hu
  · by_cases he : u = t
    · subst he
      rw [getD_put, if_pos ⟨rfl, htl⟩] at hfu
      cases hfu
      refine ⟨b, hg, ow.low, ?_, ow.out, fun c hc => ?_⟩
      · rw [List.getElem?_set_self hb, lay_map]
      · rcases lay_mem (by simpa using hc) with hc | hc
        · exact ow.ok c hc
        · exact ok c hc
    · rw [getD_put_ne _ _ _ _ (hto u he)] at hfu
      obtain ⟨b', b1, b2⟩ := s.reg u cu hu hfu
      refine ⟨b', b1, b2.low, ?_, b2.out, b2.ok⟩
      rw [List.getElem?_set_ne (fun hh => oth u cu hu he hfu b' b1 hh.symm)]; exact b2.obj
  · have key : ∀ x, pi.bt.contains x = true → ∀ cx, (put (some t) (.agg (lay cs.toList o xs).toArray) f).getD x undef = .agg cx → ∃ cx', f.getD x undef = .agg cx' := by
      intro x hx cx hfx
      by_cases he : x = t
      · exact ⟨cs, by rw [he]; exact hf⟩
      · rw [getD_put_ne _ _ _ _ (hto x he)] at hfx; exact ⟨cx, hfx⟩
    obtain ⟨c1, h1⟩ := key u hu cu hfu
    obtain ⟨c2, h2⟩ := key u' hu' cu' hfu'
    exact s.sep u u' c1 c2 b' hu hu' h1 h2 hgu hgu'

theorem DMR.live {gd : Option (Nat × Bool)} {t : Nat} {b0 : Nat} (hm : DMR pi σ A B b0 f g dm) (ht : pi.bt.contains t = true) (hf : gd = none → ∃ cs, f.getD t undef = .agg cs) : DMR pi σ A B b0 f g (liveIf gd t dm) := by
  unfold liveIf
  split
  · rename_i hg
    intro d e he
    rcases List.mem_cons.1 he with he | he
    · cases he; exact ⟨ht, hf (by simpa using hg)⟩
    · exact hm d e he
  · exact hm

theorem DMR.upd0 {t : Nat} {u : Value} (hm : DMR pi σ A B B0.length f g dm) : DMR pi σ A B1 B0.length (put (some t) u f) g (noLit (keepG (some t) dm)) := by
  intro k x hx
  unfold noLit at hx
  simp only [List.mem_filter] at hx
  obtain ⟨h1, h2, h3⟩ := mem_keepG hx.1
  have := hm k x h1
  cases x with
  | adr t' o gd =>
    obtain ⟨a1, a2, a3, a4, a5⟩ := this
    refine ⟨a1, a2, a3, a4, fun hw => ?_⟩
    rw [wants_put (gd := gd) (fun u b hu => h3 u b hu)] at hw
    exact a5 hw
  | lit n gd => simp at hx
  | live =>
    obtain ⟨a1, a2⟩ := this
    refine ⟨a1, ?_⟩
    rw [getD_put_ne _ _ _ _ h2]; exact a2

theorem DMR.upd {t : Nat} {cs cs' : Array Value} (hm : DMR pi σ A B B0.length f g dm) (ht : pi.bt.contains t = true) (hf : f.getD t undef = .agg cs) : DMR pi σ A B1 B0.length (put (some t) (.agg cs') f) g (liveIf none t (noLit (keepG (some t) dm))) := by
  refine hm.upd0.live ht fun _ => ⟨cs', ?_⟩
  have htl : t < f.length := by
    rcases Nat.lt_or_ge t f.length with h | h
    · exact h
    · simp [List.getD_eq_getElem?_getD, List.getElem?_eq_none h, undef] at hf
  rw [getD_put, if_pos ⟨rfl, htl⟩]

theorem sameG_wants {g1 g2 : Option (Nat × Bool)} (h : sameG g1 g2 = true) (hw : wants g2 f = true) : wants g1 f = true := by
  cases g1 with
  | none => rfl
  | some x =>
    cases g2 with
    | none => simp [sameG] at h
    | some y =>
      obtain ⟨a, b⟩ := x; obtain ⟨c, d⟩ := y
      simp only [sameG, Bool.and_eq_true, beq_iff_eq] at h
      rw [h.1, h.2]; exact hw

theorem lookup_mem {u : Nat} {e : DE} : ∀ {dm : DM}, dm.lookup u = some e → (u, e) ∈ dm
  | [], h => by simp at h
  | (k, x) :: dm, h => by
    simp only [List.lookup_cons] at h
    split at h
    · rename_i hk; simp at hk; cases h; subst hk; simp
    · exact List.mem_cons_of_mem _ (lookup_mem h)

/-- An address in a register. -/
theorem adr_at {gd : Option (Nat × Bool)} {x : Operand} {t o : Nat} {cs : Array Value} (s : SR ng pi σ0 A0 B0 σ A B f g) (hm : DMR pi σ A B B0.length f g dm) (ha : pi.adr dm gd x = some (t, o)) (hw : wants gd f = true) (hf : f.getD t undef = .agg cs) :
    pi.bt.contains t = true ∧ ∃ b, g.getD t undef = .pointer (some ⟨b, 0, none⟩) ∧ ev g x = .pointer (some ⟨b, o, none⟩) ∧ Own2 σ A B B0.length b cs := by
  cases x with
  | tmp u =>
    simp only [PI.adr] at ha
    split at ha
    · rename_i hu; cases ha
      obtain ⟨b, b1, b2⟩ := s.reg _ cs hu hf
      exact ⟨hu, b, b1, b1, b2⟩
    · split at ha <;> try (cases ha; done)
      rename_i t' o' g' hl
      split at ha <;> cases ha
      rename_i hs
      obtain ⟨a1, a2, a3, a4, a5⟩ := hm _ _ (lookup_mem hl)
      obtain ⟨b, b1, b2⟩ := a5 (sameG_wants hs hw)
      obtain ⟨b', c1, c2⟩ := s.reg _ cs a1 hf
      rw [b1] at c1
      simp only [Value.pointer.injEq, Option.some.injEq, Addr.mk.injEq, and_true] at c1
      subst c1
      exact ⟨a1, b, b1, b2, c2⟩
  | _ => simp [PI.adr] at ha

theorem adr_bt {gd : Option (Nat × Bool)} {x : Operand} {t o : Nat} (hm : DMR pi σ A B B0.length f g dm) (ha : pi.adr dm gd x = some (t, o)) : pi.bt.contains t = true := by
  cases x with
  | tmp u =>
    simp only [PI.adr] at ha
    split at ha
    · rename_i hu; cases ha; exact hu
    · split at ha <;> try (cases ha; done)
      rename_i t' o' g' hl
      split at ha <;> cases ha
      exact (hm _ _ (lookup_mem hl)).1
  | _ => simp [PI.adr] at ha

theorem live_agg {t : Nat} {b0 : Nat} (hm : DMR pi σ A B b0 f g dm) (h : isLive dm t = true) : ∃ cs, f.getD t undef = .agg cs := by
  unfold isLive at h
  rw [List.any_eq_true] at h
  obtain ⟨⟨k, e⟩, he, hk⟩ := h
  simp only [Bool.and_eq_true, beq_iff_eq] at hk
  obtain ⟨rfl, hk⟩ := hk
  cases e with
  | live => exact (hm _ _ he).2
  | _ => simp at hk

end Go.IM

namespace Go.IM
open Go Go.RowKit
set_option linter.unusedVariables false
set_option linter.unusedSimpArgs false

variable {σ0 σ σ1 σ2 : Nat → Nat} {A0 A A1 A2 B0 B B1 B2 : Heap} {v w : Value} {f g : Fr} {n m ng : Nat} {pi : PI} {dm dm' : DM} {call call' : CallFn} {draw : Bool} {o o' : IOper} {l' : List IOper} {r : IExit × Fr × Heap}

theorem evalOps_skip {l : List IOper} (h : wants o.guard f = false) : evalOps call draw (o :: l) f A = evalOps call draw l (put o.dst undef f) A := by
  simp only [evalOps, h, Bool.false_eq_true, if_false]

/-- Both runs have made a step. -/
def Went (ng : Nat) (pi : PI) (σ0 : Nat → Nat) (A0 B0 : Heap) (call' call : CallFn) (draw : Bool) (o : IOper) (l' : List IOper) (dm' : DM) (B : Heap) (g : Fr) (r : IExit × Fr × Heap) : Prop :=
  (∃ f2 A2 σ2 B2 g2, evalOps call' draw l' f2 A2 = some r ∧ (∀ l, evalOps call draw (o :: l) g B = evalOps call draw l g2 B2) ∧ SR ng pi σ0 A0 B0 σ2 A2 B2 f2 g2 ∧ DMR pi σ2 A2 B2 B0.length f2 g2 dm') ∨
  (∃ ch f2 A2 σ2 B2, r = (.panic ch, f2, A2) ∧ (∀ l, evalOps call draw (o :: l) g B = some (.panic (ch.map (renP σ2)), g, B2)) ∧ SR ng pi σ0 A0 B0 σ2 A2 B2 f2 g ∧ ∀ p ∈ ch, okV (· < A2.length) p.v)

theorem unch_of {H H' : Heap} (h : Pre H H') : unch H H' = true := by unfold unch; exact @decide_eq_true _ (Classical.propDecidable _) h

theorem same_sim (hc : SimCall ng call' call) (hg : pi.grd o.guard = true) (ho : (opds o.op).all (pi.opd ng) = true) (hd : pi.dst o.dst = true) (hk : isPlainCall o.op = true)
    (s : SR ng pi σ0 A0 B0 σ A B f g) (hm : DMR pi σ A B B0.length f g dm) (he : evalOps call' draw (o :: l') f A = some r) : Went ng pi σ0 A0 B0 call' call draw o l' (keepG o.dst dm) B g r := by
  have hwe := wants_eq s hg
  rw [List.all_eq_true] at ho
  have hev : ∀ x ∈ opds o.op, ev g x = ren σ (ev f x) ∧ okV (· < A.length) (ev f x) := fun x hx => ev_eq s (ho x hx)
  cases hw : wants o.guard f with
  | false =>
    rw [evalOps_skip hw] at he
    exact .inl ⟨_, _, σ, B, _, he, fun l => evalOps_skip (by rw [hwe]; exact hw), s.skip hd, hm.step s (EX.refl _ _ _) (dst_ne hd)⟩
  | true =>
    rw [hw] at hwe
    by_cases hp : plainOp o.op = true
    · have hz : zOk o.op = true := by
        generalize o.op = i at hp hk
        cases i <;> simp [isPlainCall, plainOp] at hk hp ⊢ <;> exact hk
      rw [evalOps_plain hp hw] at he
      split at he <;> try (cases he; done)
      rename_i p hio
      split at he
      · cases he
      rename_i hq
      obtain ⟨σ1, B1, r1, r2, r3, r4⟩ := ren_iop hz s.hr hev hio
      refine .inl ⟨_, _, σ1, B1, _, he, fun l => ?_, s.step hd r2 r3 r4, hm.step s r3 (dst_ne hd)⟩
      rw [evalOps_plain hp hwe, r1]
      simp only
      rw [if_neg]
      intro hq2
      simp only [Bool.and_eq_true, Bool.not_eq_true'] at hq2 hq
      have : unch A p.2 = true := by
        cases hu : unch A p.2 with
        | true => rfl
        | false => exact absurd ⟨hq2.1, hu⟩ hq
      rw [unch_of (r3.pre s.hr r2 (unch_pre this))] at hq2
      exact absurd hq2.2 (by simp)
    · obtain ⟨d, gd, q, i⟩ := o
      simp only at hp hw hwe hk hev hd hg ho
      cases i <;> first | (simp [plainOp] at hp; done) | (simp [isPlainCall, plainOp] at hk; done) | skip
      · -- a panic
        rename_i x
        simp only [evalOps, hw, if_true] at he
        split at he <;> try (cases he; done)
        rename_i t u hx
        split at he <;> cases he
        rename_i hdr
        obtain ⟨e1, e2⟩ := hev x (by simp [opds])
        refine .inr ⟨_, _, _, σ, B, rfl, fun l => ?_, s, fun p hp => ?_⟩
        · simp only [evalOps, hwe, if_true, e1, hx, ren, if_neg hdr, List.map_cons, List.map_nil, renP]
        · simp at hp; subst hp; rw [hx] at e2; exact e2
      · -- a call
        rename_i gx as
        simp only [evalOps, hw, if_true] at he
        split at he <;> try (cases he; done)
        rename_i F first cap hgx
        obtain ⟨e1, e2⟩ := hev gx (by simp [opds])
        rw [hgx] at e1 e2
        simp only [okV] at e2
        have hargs : ∀ x ∈ first.toList ++ as.map (ev f) ++ cap.toList, okV (· < A.length) x := by
          intro x hx
          simp only [List.mem_append, List.mem_map] at hx
          rcases hx with (hx | ⟨y, hy, rfl⟩) | hx
          · exact e2.2.1 x (by simpa using hx)
          · exact (hev y (by simp [opds, hy])).2
          · exact e2.2.2 x (by simpa using hx)
        have hmap : (first.map (ren σ)).toList ++ as.map (ev g) ++ (cap.map (ren σ)).toList = (first.toList ++ as.map (ev f) ++ cap.toList).map (ren σ) := by
          simp only [List.map_append, Array.toList_map, List.map_map]
          congr 2
          exact List.map_congr_left fun y hy => (hev y (by simp [opds, hy])).1
        split at he <;> try (cases he; done)
        · rename_i u A1 hcall
          split at he
          · cases he
          rename_i hq
          obtain ⟨σ1, B1, r1, r2, r3, r4⟩ := hc _ _ _ _ _ σ B hcall s.hr hargs
          refine .inl ⟨_, _, σ1, B1, _, he, fun l => ?_, s.step hd r2 r3 r4, hm.step s r3 (dst_ne hd)⟩
          simp only [evalOps, hwe, if_true, e1, ren, hmap, r1, renEnd]
          rw [if_neg]
          intro hq2
          simp only [Bool.and_eq_true, Bool.not_eq_true'] at hq2 hq
          have : unch A A1 = true := by
            cases hu : unch A A1 with
            | true => rfl
            | false => exact absurd ⟨hq2.1, hu⟩ hq
          rw [unch_of (r3.pre s.hr r2 (unch_pre this))] at hq2
          exact absurd hq2.2 (by simp)
        · rename_i ch A1 hcall
          split at he <;> cases he
          rename_i hdr
          obtain ⟨σ1, B1, r1, r2, r3, r4⟩ := hc _ _ _ _ _ σ B hcall s.hr hargs
          refine .inr ⟨ch, _, _, σ1, B1, rfl, fun l => ?_, ?_, r4⟩
          · simp only [evalOps, hwe, if_true, e1, ren, hmap, r1, renEnd, if_neg hdr]
          · have := s.step (d := none) (v := undef) rfl r2 r3 (by simp [undef, okV])
            simpa [put] using this

theorem lit_mem {gd : Option (Nat × Bool)} {x : Operand} {u k : Nat} (h : PI.lit dm gd x = some (u, k)) : x = .tmp u ∧ ∃ gd', (u, DE.lit k gd') ∈ dm ∧ sameG gd' gd = true := by
  cases x with
  | tmp y =>
    simp only [PI.lit] at h
    split at h <;> try (cases h; done)
    rename_i n' g' hl
    split at h <;> cases h
    rename_i hs
    exact ⟨rfl, g', lookup_mem hl, hs⟩
  | _ => simp [PI.lit] at h

/-- A read out of a register. -/
theorem read_sim {k : Option Nat} {x : Operand} {t b : Nat} {i : IOp} (hi : (k = none ∧ i = .ld1 x) ∨ ∃ n, k = some n ∧ i = .ldn n x) (hg : pi.grd o.guard = true) (hq : o.quiet = false) (hop : o.op = i) (ha : pi.adr dm o.guard x = some (t, b)) (hd : pi.dst o.dst = true)
    (s : SR ng pi σ0 A0 B0 σ A B f g) (hm : DMR pi σ A B B0.length f g dm) (he : evalOps call' draw (⟨o.dst, o.guard, false, .fld b k (.tmp t)⟩ :: l') f A = some r) : Went ng pi σ0 A0 B0 call' call draw o l' (liveIf o.guard t (keepG o.dst dm)) B g r := by
  have hwe := wants_eq s hg
  cases hw : wants o.guard f with
  | false =>
    rw [evalOps_skip (o := ⟨o.dst, o.guard, false, .fld b k (.tmp t)⟩) hw] at he
    exact .inl ⟨_, _, σ, B, _, he, fun l => evalOps_skip (by rw [hwe]; exact hw), s.skip hd, (hm.step s (EX.refl _ _ _) (dst_ne hd)).live (adr_bt hm ha) fun e => by rw [e] at hw; cases hw⟩
  | true =>
    rw [hw] at hwe
    rw [evalOps_plain (o := ⟨o.dst, o.guard, false, .fld b k (.tmp t)⟩) rfl hw] at he
    split at he <;> try (cases he; done)
    rename_i p hio
    simp only [Bool.false_and, Bool.false_eq_true, if_false] at he
    have hio' := hio
    simp only [iop, ev] at hio
    split at hio <;> try (cases hio; done)
    rename_i cs hf
    obtain ⟨_, bl, h1, h2, ow⟩ := adr_at s hm ha hw hf
    have hrow : B.row bl = some (cs.toList.map (ren σ)) := by unfold Heap.row; rw [ow.obj]
    have key : p.2 = A ∧ okV (· < A.length) p.1 ∧ iop o.op g B = some (ren σ p.1, B) := by
      rw [hop]
      rcases hi with ⟨rfl, rfl⟩ | ⟨n, rfl, rfl⟩
      · simp only at hio
        split at hio <;> cases hio
        rename_i u hu
        refine ⟨rfl, (ow.ok u (List.mem_of_getElem? hu)).1, ?_⟩
        simp only [iop, h2, hrow, List.getElem?_map, hu, Option.map_some]
      · simp only at hio
        split at hio <;> cases hio
        rename_i xs hu
        refine ⟨rfl, agg_ok fun c hc => ow.ok c (cut_mem hu c hc), ?_⟩
        simp only [iop, h2, hrow, cut_map, hu, Option.map_some, ren_agg]
    obtain ⟨k1, k2, k3⟩ := key
    have hp : plainOp o.op = true := by rw [hop]; rcases hi with ⟨_, rfl⟩ | ⟨n, _, rfl⟩ <;> rfl
    refine .inl ⟨_, _, σ, B, put o.dst (ren σ p.1) g, he, fun l => ?_, ?_, ?_⟩
    · rw [evalOps_plain hp hwe, k3]
      simp only [hq, Bool.false_and, Bool.false_eq_true, if_false]
    · rw [k1]; exact s.step hd s.hr (EX.refl _ _ _) k2
    · rw [k1]; exact (hm.step s (EX.refl _ _ _) (dst_ne hd)).live (adr_bt hm ha) fun _ => ⟨cs, by rw [getD_put_ne _ _ _ _ (dst_ne hd t (adr_bt hm ha))]; exact hf⟩

/-- A write into a register. -/
theorem write_sim {a x : Operand} {t b k : Nat} (hg : o.guard = none) (hq : o.quiet = false) (hdst : o.dst = none) (hop : o.op = .sto k a x ∨ ∃ ks, o.op = .stk k a x ks ∧ ks.all (pi.far ng dm t b k) = true) (ha : pi.adr dm o.guard a = some (t, b)) (hx : pi.opd ng x = true)
    (s : SR ng pi σ0 A0 B0 σ A B f g) (hm : DMR pi σ A B B0.length f g dm) (he : evalOps call' draw (⟨some t, none, false, .upd b k (.tmp t) x⟩ :: l') f A = some r) : Went ng pi σ0 A0 B0 call' call draw o l' (liveIf none t (noLit (keepG (some t) dm))) B g r := by
  rw [evalOps_plain (o := ⟨some t, none, false, .upd b k (.tmp t) x⟩) rfl rfl] at he
  split at he <;> try (cases he; done)
  rename_i p hio
  simp only [Bool.false_and, Bool.false_eq_true, if_false] at he
  simp only [iop] at hio
  rw [show ev f (.tmp t) = f.getD t undef from rfl] at hio
  split at hio <;> try (cases hio; done)
  rename_i cs hf
  obtain ⟨p1, p2⟩ := p
  split at hio <;> cases hio
  rename_i hcond
  obtain ⟨e1, e2⟩ := ev_eq s hx
  obtain ⟨hbt, bl, h1, h2, ow⟩ := adr_at s hm ha (by rw [hg]; rfl) hf
  have hs : (ren σ (ev f x)).cells.size = k := by rw [cells_ren]; simpa using hcond.1
  have hwrow : B.wrow bl = some (cs.toList.map (ren σ), 0) := by unfold Heap.wrow; rw [ow.obj]
  have hcell : (ren σ (ev f x)).cells.toList = (ev f x).cells.toList.map (ren σ) := by rw [cells_ren]; simp
  have key : iop o.op g B = some (undef, B.set bl (.cells (lay (cs.toList.map (ren σ)) b ((ev f x).cells.toList.map (ren σ))) false 0)) := by
    have fit : b + k ≤ (cs.toList.map (ren σ)).length := by simpa using hcond.2.1
    rcases hop with hop | ⟨ks, hop, hks⟩
    · rw [hop]
      have hcc : (ren σ (ev f x)).cells.size = k ∧ b + k ≤ (cs.toList.map (ren σ)).length ∧ notTuple (ren σ (ev f x)) = true := ⟨hs, fit, by rw [notTuple_ren]; exact hcond.2.2⟩
      simp only [iop, h2, hwrow, e1, if_pos hcc, hcell]
    · rw [hop]
      have hap : ∀ y ∈ ks, apart ⟨bl, b, none⟩ k y.1 (ev g y.2) := by
        intro y hy
        have hfar := List.all_eq_true.1 hks y hy
        unfold PI.far at hfar
        split at hfar
        · rename_i t' o2 hadr
          -- an address in a register
          have hbt' := adr_bt hm hadr
          simp only [Bool.and_eq_true, Bool.or_eq_true, bne_iff_ne, ne_eq, decide_eq_true_eq] at hfar
          obtain ⟨cs', hf'⟩ := live_agg hm hfar.1
          obtain ⟨_, bl', g1, g2, ow'⟩ := adr_at s hm hadr rfl hf'
          rw [g2]
          simp only [apart]
          by_cases hbb : bl = bl'
          · subst hbb
            have := s.sep t t' cs cs' bl hbt hbt' hf hf' h1 g1
            rcases hfar.2 with (hfar | hfar) | hfar
            · exact absurd this.symm hfar
            · exact .inr (.inl hfar)
            · exact .inr (.inr hfar)
          · exact .inl hbb
        · obtain ⟨e3, o3⟩ := ev_eq s hfar
          rw [e3]
          cases hev : ev f y.2 with
          | pointer q =>
            cases q with
            | none => simp [ren, apart]
            | some q =>
              rw [hev] at o3
              simp only [okV] at o3
              simp only [ren, apart, renA]
              exact .inl fun hh => ow.out _ o3.1 hh.symm
          | slice q _ _ => cases q <;> simp [ren, apart]
          | map q => cases q <;> simp [ren, apart]
          | _ => simp [ren, apart]
      have hcc : ((ren σ (ev f x)).cells.size = k ∧ b + k ≤ (cs.toList.map (ren σ)).length ∧ notTuple (ren σ (ev f x)) = true) ∧ ∀ y ∈ ks, apart ⟨bl, b, none⟩ k y.1 (ev g y.2) := ⟨⟨hs, fit, by rw [notTuple_ren]; exact hcond.2.2⟩, hap⟩
      simp only [iop, h2, hwrow, e1]
      rw [if_pos hcc, hcell]
  have hp : plainOp o.op = true := by rcases hop with hop | ⟨ks, hop, _⟩ <;> rw [hop] <;> rfl
  refine .inl ⟨_, _, σ, _, g, he, fun l => ?_, s.upd hbt hf h1 ow (cells_ok e2 hcond.2.2), hm.upd hbt hf⟩
  rw [evalOps_plain hp (by rw [hg]; rfl), key]
  simp only [hq, Bool.false_and, Bool.false_eq_true, if_false, hdst, put]

end Go.IM

namespace Go.IM
open Go Go.RowKit
set_option linter.unusedVariables false
set_option linter.unusedSimpArgs false

variable {σ0 σ σ1 σ2 : Nat → Nat} {A0 A A1 A2 B0 B B1 B2 : Heap} {v w : Value} {f g : Fr} {n m ng : Nat} {pi : PI} {dm dm' : DM} {call call' : CallFn} {draw : Bool} {o o' : IOper} {l' : List IOper} {r : IExit × Fr × Heap}

/-- A new register. -/
theorem alloc_sim {t : Nat} {i' : IOp} (hg : o.guard = none) (hq : o.quiet = false) (hdst : o.dst = some t) (ht : pi.bt.contains t = true)
    (hop : (∃ z, o.op = .new z ∧ i' = .reg z ∧ z.all flat1 = true) ∨ ∃ k x, o.op = .box k x ∧ i' = .regb k x ∧ pi.opd ng x = true)
    (s : SR ng pi σ0 A0 B0 σ A B f g) (hm : DMR pi σ A B B0.length f g dm) (he : evalOps call' draw (⟨some t, none, false, i'⟩ :: l') f A = some r) : Went ng pi σ0 A0 B0 call' call draw o l' (keepB t (keepG (some t) dm)) B g r := by
  have hpi : plainOp i' = true := by rcases hop with ⟨z, _, rfl, _⟩ | ⟨k, x, _, rfl, _⟩ <;> rfl
  rw [evalOps_plain (o := ⟨some t, none, false, i'⟩) hpi rfl] at he
  split at he <;> try (cases he; done)
  rename_i p hio
  simp only [Bool.false_and, Bool.false_eq_true, if_false] at he
  have key : ∃ cs : Array Value, p = (.agg cs, A) ∧ (∀ c ∈ cs.toList, okV (· < A.length) c ∧ one1 c = true) ∧ iop o.op g B = some (.pointer (some ⟨B.length, 0, none⟩), B ++ [.cells (cs.toList.map (ren σ)) false 0]) ∧ plainOp o.op = true := by
    rcases hop with ⟨z, hop, rfl, hz⟩ | ⟨k, x, hop, rfl, hx⟩
    · obtain ⟨z1, z2⟩ := flat_ok (n := A.length) hz
      simp only [iop] at hio
      cases hio
      exact ⟨z.toArray, rfl, by simpa using z1, by rw [hop]; simp [iop, z2], by rw [hop]; rfl⟩
    · obtain ⟨e1, e2⟩ := ev_eq s hx
      obtain ⟨p1, p2⟩ := p
      simp only [iop] at hio
      split at hio <;> cases hio
      rename_i hc
      have hs : (ren σ (ev f x)).cells.size = k := by rw [cells_ren]; simpa using hc.1
      exact ⟨_, rfl, cells_ok e2 hc.2, by rw [hop]; simp only [iop, e1, hs, notTuple_ren, hc.2, and_self, if_true]; rw [cells_ren]; simp, by rw [hop]; rfl⟩
  obtain ⟨cs, rfl, k1, k2, k3⟩ := key
  refine .inl ⟨_, _, σ, _, _, he, fun l => ?_, s.newreg ht k1, DMR.newreg (cs := cs) s hm ht (own_push s.hr s.ex.lb k1).2.1⟩
  rw [evalOps_plain k3 (by rw [hg]; rfl), k2]
  simp only [hq, Bool.false_and, Bool.false_eq_true, if_false, hdst]

/-- An address in a register is computed. -/
theorem fad_sim {x : Operand} {t b d off : Nat} (hg : pi.grd o.guard = true) (hq : o.quiet = false) (hdst : o.dst = some d) (hd : pi.dt.contains d = true) (hb : pi.bt.contains d = false) (hdn : d < pi.n) (hop : o.op = .fad off x) (ha : pi.adr dm o.guard x = some (t, b))
    (s : SR ng pi σ0 A0 B0 σ A B f g) (hm : DMR pi σ A B B0.length f g dm) (he : evalOps call' draw (⟨some d, o.guard, false, .fld 0 (some 0) (.tmp t)⟩ :: l') f A = some r) :
    Went ng pi σ0 A0 B0 call' call draw o l' ((d, .adr t (b + off) o.guard) :: liveIf o.guard t (keepG (some d) dm)) B g r := by
  have hwe := wants_eq s hg
  have hne : ∀ t, pi.bt.contains t = true → (some d : Option Nat) ≠ some t := fun t ht he => by cases he; rw [hb] at ht; cases ht
  have hgd : ∀ u c, o.guard = some (u, c) → (some d : Option Nat) ≠ some u := fun u c hu he => by
    cases he
    rw [hu] at hg
    have : pi.free d = true := hg
    rw [free_dt this] at hd; cases hd
  have hbt := adr_bt hm ha
  cases hw : wants o.guard f with
  | false =>
    rw [evalOps_skip (o := ⟨some d, o.guard, false, .fld 0 (some 0) (.tmp t)⟩) hw] at he
    refine .inl ⟨_, _, σ, B, _, he, fun l => evalOps_skip (by rw [hwe]; exact hw), by rw [hdst]; exact s.hid s.hr (EX.refl _ _ _) hd hb, ?_⟩
    rw [hdst]
    intro k e hk
    rcases List.mem_cons.1 hk with hk | hk
    · cases hk
      refine ⟨hbt, hd, hb, hg, fun hw2 => ?_⟩
      rw [wants_put hgd, hw] at hw2; cases hw2
    · exact ((hm.step s (EX.refl _ _ _) hne).live hbt fun e => by rw [e] at hw; cases hw) k e hk
  | true =>
    rw [hw] at hwe
    rw [evalOps_plain (o := ⟨some d, o.guard, false, .fld 0 (some 0) (.tmp t)⟩) rfl hw] at he
    split at he <;> try (cases he; done)
    rename_i p hio
    simp only [Bool.false_and, Bool.false_eq_true, if_false] at he
    obtain ⟨p1, p2⟩ := p
    simp only [iop] at hio
    rw [show ev f (.tmp t) = f.getD t undef from rfl] at hio
    split at hio <;> try (cases hio; done)
    rename_i cs hf
    split at hio <;> cases hio
    obtain ⟨_, bl, h1, h2, ow⟩ := adr_at s hm ha hw hf
    have key : iop o.op g B = some (.pointer (some ⟨bl, b + off, none⟩), B) := by
      rw [hop]
      simp only [iop, h2]
      have : Addr.add ⟨bl, b, none⟩ off = ⟨bl, b + off, none⟩ := by
        unfold Addr.add
        by_cases e : off = 0
        · subst e; simp
        · simp [e]
      rw [this]
    refine .inl ⟨_, _, σ, B, put (some d) (.pointer (some ⟨bl, b + off, none⟩)) g, he, fun l => ?_, s.hid s.hr (EX.refl _ _ _) hd hb, ?_⟩
    · rw [evalOps_plain (by rw [hop]; rfl) hwe, key]
      simp only [hq, Bool.false_and, Bool.false_eq_true, if_false, hdst]
    · intro k e hk
      rcases List.mem_cons.1 hk with hk | hk
      · cases hk
        refine ⟨hbt, hd, hb, hg, fun hw2 => ⟨bl, ?_, ?_⟩⟩
        · rw [getD_put_ne _ _ _ _ (hne t hbt)]; exact h1
        · rw [getD_put]
          rw [if_pos ⟨rfl, by rw [← s.len]; exact Nat.lt_of_lt_of_le hdn s.nl⟩]
      · exact ((hm.step s (EX.refl _ _ _) hne).live hbt fun _ => ⟨cs, by rw [getD_put_ne _ _ _ _ (hne t hbt)]; exact hf⟩) k e hk

/-- A list of values that will be appended. -/
theorem bsl_sim {z : List Value} {ps : List (Nat × Nat × Operand)} {d k : Nat} (hg : pi.grd o.guard = true) (hq : o.quiet = false) (hdst : o.dst = some d) (hd : pi.dt.contains d = true) (hb : pi.bt.contains d = false) (hdn : d < pi.n) (hop : o.op = .bsl k z ps)
    (hz : z.all flat1 = true) (hk : 0 < k) (hps : (ps.map (·.2.2)).all (pi.opd ng) = true)
    (s : SR ng pi σ0 A0 B0 σ A B f g) (hm : DMR pi σ A B B0.length f g dm) (he : evalOps call' draw (⟨some d, o.guard, false, .bld z ps⟩ :: l') f A = some r) :
    Went ng pi σ0 A0 B0 call' call draw o l' ((d, .lit k o.guard) :: keepG (some d) dm) B g r := by
  have hwe := wants_eq s hg
  have hne : ∀ t, pi.bt.contains t = true → (some d : Option Nat) ≠ some t := fun t ht he => by cases he; rw [hb] at ht; cases ht
  have hgd : ∀ u c, o.guard = some (u, c) → (some d : Option Nat) ≠ some u := fun u c hu he => by
    cases he
    rw [hu] at hg
    have : pi.free d = true := hg
    rw [free_dt this] at hd; cases hd
  cases hw : wants o.guard f with
  | false =>
    rw [evalOps_skip (o := ⟨some d, o.guard, false, .bld z ps⟩) hw] at he
    refine .inl ⟨_, _, σ, B, _, he, fun l => evalOps_skip (by rw [hwe]; exact hw), by rw [hdst]; exact s.hid s.hr (EX.refl _ _ _) hd hb, ?_⟩
    rw [hdst]
    intro j e hj
    rcases List.mem_cons.1 hj with hj | hj
    · cases hj
      refine ⟨hk, hd, hg, fun hw2 => ?_⟩
      rw [wants_put hgd, hw] at hw2; cases hw2
    · exact hm.step s (EX.refl _ _ _) hne j e hj
  | true =>
    rw [hw] at hwe
    rw [evalOps_plain (o := ⟨some d, o.guard, false, .bld z ps⟩) rfl hw] at he
    split at he <;> try (cases he; done)
    rename_i p hio
    simp only [Bool.false_and, Bool.false_eq_true, if_false] at he
    obtain ⟨p1, p2⟩ := p
    simp only [iop] at hio
    split at hio <;> cases hio
    rename_i c hc
    obtain ⟨z1, z2⟩ := flat_ok (n := A.length) hz
    rw [List.all_eq_true] at hps
    have q1 := parts_ren (f := f) (g := g) (σ := σ) (ps := ps) (fun x hx => (ev_eq s (hps x hx)).1)
    have q2 := parts_ok (f := f) (S := (· < A.length)) (ps := ps) (fun x hx => (ev_eq s (hps x hx)).2)
    have fr := ifill_ren σ _ z c hc
    rw [z2] at fr
    have cok : ∀ u ∈ c.toArray.toList, okV (· < A.length) u ∧ one1 u = true := by simpa using ifill_ok _ z c hc z1 q2
    obtain ⟨h1, e1, ow⟩ := own_push s.hr s.ex.lb (cs := c.toArray) cok
    have key : iop o.op g B = some (.slice (some ⟨B.length, 0, none⟩) k (2 * k), B ++ [.cells (c.toArray.toList.map (ren σ)) false 0]) := by
      rw [hop]; simp only [iop, q1, fr]
    refine .inl ⟨_, _, σ, _, put (some d) (.slice (some ⟨B.length, 0, none⟩) k (2 * k)) g, he, fun l => ?_, s.hid h1 e1 hd hb, ?_⟩
    · rw [evalOps_plain (by rw [hop]; rfl) hwe, key]
      simp only [hq, Bool.false_and, Bool.false_eq_true, if_false, hdst]
    · intro j e hj
      rcases List.mem_cons.1 hj with hj | hj
      · cases hj
        refine ⟨hk, hd, hg, fun hw2 => ⟨B.length, c.toArray, ?_, ?_, by simp, ow⟩⟩
        · rw [getD_put, if_pos ⟨rfl, Nat.lt_of_lt_of_le hdn s.nl⟩]
        · rw [getD_put, if_pos ⟨rfl, by rw [← s.len]; exact Nat.lt_of_lt_of_le hdn s.nl⟩]
      · exact hm.step s e1 hne j e hj

/-- It is appended. -/
theorem apl_sim {esz bytes u k : Nat} {sx x : Operand} (hg : pi.grd o.guard = true) (hd : pi.dst o.dst = true) (hop : o.op = .app esz bytes sx x) (hl : PI.lit dm o.guard x = some (u, k)) (hs : pi.opd ng sx = true)
    (s : SR ng pi σ0 A0 B0 σ A B f g) (hm : DMR pi σ A B B0.length f g dm) (he : evalOps call' draw (⟨o.dst, o.guard, o.quiet, .apl esz bytes k sx (.tmp u)⟩ :: l') f A = some r) :
    Went ng pi σ0 A0 B0 call' call draw o l' (keepG o.dst dm) B g r := by
  have hwe := wants_eq s hg
  cases hw : wants o.guard f with
  | false =>
    rw [evalOps_skip (o := ⟨o.dst, o.guard, o.quiet, .apl esz bytes k sx (.tmp u)⟩) hw] at he
    exact .inl ⟨_, _, σ, B, _, he, fun l => evalOps_skip (by rw [hwe]; exact hw), s.skip hd, hm.step s (EX.refl _ _ _) (dst_ne hd)⟩
  | true =>
    rw [hw] at hwe
    rw [evalOps_plain (o := ⟨o.dst, o.guard, o.quiet, .apl esz bytes k sx (.tmp u)⟩) rfl hw] at he
    split at he <;> try (cases he; done)
    rename_i p hio
    simp only at he
    split at he
    · cases he
    rename_i hq
    obtain ⟨rfl, gd', hmem, hsame⟩ := lit_mem hl
    obtain ⟨hk, _, _, hent⟩ := hm _ _ hmem
    obtain ⟨bl, cs, c1, c2, c3, ow⟩ := hent (sameG_wants hsame hw)
    obtain ⟨e1, e2⟩ := ev_eq s hs
    obtain ⟨p1, p2⟩ := p
    simp only [iop] at hio
    rw [show ev f (.tmp u) = f.getD u undef from rfl, c1] at hio
    simp only at hio
    split at hio <;> try (cases hio; done)
    rename_i hsz
    obtain ⟨σ1, B1, r1, r2, r3, r4⟩ := iapp_ren s.hr e2 ow.ok hio
    have hrow : B.row bl = some (cs.toList.map (ren σ)) := by unfold Heap.row; rw [ow.obj]
    have hel : elems B esz (ev g (.tmp u)) = some (k, cs.toList.map (ren σ)) := by
      rw [show ev g (.tmp u) = g.getD u undef from rfl, c2]
      have : ¬ k = 0 := by omega
      simp only [elems, this, if_false, hrow]
      have hlen : (cs.toList.map (ren σ)).length = k * esz := by simpa using hsz.1
      unfold cut
      rw [if_pos (by rw [hlen]; omega), List.drop_zero, List.take_of_length_le (by rw [hlen]; exact Nat.le_refl _)]
      rfl
    have key : iop o.op g B = some (ren σ1 p1, B1) := by rw [hop]; simp only [iop, hel, e1, r1]
    refine .inl ⟨_, _, σ1, B1, _, he, fun l => ?_, s.step hd r2 r3 r4, hm.step s r3 (dst_ne hd)⟩
    rw [evalOps_plain (by rw [hop]; rfl) hwe, key]
    simp only
    rw [if_neg]
    intro hq2
    simp only [Bool.and_eq_true, Bool.not_eq_true'] at hq2 hq
    have : unch A p2 = true := by
      cases hu : unch A p2 with
      | true => rfl
      | false => exact absurd ⟨hq2.1, hu⟩ hq
    rw [unch_of (r3.pre s.hr r2 (unch_pre this))] at hq2
    exact absurd hq2.2 (by simp)

/-- A store that passes reads of registers. -/
theorem stk_sim {a x : Operand} {k : Nat} {ks : List (Nat × Operand)} (hg : o.guard = none) (hd : pi.dst o.dst = true) (hop : o.op = .stk k a x ks) (ha : pi.opd ng a = true) (hx : pi.opd ng x = true)
    (hks : ks.all (fun k => pi.opd ng k.2 || (match pi.adr dm none k.2 with | some (t, _) => isLive dm t | none => false)) = true)
    (s : SR ng pi σ0 A0 B0 σ A B f g) (hm : DMR pi σ A B B0.length f g dm) (he : evalOps call' draw (⟨o.dst, o.guard, o.quiet, .stk k a x (ks.filter fun k => pi.opd ng k.2)⟩ :: l') f A = some r) :
    Went ng pi σ0 A0 B0 call' call draw o l' (keepG o.dst dm) B g r := by
  rw [evalOps_plain (o := ⟨o.dst, o.guard, o.quiet, .stk k a x (ks.filter fun k => pi.opd ng k.2)⟩) rfl (by show wants o.guard f = true; rw [hg]; rfl)] at he
  split at he <;> try (cases he; done)
  rename_i p hio
  simp only at he
  split at he
  · cases he
  rename_i hq
  have hev : ∀ y ∈ opds (.stk k a x (ks.filter fun k => pi.opd ng k.2)), ev g y = ren σ (ev f y) ∧ okV (· < A.length) (ev f y) := by
    intro y hy
    simp only [opds, List.mem_cons, List.mem_map, List.mem_filter] at hy
    rcases hy with rfl | rfl | ⟨z, ⟨_, hz⟩, rfl⟩
    · exact ev_eq s ha
    · exact ev_eq s hx
    · exact ev_eq s hz
  obtain ⟨σ1, B1, r1, r2, r3, r4⟩ := ren_iop rfl s.hr hev hio
  have key : iop o.op g B = some (ren σ1 p.1, B1) := by
    rw [hop]
    obtain ⟨e1, e2⟩ := ev_eq s ha
    rw [← r1]
    simp only [iop] at hio ⊢
    split at hio <;> try (cases hio; done)
    rename_i q hqa
    split at hio <;> try (cases hio; done)
    rename_i c lo hw
    obtain ⟨w1, w2, w3⟩ := s.hr.wrow hw
    rw [e1, hqa]
    simp only [ren]
    have w1' : B.wrow (renA σ q).block = some (c.map (ren σ), lo) := w1
    rw [w1']
    simp only
    have : (∀ y ∈ ks, apart (renA σ q) k y.1 (ev g y.2)) ↔ ∀ y ∈ ks.filter (fun k => pi.opd ng k.2), apart (renA σ q) k y.1 (ev g y.2) := by
      constructor
      · intro h y hy; exact h y (List.mem_filter.1 hy).1
      · intro h y hy
        by_cases hyo : pi.opd ng y.2 = true
        · exact h y (List.mem_filter.2 ⟨hy, hyo⟩)
        · have hh := List.all_eq_true.1 hks y hy
          simp only [Bool.or_eq_true, hyo, false_or] at hh
          split at hh
          · rename_i t' o2 hadr
            have hh : isLive dm t' = true := by rcases hh with hh | hh; cases hh; exact hh
            obtain ⟨cs', hf'⟩ := live_agg hm hh
            obtain ⟨_, bl', g1, g2, ow'⟩ := adr_at s hm hadr rfl hf'
            rw [g2]
            exact .inl fun hbb => ow'.out q.block w2 hbb
          · rcases hh with hh | hh
            · cases hh
            · cases hh
    simp only [this]
  have hp : plainOp o.op = true := by rw [hop]; rfl
  refine .inl ⟨_, _, σ1, B1, _, he, fun l => ?_, s.step hd r2 r3 r4, hm.step s r3 (dst_ne hd)⟩
  rw [evalOps_plain hp (by rw [hg]; rfl), key]
  simp only
  rw [if_neg]
  intro hq2
  simp only [Bool.and_eq_true, Bool.not_eq_true'] at hq2 hq
  have : unch A p.2 = true := by
    cases hu : unch A p.2 with
    | true => rfl
    | false => exact absurd ⟨hq2.1, hu⟩ hq
  rw [unch_of (r3.pre s.hr r2 (unch_pre this))] at hq2
  exact absurd hq2.2 (by simp)

/-- One operation. -/
theorem promO_sim (hc : SimCall ng call' call) (hp : promO ng pi dm o = some (o', dm')) (s : SR ng pi σ0 A0 B0 σ A B f g) (hm : DMR pi σ A B B0.length f g dm) (he : evalOps call' draw (o' :: l') f A = some r) :
    Went ng pi σ0 A0 B0 call' call draw o l' dm' B g r := by
  unfold promO at hp
  simp only at hp
  split at hp <;> try (cases hp; done)
  rename_i hg
  have hg : pi.grd o.guard = true := by simpa using hg
  have same : (if ((opds o.op).all (pi.opd ng) && pi.dst o.dst && isPlainCall o.op && !isReg o.op) = true then some (o, keepG o.dst dm) else none) = some (o', dm') → Went ng pi σ0 A0 B0 call' call draw o l' dm' B g r := by
    intro h
    split at h <;> cases h
    rename_i hh
    simp only [Bool.and_eq_true] at hh
    exact same_sim hc hg hh.1.1.1 hh.1.1.2 hh.1.2 s hm he
  split at hp
  · -- new
    rename_i z hop
    split at hp
    · rename_i t hdst
      split at hp
      · rename_i ht
        split at hp <;> cases hp
        rename_i hh
        simp only [Bool.and_eq_true, Option.isNone_iff_eq_none, Bool.not_eq_true'] at hh
        exact alloc_sim hh.1.1 hh.1.2 hdst ht (.inl ⟨z, hop, rfl, hh.2⟩) s hm he
      · exact same hp
    · exact same hp
  · rename_i k x hop
    split at hp
    · rename_i t hdst
      split at hp
      · rename_i ht
        split at hp <;> cases hp
        rename_i hh
        simp only [Bool.and_eq_true, Option.isNone_iff_eq_none, Bool.not_eq_true'] at hh
        exact alloc_sim hh.1.1 hh.1.2 hdst ht (.inr ⟨k, x, hop, rfl, hh.2⟩) s hm he
      · exact same hp
    · exact same hp
  · rename_i k z ps hop
    split at hp
    · rename_i d hdst
      split at hp
      · rename_i hd
        split at hp <;> cases hp
        rename_i hh
        simp only [Bool.and_eq_true, Bool.not_eq_true', decide_eq_true_eq] at hh
        exact bsl_sim hg hh.1.1.1.2 hdst hd hh.1.1.1.1.2 hh.1.1.1.1.1 hop hh.1.1.2 hh.1.2 hh.2 s hm he
      · exact same hp
    · exact same hp
  · rename_i esz bytes sx x hop
    split at hp
    · rename_i u k hl
      split at hp <;> cases hp
      rename_i hh
      simp only [Bool.and_eq_true] at hh
      exact apl_sim hg hh.2 hop hl hh.1 s hm he
    · exact same hp
  · rename_i off x hop
    split at hp
    · rename_i t b ha
      split at hp <;> try (cases hp; done)
      rename_i d hdst
      split at hp <;> cases hp
      rename_i hh
      simp only [Bool.and_eq_true, Bool.not_eq_true', decide_eq_true_eq] at hh
      exact fad_sim hg hh.2 hdst hh.1.1.2 hh.1.2 hh.1.1.1 hop ha s hm he
    · exact same hp
  · rename_i x hop
    split at hp
    · rename_i t b ha
      split at hp <;> cases hp
      rename_i hh
      simp only [Bool.and_eq_true, Bool.not_eq_true'] at hh
      exact read_sim (.inl ⟨rfl, rfl⟩) hg hh.2 hop ha hh.1 s hm he
    · exact same hp
  · rename_i k x hop
    split at hp
    · rename_i t b ha
      split at hp <;> cases hp
      rename_i hh
      simp only [Bool.and_eq_true, Bool.not_eq_true'] at hh
      exact read_sim (.inr ⟨k, rfl, rfl⟩) hg hh.2 hop ha hh.1 s hm he
    · exact same hp
  · rename_i k a x hop
    split at hp
    · rename_i t b ha
      split at hp <;> cases hp
      rename_i hh
      simp only [Bool.and_eq_true, Bool.not_eq_true', Option.isNone_iff_eq_none] at hh
      exact write_sim hh.1.1.1 hh.1.2 hh.1.1.2 (.inl hop) ha hh.2 s hm he
    · exact same hp
  · rename_i k a x ks hop
    split at hp
    · rename_i t b ha
      split at hp <;> cases hp
      rename_i hh
      simp only [Bool.and_eq_true, Bool.not_eq_true', Option.isNone_iff_eq_none] at hh
      exact write_sim hh.1.1.1.1 hh.1.1.2 hh.1.1.1.2 (.inr ⟨ks, hop, hh.2⟩) ha hh.1.2 s hm he
    · split at hp <;> cases hp
      rename_i hh
      simp only [Bool.and_eq_true, Option.isNone_iff_eq_none] at hh
      exact stk_sim hh.1.1.1.1 hh.1.2 hop hh.1.1.1.2 hh.1.1.2 hh.2 s hm he
  · exact same hp

theorem ops_sim (hc : SimCall ng call' call) : ∀ (l l' : List IOper) (dm : DM) (σ : Nat → Nat) (A B : Heap) (f g : Fr) (x : IExit) (f1 : Fr) (A1 : Heap), promOps ng pi dm l = some l' → SR ng pi σ0 A0 B0 σ A B f g → DMR pi σ A B B0.length f g dm →
    evalOps call' draw l' f A = some (x, f1, A1) → ∃ σ1 B1 g1, evalOps call draw l g B = some (renX σ1 x, g1, B1) ∧ SR ng pi σ0 A0 B0 σ1 A1 B1 f1 g1 ∧ okX (· < A1.length) x
  | [], l', dm, σ, A, B, f, g, x, f1, A1, hp, s, hm, he => by
    simp only [promOps] at hp; cases hp
    simp only [evalOps] at he; cases he
    exact ⟨σ, B, g, rfl, s, trivial⟩
  | o :: l, l', dm, σ, A, B, f, g, x, f1, A1, hp, s, hm, he => by
    simp only [promOps] at hp
    split at hp <;> try (cases hp; done)
    rename_i o' dm' h1
    split at hp <;> cases hp
    rename_i l2 h2
    rcases promO_sim hc h1 s hm he with ⟨f2, A2, σ2, B2, g2, e1, e2, s2, m2⟩ | ⟨ch, f2, A2, σ2, B2, e1, e2, s2, e3⟩
    · obtain ⟨σ1, B1, g1, r1, r2, r3⟩ := ops_sim hc l l2 dm' σ2 A2 B2 f2 g2 x f1 A1 h2 s2 m2 e1
      exact ⟨σ1, B1, g1, by rw [e2 l]; exact r1, r2, r3⟩
    · cases e1
      exact ⟨σ2, B2, g, e2 l, s2, e3⟩

theorem code_sim (hc : SimCall ng call' call) : ∀ (n : Nat) (c c' : ICode) (σ : Nat → Nat) (A B : Heap) (f g : Fr) (x : IExit) (f1 : Fr) (A1 : Heap), promC ng pi c = some c' → SR ng pi σ0 A0 B0 σ A B f g →
    evalC call' n c' f A = some (x, f1, A1) → ∃ σ1 B1 g1, evalC call n c g B = some (renX σ1 x, g1, B1) ∧ SR ng pi σ0 A0 B0 σ1 A1 B1 f1 g1 ∧ okX (· < A1.length) x := by
  intro n
  induction n with
  | zero => intro c c' σ A B f g x f1 A1 _ _ he; simp [evalC] at he
  | succ n ih =>
    intro c c' σ A B f g x f1 A1 hp s he
    cases c with
    | skip =>
      simp only [promC] at hp; cases hp
      simp only [evalC] at he; cases he
      exact ⟨σ, B, g, rfl, s, trivial⟩
    | ops d l =>
      simp only [promC, Option.map_eq_some_iff] at hp
      obtain ⟨l', h1, rfl⟩ := hp
      simp only [evalC] at he ⊢
      exact ops_sim hc l l' [] σ A B f g x f1 A1 h1 s (fun d e h => by cases h) he
    | seq a b =>
      simp only [promC] at hp
      split at hp <;> cases hp
      rename_i a' b' h1 h2
      simp only [evalC] at he ⊢
      split at he
      · rename_i f2 A2 ha
        obtain ⟨σ2, B2, g2, r1, r2, r3⟩ := ih a a' σ A B f g _ _ _ h1 s ha
        obtain ⟨σ1, B1, g1, q1, q2, q3⟩ := ih b b' σ2 A2 B2 f2 g2 x f1 A1 h2 r2 he
        exact ⟨σ1, B1, g1, by rw [r1]; exact q1, q2, q3⟩
      · rename_i hne
        obtain ⟨σ2, B2, g2, r1, r2, r3⟩ := ih a a' σ A B f g _ _ _ h1 s he
        refine ⟨σ2, B2, g2, ?_, r2, r3⟩
        rw [r1]
        cases x with
        | normal => exact absurd he (hne f1 A1)
        | _ => rfl
    | cond cx a b =>
      simp only [promC] at hp
      split at hp <;> try (cases hp; done)
      rename_i a' b' h1 h2
      split at hp <;> cases hp
      rename_i hx
      obtain ⟨e1, e2⟩ := ev_eq s hx
      simp only [evalC] at he ⊢
      split at he <;> try (cases he; done)
      rename_i t ht
      rw [e1, ht]
      simp only [ren]
      cases t with
      | true => simp only [if_true] at he ⊢; exact ih a a' σ A B f g x f1 A1 h1 s he
      | false => simp only [Bool.false_eq_true, if_false] at he ⊢; exact ih b b' σ A B f g x f1 A1 h2 s he
    | block i a =>
      simp only [promC, Option.map_eq_some_iff] at hp
      obtain ⟨a', h1, rfl⟩ := hp
      simp only [evalC] at he ⊢
      split at he
      · rename_i j f2 A2 ha
        obtain ⟨σ2, B2, g2, r1, r2, r3⟩ := ih a a' σ A B f g _ _ _ h1 s ha
        cases he
        refine ⟨σ2, B2, g2, by rw [r1]; simp only [renX]; split <;> rfl, r2, by split <;> trivial⟩
      · rename_i hne
        obtain ⟨σ2, B2, g2, r1, r2, r3⟩ := ih a a' σ A B f g _ _ _ h1 s he
        refine ⟨σ2, B2, g2, ?_, r2, r3⟩
        rw [r1]
        cases x with
        | exit j => exact absurd he (hne j f1 A1)
        | _ => rfl
    | loop a =>
      simp only [promC, Option.map_eq_some_iff] at hp
      obtain ⟨a', h1, rfl⟩ := hp
      simp only [evalC] at he ⊢
      split at he
      · rename_i f2 A2 ha
        obtain ⟨σ2, B2, g2, r1, r2, r3⟩ := ih a a' σ A B f g _ _ _ h1 s ha
        obtain ⟨σ1, B1, g1, q1, q2, q3⟩ := ih (.loop a) (.loop a') σ2 A2 B2 f2 g2 x f1 A1 (by simp [promC, h1]) r2 he
        exact ⟨σ1, B1, g1, by rw [r1]; exact q1, q2, q3⟩
      · rename_i hne
        obtain ⟨σ2, B2, g2, r1, r2, r3⟩ := ih a a' σ A B f g _ _ _ h1 s he
        refine ⟨σ2, B2, g2, ?_, r2, r3⟩
        rw [r1]
        cases x with
        | normal => exact absurd he (hne f1 A1)
        | _ => rfl
    | exit i =>
      simp only [promC] at hp; cases hp
      simp only [evalC] at he; cases he
      exact ⟨σ, B, g, rfl, s, trivial⟩
    | ret =>
      simp only [promC] at hp; cases hp
      simp only [evalC] at he; cases he
      exact ⟨σ, B, g, rfl, s, trivial⟩

end Go.IM

namespace Go.IM
open Go Go.RowKit
set_option linter.unusedVariables false
set_option linter.unusedSimpArgs false

variable {σ0 σ σ1 σ2 : Nat → Nat} {A0 A A1 A2 B0 B B1 B2 : Heap} {v w : Value} {f g : Fr} {n m ng : Nat} {pi : PI} {call call' : CallFn}

theorem res_sim {r r' : IRes} (hp : promRes pi r = some r') (s : SR ng pi σ0 A0 B0 σ A B f g) (h : res1 f A r' = some v) : res1 g B r = some (ren σ v) ∧ okV (· < A.length) v := by
  cases r with
  | tmp t =>
    simp only [promRes] at hp
    split at hp <;> cases hp
    rename_i ht
    simp only [res1] at h ⊢; cases h
    exact ⟨by rw [(s.val t ht).1], (s.val t ht).2⟩
  | cell t =>
    simp only [promRes] at hp
    split at hp
    · rename_i ht; cases hp
      simp only [res1] at h
      split at h <;> try (cases h; done)
      rename_i cs hf
      obtain ⟨b, b1, ow⟩ := s.reg t cs ht hf
      have hrow : B.row b = some (cs.toList.map (ren σ)) := by unfold Heap.row; rw [ow.obj]
      refine ⟨?_, (ow.ok v (List.mem_of_getElem? h)).1⟩
      simp only [res1, b1, hrow, List.getElem?_map, h, Option.map_some]
    · split at hp <;> cases hp
      rename_i ht
      obtain ⟨e1, e2⟩ := s.val t ht
      simp only [res1] at h
      split at h <;> try (cases h; done)
      rename_i p hf
      split at h <;> try (cases h; done)
      rename_i c hc
      obtain ⟨r1, r2, r3⟩ := s.hr.row hc
      refine ⟨?_, (r3 v (List.mem_of_getElem? h)).1⟩
      simp only [res1, e1, hf, ren, renA, r1, List.getElem?_map, h, Option.map_some]
  | agg t k =>
    simp only [promRes] at hp
    split at hp
    · rename_i ht; cases hp
      simp only [res1] at h
      split at h <;> try (cases h; done)
      rename_i cs hf
      simp only [Option.map_eq_some_iff] at h
      obtain ⟨xs, hx, rfl⟩ := h
      obtain ⟨b, b1, ow⟩ := s.reg t cs ht hf
      have hrow : B.row b = some (cs.toList.map (ren σ)) := by unfold Heap.row; rw [ow.obj]
      refine ⟨?_, agg_ok fun c hc => ow.ok c (cut_mem hx c hc)⟩
      simp only [res1, b1, hrow, cut_map, hx, Option.map_some, ren_agg]
    · split at hp <;> cases hp
      rename_i ht
      obtain ⟨e1, e2⟩ := s.val t ht
      simp only [res1] at h
      split at h <;> try (cases h; done)
      rename_i p hf
      split at h <;> try (cases h; done)
      rename_i c hc
      simp only [Option.map_eq_some_iff] at h
      obtain ⟨xs, hx, rfl⟩ := h
      obtain ⟨r1, r2, r3⟩ := s.hr.row hc
      refine ⟨?_, agg_ok fun c hc => r3 c (cut_mem hx c hc)⟩
      simp only [res1, e1, hf, ren, renA, r1, cut_map, hx, Option.map_some, ren_agg]
  | _ => simp [promRes] at hp

theorem results_sim : ∀ {rs rs' : List IRes} {vs : List Value}, promRs pi rs = some rs' → SR ng pi σ0 A0 B0 σ A B f g → resAll f A rs' = some vs → resAll g B rs = some (vs.map (ren σ)) ∧ ∀ v ∈ vs, okV (· < A.length) v
  | [], rs', vs, hp, s, h => by
    simp only [promRs] at hp; cases hp
    simp only [resAll] at h; cases h
    simp [resAll]
  | r :: rs, rs', vs, hp, s, h => by
    simp only [promRs] at hp
    split at hp <;> cases hp
    rename_i r' rs' h1 h2
    simp only [resAll] at h
    split at h <;> cases h
    rename_i v vs h3 h4
    obtain ⟨a1, a2⟩ := res_sim h1 s h3
    obtain ⟨b1, b2⟩ := results_sim h2 s h4
    refine ⟨by simp only [resAll, a1, b1, List.map_cons], fun u hu => ?_⟩
    rcases List.mem_cons.1 hu with rfl | hu
    · exact a2
    · exact b2 u hu

theorem one_ren (σ : Nat → Nat) (vs : List Value) : one (vs.map (ren σ)) = ren σ (one vs) := by
  cases vs with
  | nil => simp [one, ren]
  | cons v vs => cases vs with
    | nil => simp [one]
    | cons u vs => simp [one, ren]

theorem one_ok {S : Nat → Prop} {vs : List Value} (h : ∀ v ∈ vs, okV S v) : okV S (one vs) := by
  cases vs with
  | nil => simp [one, okV]
  | cons v vs => cases vs with
    | nil => exact h v (by simp)
    | cons u vs => simp only [one, okV]; intro x hx; exact h x (by simpa using hx)

/-! ### The registers are empty at first -/

def resetF (l : List Nat) (f : Fr) : Fr := l.foldl (fun f t => put (some t) undef f) f

theorem resetF_len : ∀ (l : List Nat) (f : Fr), (resetF l f).length = f.length
  | [], f => rfl
  | t :: l, f => by simp only [resetF, List.foldl_cons]; rw [show List.foldl _ _ l = resetF l (put (some t) undef f) from rfl, resetF_len l, len_put]

theorem resetF_get : ∀ (l : List Nat) (f : Fr) (t : Nat), (resetF l f).getD t undef = if l.contains t then undef else f.getD t undef
  | [], f, t => by simp [resetF]
  | u :: l, f, t => by
    simp only [resetF, List.foldl_cons]
    rw [show List.foldl _ _ l = resetF l (put (some u) undef f) from rfl, resetF_get l]
    by_cases h : l.contains t = true
    · have h' : t ∈ l := by simpa using h
      simp [h']
    · by_cases hu : u = t
      · subst hu
        have : (put (some u) undef f).getD u undef = undef := by
          rw [getD_put]
          split
          · rfl
          · rename_i hn
            rw [List.getD_eq_getElem?_getD, List.getElem?_eq_none]
            · rfl
            · simp at hn; exact hn
        rw [if_neg h, this]; simp
      · rw [if_neg h, getD_put_ne _ _ _ _ (by simpa using hu)]
        have : (u :: l).contains t = false := by simp at h ⊢; exact ⟨fun e => hu e.symm, h⟩
        rw [this]; simp

theorem evalOps_resets {draw : Bool} : ∀ (l : List Nat) (os : List IOper) (f : Fr) (A : Heap), evalOps call draw (resets l ++ os) f A = evalOps call draw os (resetF l f) A
  | [], os, f, A => rfl
  | t :: l, os, f, A => by
    simp only [resets, List.map_cons, List.cons_append]
    rw [evalOps_plain (o := ⟨some t, none, false, .mov (.const undef)⟩) rfl rfl]
    simp only [iop, ev, Bool.false_and, Bool.false_eq_true, if_false]
    exact evalOps_resets l os _ A

theorem evalC_addR {l : List Nat} : ∀ (n : Nat) (c c' : ICode) (f : Fr) (A : Heap), addR l c = some c' → evalC call n c' f A = evalC call n c (resetF l f) A := by
  intro n
  induction n with
  | zero => intro c c' f A _; simp [evalC]
  | succ n ih =>
    intro c c' f A h
    cases c <;> simp only [addR, reduceCtorEq] at h
    case ops d os => cases h; simp only [evalC]; exact evalOps_resets l os f A
    case seq a b =>
      simp only [Option.map_eq_some_iff] at h
      obtain ⟨a', h1, rfl⟩ := h
      simp only [evalC, ih a a' f A h1]
    case block i a =>
      simp only [Option.map_eq_some_iff] at h
      obtain ⟨a', h1, rfl⟩ := h
      simp only [evalC, ih a a' f A h1]

/-! ### Functions -/

/-- The second table's functions are the first one's with registers. -/
def PromTab (ng : Nat) (tab' tab : FuncId → Option IFn) : Prop := ∀ F, match tab' F with
  | some fn' => ∃ fn pi, tab F = some fn ∧ promFn ng pi fn = some fn'
  | none => tab F = none

theorem fn_sim {tab tab' : FuncId → Option IFn} {hook : CallFn} (ht : PromTab ng tab' tab) (hh : SimCall ng hook hook) : ∀ n, SimCall ng (evalF tab' hook n) (evalF tab hook n) := by
  intro n
  induction n with
  | zero => intro F args A e A1 σ B h; simp [evalF] at h
  | succ n ih =>
    intro F args A e A1 σ B h hr hok
    have hF := ht F
    simp only [evalF] at h ⊢
    cases htf : tab' F with
    | none =>
      rw [htf] at hF h
      simp only at hF h
      rw [hF]
      exact hh F args A e A1 σ B h hr hok
    | some fn' =>
      rw [htf] at hF h
      simp only at hF h
      obtain ⟨fn, pi, h1, h2⟩ := hF
      rw [h1]
      simp only
      unfold promFn at h2
      split at h2 <;> try (cases h2; done)
      rename_i hn
      have hn : pi.n = fn.ntmps := by simpa using hn
      split at h2 <;> try (cases h2; done)
      rename_i c rs hc hrs
      have key : ∃ c2, (∀ f A, evalC (evalF tab' hook n) n c2 f A = evalC (evalF tab' hook n) n c (resetF pi.bt f) A) ∧ fn' = { ntmps := fn.ntmps, results := rs, code := c2 } := by
        split at h2 <;> try (cases h2; done)
        rename_i c2 hc2
        cases h2
        refine ⟨c2, fun f A => ?_, rfl⟩
        split at hc2
        · rename_i he; cases hc2
          have : pi.bt = [] := by simpa using he
          rw [this]; rfl
        · exact evalC_addR n c c2 f A hc2
      obtain ⟨c2, hc2, rfl⟩ := key
      simp only at h
      rw [hc2] at h
      -- the frames
      have s0 : SR ng pi σ A B σ A B (resetF pi.bt (args ++ List.replicate (fn.ntmps - args.length) undef)) (args.map (ren σ) ++ List.replicate (fn.ntmps - (args.map (ren σ)).length) undef) := by
        have hg : ∀ t, (args.map (ren σ) ++ List.replicate (fn.ntmps - (args.map (ren σ)).length) undef).getD t undef = ren σ ((args ++ List.replicate (fn.ntmps - args.length) undef).getD t undef) := by
          intro t
          have hu : ren σ undef = undef := by simp [undef, ren]
          simp only [List.getD_eq_getElem?_getD, List.length_map]
          by_cases h1 : t < args.length
          · rw [List.getElem?_append_left (by simpa using h1), List.getElem?_append_left h1]
            simp [h1]
          · rw [List.getElem?_append_right (by simp; omega), List.getElem?_append_right (by omega)]
            simp only [List.length_map]
            by_cases h2 : t - args.length < fn.ntmps - args.length
            · simp [h2, hu]
            · have : (List.replicate (fn.ntmps - args.length) undef)[t - args.length]? = none := by rw [List.getElem?_eq_none]; simp; omega
              rw [this]; simp [hu]
        have ho : ∀ t, okV (· < A.length) ((args ++ List.replicate (fn.ntmps - args.length) undef).getD t undef) := by
          intro t
          rw [List.getD_eq_getElem?_getD]
          cases ht : (args ++ List.replicate (fn.ntmps - args.length) undef)[t]? with
          | none => simp [undef, okV]
          | some u =>
            have := List.mem_of_getElem? ht
            rcases List.mem_append.1 this with hu | hu
            · exact hok u hu
            · rw [(List.mem_replicate.1 hu).2]; simp [undef, okV]
        have hnone : ∀ t cs, pi.bt.contains t = true → (resetF pi.bt (args ++ List.replicate (fn.ntmps - args.length) undef)).getD t undef ≠ .agg cs := by
          intro t cs ht he
          rw [resetF_get, if_pos ht] at he
          simp [undef] at he
        refine ⟨hr, EX.refl _ _ _, by rw [resetF_len]; simp, by rw [resetF_len, hn]; simp; omega, fun t ht => ?_, fun t cs ht hf => absurd hf (hnone t cs ht), fun t t' cs cs' b ht _ hf => absurd hf (hnone t cs ht)⟩
        rw [resetF_get, free_bt ht]
        simp only [Bool.false_eq_true, if_false]
        exact ⟨hg t, ho t⟩
      cases he : evalC (evalF tab' hook n) n c (resetF pi.bt (args ++ List.replicate (fn.ntmps - args.length) undef)) A with
      | none => rw [he] at h; simp at h
      | some y =>
        obtain ⟨x, f1, A2⟩ := y
        rw [he] at h
        obtain ⟨σ1, B1, g1, r1, r2, r3⟩ := code_sim ih n fn.code c σ A B _ _ x f1 A2 hc s0 he
        rw [r1]
        have fin : ∀ e', (match resAll f1 A2 rs with | some vs => some (IEnd.ret (one vs), A2) | none => none) = some (e', A1) →
            ∃ σ1 B1', (match resAll g1 B1 fn.results with | some vs => some (IEnd.ret (one vs), B1) | none => none) = some (renEnd σ1 e', B1') ∧ HR ng σ1 A1 B1' ∧ EX σ A B σ1 A1 B1' ∧ okEnd (· < A1.length) e' := by
          intro e' h
          split at h <;> cases h
          rename_i vs hvs
          obtain ⟨q1, q2⟩ := results_sim hrs r2 hvs
          refine ⟨σ1, B1, ?_, r2.hr, r2.ex, one_ok q2⟩
          rw [q1]; simp only [renEnd, one_ren]
        cases x with
        | normal => simp only [renX] at h ⊢; exact fin e h
        | ret => simp only [renX] at h ⊢; exact fin e h
        | panic ch =>
          simp only at h
          cases h
          exact ⟨σ1, B1, rfl, r2.hr, r2.ex, r3⟩
        | exit j => simp at h

theorem hook_sim {K : FuncId} {u : Value} (hu : flat1 u = true) : SimCall ng (closedHook K u) (closedHook K u) := by
  intro F args A e A1 σ B h hr hok
  unfold closedHook at h
  split at h <;> cases h
  rename_i hk
  simp only [Bool.and_eq_true, List.isEmpty_iff] at hk
  obtain ⟨hk, rfl⟩ := hk
  refine ⟨σ, B, ?_, hr, EX.refl _ _ _, (flat1_tr hu (fun _ => default) _).2.1⟩
  unfold closedHook
  simp only [hk, List.map_nil, List.isEmpty_nil, Bool.and_self, if_true, renEnd, flat1_ren hu]

theorem ren_id : ∀ v : Value, ren (fun i => i) v = v
  | .bool _ | .int _ _ | .float _ _ | .complex _ _ _ | .string _ | .nilFunc | .nilIface | .chan _ => by simp [ren]
  | .pointer none | .map none | .slice none _ _ => by simp [ren]
  | .pointer (some a) => by simp [ren, renA]
  | .slice (some a) l c => by simp [ren, renA]
  | .map (some r) => by simp [ren]
  | .func fn a b => by
    simp only [ren]
    have h1 : a.map (ren fun i => i) = a.map id := by apply Array.map_congr_left; intro x hx; exact ren_id x
    have h2 : b.map (ren fun i => i) = b.map id := by apply Array.map_congr_left; intro x hx; exact ren_id x
    rw [h1, h2]; simp
  | .iface t v => by simp only [ren]; rw [ren_id v]
  | .agg cs => by
    simp only [ren]
    have h1 : cs.map (ren fun i => i) = cs.map id := by apply Array.map_congr_left; intro x hx; exact ren_id x
    rw [h1]; simp
  | .tuple cs => by
    simp only [ren]
    have h1 : cs.map (ren fun i => i) = cs.map id := by apply Array.map_congr_left; intro x hx; exact ren_id x
    rw [h1]; simp

theorem renO_id (o : IObj) : renO (fun i => i) o = o := by
  have hl : ∀ l : List Value, l.map (ren fun i => i) = l := fun l => by
    have : l.map (ren fun i => i) = l.map id := List.map_congr_left fun v _ => ren_id v
    simpa using this
  cases o with
  | cells c ro lo => simp only [renO, hl]
  | map es k =>
    simp only [renO]
    congr 1
    have : es.map (renE fun i => i) = es.map id := List.map_congr_left fun e _ => by simp only [renE, ren_id, id]
    simpa using this
  | dead => rfl

/-- What the functions with registers answer, the program's own answer. -/
theorem prom_law {tab tab' : FuncId → Option IFn} {hook : CallFn} (ht : PromTab ng tab' tab) (hh : SimCall ng hook hook) {F : FuncId} {args : List Value} {H : Heap} (hr : HR ng (fun i => i) H H) (hok : ∀ v ∈ args, okV (· < H.length) v)
    (hv : flat1 v = true) (he : WF tab' hook F args H fun e _ => e = .ret v) : ∃ n H', evalF tab hook n F args H = some (.ret v, H') := by
  obtain ⟨n, e, H1, h1, rfl⟩ := he
  obtain ⟨σ1, B1, r1, _, _, _⟩ := fn_sim ht hh n F args H _ _ _ H (h1 n (Nat.le_refl _)) hr hok
  have : args.map (ren fun i => i) = args := by
    have : args.map (ren fun i => i) = args.map id := List.map_congr_left fun v _ => ren_id v
    simpa using this
  rw [this] at r1
  exact ⟨n, B1, by rw [r1]; simp only [renEnd, flat1_ren hv]⟩

theorem AH.hr {P : Program} {ρ : Place} {H : Heap} {w : World} (A : AH ng ρ H w) : HR ng (fun i => i) H H := by
  refine ⟨fun i hi => hi, fun i j _ _ h => h, fun i o ho => by rw [renO_id]; exact ho, fun i o ho => ?_, fun i hi => ⟨rfl, (A.rel.glob i hi).1⟩⟩
  have hi := (List.getElem?_eq_some_iff.1 ho).1
  cases o with
  | cells c ro lo =>
    intro v hv
    obtain ⟨k, hk⟩ := List.mem_iff_getElem?.1 hv
    have := (A.rel.cells i c ro lo hi ho).val k v hk
    exact ⟨this.2.1, by rw [one1_eq]; exact this.2.2⟩
  | map es k => exact absurd (.inr ⟨es, k, ho⟩) (A.ro i)
  | dead => trivial

/-- A call whose arguments lie in memory, by the functions with registers. -/
theorem mem_law2 {P : Program} {ρ : Place} {H : Heap} {w : World} {tab tab' : FuncId → Option IFn} (ht : ∀ F fn, tab F = some fn → tabP P ng F = some fn) (hm : P.follows .mixedOrders = true) {hook : CallFn} (hh : SoundCall P w.heap.size ng hook) (hs : SimCall ng hook hook) (hp : PromTab ng tab' tab)
    {F : FuncId} {iargs args : List Value} {v : Value}
    (A : AH ng ρ H w) (ha : F2 (VR ρ H) iargs args) (hv : flat1 v = true) (he : WF tab' hook F iargs H fun e _ => e = .ret v) :
    Calls P F args.toArray w fun e w' => e = .returned v ∧ Below w.heap.size w w' := by
  have hmap : iargs.map (trV ρ) = args := by
    clear he
    induction ha with
    | nil => rfl
    | cons h _ ih => simp [h.tr, ih]
  have hok : ∀ x ∈ iargs, okV (fun i => i < H.length) x := by
    clear hmap he
    induction ha with
    | nil => intro x hx; cases hx
    | cons h _ ih =>
      intro x hx
      rcases List.mem_cons.1 hx with rfl | hx
      · exact h.ok
      · exact ih x hx
  obtain ⟨n, H', h1⟩ := prom_law hp hs (A.hr (P := P)) hok hv he
  have := ((evalF_sound ht hh hm n) _ _ _ _ _ h1).2.2 (fun i => i < H.length) ρ w A.rel hok
  rw [hmap] at this
  refine Calls.mono this fun E w' hE => ?_
  obtain ⟨ρ', rfl, h1, h2, _⟩ := hE
  exact ⟨by simp only [trEnd, (flat1_tr hv ρ' (fun _ => False)).1], Ext.below A.rel h2⟩

/-! ### Answers that are decided -/

theorem dec_ret {R : IEnd → Heap → Prop} {H : Heap} {p : Prop} [Decidable p] {b : Bool} (h : R (.ret (.bool (decide p))) H) (e : b = true ↔ p) : R (.ret (.bool b)) H := by
  have : decide p = b := by
    cases b
    · exact decide_eq_false fun hp => nomatch e.2 hp
    · exact decide_eq_true (e.1 rfl)
  rwa [this] at h
theorem dec_eq {p : Prop} [Decidable p] {b : Bool} (e : b = true ↔ p) : b = decide p := by
  cases b
  · exact (decide_eq_false fun hp => nomatch e.2 hp).symm
  · exact (decide_eq_true (e.1 rfl)).symm

end Go.IM
