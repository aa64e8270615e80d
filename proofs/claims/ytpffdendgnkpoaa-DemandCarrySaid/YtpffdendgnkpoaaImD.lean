/- The ideal machine is sound: what its evaluator answers of a compiled function, the model's calls answer, in every order of the drawn regions. For every program. -/
import Derived.Test.YtpffdendgnkpoaaImC
import Derived.Orders
namespace Go.IM
open Go Go.RowKit
set_option linter.unusedVariables false

/-! ## From the program's code to the ideal machine's -/

/-- It neither reads nor writes the memory. -/
def pureOp : IOp → Bool
  | .mov _ | .pick .. | .una .. | .bin .. | .eq .. | .cnv .. | .nck _ | .fad .. | .ixa .. | .ixs .. | .fld .. | .ixv .. | .ixt .. | .mki .. | .tas .. | .ext .. | .fun_ .. | .cap _ | .mnx .. | .bld .. => true
  | .len k _ => match k with
    | .map => false
    | _ => true
  | _ => false

def compGuard (all : List Oper) : Option (Nat × Bool) → Option (Option (Nat × Bool))
  | none => some none
  | some (g, b) => match (all[g]?).bind (·.dst) with
    | some t => some (some (t, b))
    | none => none

/-- 0: an operation that stays; 1: a call; 2: a panic; 3: not handled. -/
def opKind : IOp → Nat
  | .call .. => 1
  | .pan _ => 2
  | i => if plainOp i then 0 else 3

def isStk : IOp → Bool
  | .stk .. => true
  | _ => false

/-- The store alone. -/
def IOp.bare : IOp → IOp
  | .stk n a x _ => .sto n a x
  | i => i

def compOps (P : Program) (ng : Nat) (all : List Oper) : List Oper → Option (List IOper)
  | [] => some []
  | o :: os => match compOp P o, compGuard all o.guard, compOps P ng all os with
    | some i, some g, some l => if o.op.operands.toList.all (opdOk ng) && opKind i != 3 && !isStk i then some (⟨o.dst, g, false, i⟩ :: l) else none
    | _, _, _ => none

/-- What comes before an operation in every order, as the bits of a number. -/
def befM (acc : List Nat) (o : Oper) : Nat := o.after.toList.foldl (fun s e => if Region.binds .any e then s ||| (1 <<< e.on) ||| acc.getD e.on 0 else s) 0

def befs : List Nat → List Oper → List Nat
  | acc, [] => acc
  | acc, o :: os => befs (acc ++ [befM acc o]) os

def comparable (bef : List Nat) (i j : Nat) : Bool := i == j || (bef.getD i 0).testBit j || (bef.getD j 0).testBit i

def heapy (o : IOper) : Bool := !pureOp o.op

/-- The operations that touch the memory and may stand on either side of the i-th. -/
def loneOp (bef : List Nat) (l : List IOper) (i : Nat) : Bool := (List.range l.length).all fun j => !((l[j]?).map heapy).getD false || comparable bef i j

/-- It changes nothing that is there. -/
def calmOp : IOp → Bool
  | .ld1 _ | .ldn .. | .len .. | .new _ | .box .. | .bsl .. | .b2s _ | .s2b _ | .mks .. | .slc .. | .msk _ | .mkm | .mkh _ | .lkp .. => true
  | _ => false

def noisy (o : IOper) : Bool := heapy o && !calmOp o.op && !o.quiet

/-- It reads cells at an address. -/
def readOf : IOp → Option (Nat × Operand)
  | .ld1 x => some (1, x)
  | .ldn n x => some (n, x)
  | _ => none

/-- From here on no operation writes it. -/
def unwritten (l : List IOper) (j : Nat) : Operand → Bool
  | .tmp t => (l.drop j).all fun p => !(p.dst == some t)
  | _ => true

/-- The reads ahead of the i-th operation that may also stand behind it; none: something else may. -/
def crossing (bef : List Nat) (l : List IOper) (i : Nat) : List Nat → Option (List (Nat × Operand))
  | [] => some []
  | j :: js => if !((l[j]?).map heapy).getD false || comparable bef i j then crossing bef l i js else
    match (l[j]?).bind (fun o => readOf o.op), crossing bef l i js with
    | some (m, x), some ks => if j < i && unwritten l j x then some ((m, x) :: ks) else none
    | _, _ => none

def setQ1 (bef : List Nat) (all : List IOper) (i : Nat) (o : IOper) : IOper := match o.op, crossing bef all i (List.range all.length) with
  | .sto n a x, some (k :: ks) => { o with op := .stk n a x (k :: ks) }
  | _, _ => { o with quiet := heapy o && !calmOp o.op && !loneOp bef all i }

def setQuiet (bef : List Nat) (all : List IOper) : Nat → List IOper → List IOper
  | _, [] => []
  | i, o :: os => setQ1 bef all i o :: setQuiet bef all (i + 1) os

def looks (o : IOper) (p : Oper) : List Nat :=
  (p.op.operands.toList.filterMap fun | .tmp t => some t | _ => none) ++ (match o.guard with | some (t, _) => [t] | none => [])

def okEdges (bef : List Nat) (ops : List Oper) : Nat → List Oper → Bool
  | _, [] => true
  | i, o :: os => o.after.toList.all (fun e => !Region.binds .any e || decide (e.on < i)) && bef.getD i 0 == befM bef o && okEdges bef ops (i + 1) os

/-- Who writes what an operation looks at, comes always before it or always behind it. -/
def okLooks (bef : List Nat) (all : List IOper) : Nat → List IOper → List Oper → Bool
  | i, o :: os, p :: ps => ((looks o p).all fun t => (List.range all.length).all fun j => !(((all[j]?).bind (·.dst)) == some t) || comparable bef i j) && okLooks bef all (i + 1) os ps
  | _, _, _ => true

def okDsts : List IOper → Bool
  | [] => true
  | o :: os => (match o.dst with | some d => os.all fun p => !(p.dst == some d) | none => true) && okDsts os

def noSel (ops : List Oper) : Bool := ops.all fun o => match o.op with | .select .. => false | _ => true

def compRegion (P : Program) (ng : Nat) (ops : List Oper) (draw : Bool) : Option (List IOper) :=
  match compOps P ng ops ops with
  | some l => if draw then
      let bef := befs [] ops
      let l' := setQuiet bef l 0 l
      if okEdges bef ops 0 ops && okLooks bef l' 0 l' ops && okDsts l' && noSel ops then some l' else none
    else some l
  | none => none

def compC (P : Program) (ng : Nat) : Code → Option ICode
  | .skip => some .skip
  | .region _ ops draw => (compRegion P ng ops.toList draw).map (.ops draw)
  | .seq a b => match compC P ng a, compC P ng b with
    | some a, some b => some (.seq a b)
    | _, _ => none
  | .cond c a b => match compC P ng a, compC P ng b with
    | some a, some b => if opdOk ng c then some (.cond c a b) else none
    | _, _ => none
  | .block i a => (compC P ng a).map (.block i)
  | .loop a => (compC P ng a).map .loop
  | .exit i => some (.exit i)
  | .ret => some .ret
  | _ => none

def compRes (P : Program) : ResultVar → Option IRes
  | .tmp t => some (.tmp t)
  | .cell a t => match agO P t, szO P t with
    | some true, some n => some (.agg a n)
    | some false, some _ => some (.cell a)
    | _, _ => none

def compRs (P : Program) : List ResultVar → Option (List IRes)
  | [] => some []
  | r :: rs => match compRes P r, compRs P rs with
    | some r, some rs => some (r :: rs)
    | _, _ => none

def compFn (P : Program) (ng : Nat) (fn : Func) : Option IFn :=
  match fn.body with
  | some c => if fn.name == "runtime.NumGoroutine" then none else match compC P ng c, compRs P fn.results.toList with
    | some c, some rs => some { ntmps := fn.ntmps, results := rs, code := c }
    | _, _ => none
  | none => none

def tabP (P : Program) (ng : Nat) (F : FuncId) : Option IFn := (P.funcs[F]?).bind (compFn P ng)

/-! ## The memory never shrinks -/

theorem iapp_len {esz bytes : Nat} {s : Value} {n : Nat} {xs : List Value} {H H' : Heap} {v : Value} (h : iapp esz bytes s n xs H = some (v, H')) : H.length ≤ H'.length := by
  unfold iapp at h
  repeat' split at h
  all_goals first | (cases h; done) | (cases h; simp)

theorem islc_len {k : SlK} {s : Value} {f : Fr} {lo hi mx : Option Operand} {H H' : Heap} {v : Value} (h : islc k s f lo hi mx H = some (v, H')) : H.length ≤ H'.length := by
  unfold islc at h
  repeat' split at h
  all_goals first | (cases h; done) | (cases h; simp)

theorem iop_len {i : IOp} {f : Fr} {H H' : Heap} {v : Value} (h : iop i f H = some (v, H')) : H.length ≤ H'.length := by
  cases i
  case app => simp only [iop] at h; split at h; exact iapp_len h; cases h
  case apz => simp only [iop] at h; repeat' split at h
              all_goals first | (cases h; done) | exact iapp_len h
  case slc => exact islc_len h
  case apl => simp only [iop] at h; repeat' split at h
              all_goals first | (cases h; done) | exact iapp_len h
  all_goals
    simp only [iop] at h
    repeat' split at h
    all_goals first | (cases h; done) | (cases h; simp)

theorem pure_any {i : IOp} {f : Fr} {H H' : Heap} {v : Value} (hp : pureOp i = true) (h : iop i f H = some (v, H')) : H' = H ∧ ∀ G, iop i f G = some (v, G) := by
  cases i <;> simp only [pureOp, Bool.false_eq_true] at hp
  all_goals
    simp only [iop] at h ⊢
    repeat' split at h
    all_goals first | (cases h; done) | (cases h; simp_all)

end Go.IM

namespace Go.IM
open Go Go.RowKit
set_option linter.unusedVariables false

variable {P : Program} {base ng : Nat} {S S0 : Nat → Prop} {ρ ρ0 : Place} {H H' H0 : Heap} {w w1 w0 : World} {f f' : Fr} {o : Oper} {v : Value} {a : Act}

/-! ## States -/

def trP (ρ : Place) (p : PanicEntry) : PanicEntry := { p with v := trV ρ p.v }

def trEnd (ρ : Place) : IEnd → Ending
  | .ret v => .returned (trV ρ v)
  | .pan ch => .panicked (ch.map (trP ρ))

def okEnd (S : Nat → Prop) : IEnd → Prop
  | .ret v => okV S v
  | .pan ch => ∀ p ∈ ch, okV S p.v

def trX (ρ : Place) : IExit → Exit
  | .normal => .normal
  | .exit i => .exit i
  | .ret => .ret
  | .panic ch => .panic (ch.map (trP ρ))

def okX (S : Nat → Prop) : IExit → Prop
  | .panic ch => ∀ p ∈ ch, okV S p.v
  | _ => True

/-- What a call does. -/
def SoundCall (P : Program) (base ng : Nat) (call : CallFn) : Prop :=
  ∀ F args H e H', call F args H = some (e, H') → H.length ≤ H'.length ∧ (∀ as w, (callFunc F as).run P w = .ok (.enter F as) w) ∧
    ∀ S ρ w, HRel base ng S ρ H w → (∀ v ∈ args, okV S v) →
      Calls P F (args.map (trV ρ)).toArray w fun E w' => ∃ ρ', E = trEnd ρ' e ∧ HRel base ng (grow S H H') ρ' H' w' ∧ Ext S ρ H w (grow S H H') ρ' H' w' ∧ okEnd (grow S H H') e

/-- An operand's value here and there. -/
def EvOk (S : Nat → Prop) (ρ : Place) (f : Fr) (a : Act) (x : Operand) : Prop := a.eval x = trV ρ (ev f x) ∧ okV S (ev f x)

theorem grow_grow (h1 : H0.length ≤ H.length) (h2 : H.length ≤ H'.length) : grow (grow S H0 H) H H' = grow S H0 H' := by
  funext i; apply propext; unfold grow; constructor
  · rintro ((h | h) | h)
    · exact .inl h
    · exact .inr ⟨h.1, by omega⟩
    · exact .inr ⟨by omega, h.2⟩
  · rintro (h | h)
    · exact .inl (.inl h)
    · by_cases hi : i < H.length
      · exact .inl (.inr ⟨h.1, hi⟩)
      · exact .inr ⟨by omega, h.2⟩

/-- One operation in the real machine, from one in the ideal. -/
theorem step_plain {i : IOp} {K : Act → World → Prop} {Q : Exit → Act → World → Prop} (hc : compOp P o = some i) (hp : plainOp i = true) (hns : ∀ cs b, o.op ≠ .select cs b) (h : HRel base ng S ρ H w)
    (hv : ∀ x ∈ o.op.operands.toList, EvOk S ρ f a x) (he : iop i f H = some (v, H'))
    (k : ∀ ρ' w', HRel base ng (grow S H H') ρ' H' w' → Ext S ρ H w (grow S H H') ρ' H' w' → okV (grow S H H') v → K (a.put o.dst (trV ρ' v)) w') : o.wp P a w K Q := by
  obtain ⟨ρ', w', n, hr, hn, h1, h2, h3⟩ := sim_op hc hp h (fun x hx => (hv x hx).2) he
  have hr' : (execOp a.eval o).run P w = .ok n w' := by
    rw [execOp_congr o hns (ρ' := fun x => trV ρ (ev f x)) (fun x hx => (hv x (by simpa using hx)).1)]
    exact hr
  unfold Oper.wp
  rw [hr']
  rcases hn with rfl | ⟨rfl, rfl⟩
  · exact k ρ' w' h1 h2 h3
  · have := k ρ' w' h1 h2 h3
    rw [Oper.upon_skip]
    simpa using this

theorem call_inv {g : Operand} {as : List Operand} (hc : compOp P o = some (.call g as)) : ∃ c, o.op = .call c ∧ c.callee = .value g ∧ c.args.toList = as := by
  cases ho : o.op <;> simp only [compOp, ho] at hc
  case call c =>
    refine ⟨c, rfl, ?_⟩
    cases hcc : c.callee with
    | value x => simp only [compCall, hcc] at hc; cases hc; exact ⟨rfl, rfl⟩
    | invoke x m => simp [compCall, hcc] at hc
    | builtin b =>
      simp only [compCall, hcc] at hc
      repeat' split at hc
      all_goals first | (cases hc; done) | (simp only [Option.map_eq_some_iff] at hc; obtain ⟨_, _, hc⟩ := hc; cases hc; done)
  all_goals
    exfalso
    try unfold compEq at hc
    repeat' split at hc
    all_goals first | (cases hc; done) | (simp only [Option.map_eq_some_iff] at hc; obtain ⟨_, _, hc⟩ := hc; cases hc; done) | (rename_i hh; cases hh; done) | (simp_all; done)

theorem step_call {call : CallFn} {g : Operand} {as : List Operand} {F : FuncId} {first cap : Array Value} {e : IEnd} {K : Act → World → Prop} {Q : Exit → Act → World → Prop}
    (hs : SoundCall P base ng call) (hc : compOp P o = some (.call g as)) (h : HRel base ng S ρ H w)
    (hv : ∀ x ∈ o.op.operands.toList, EvOk S ρ f a x) (hg : ev f g = .func (.func F) first cap)
    (he : call F (first.toList ++ as.map (ev f) ++ cap.toList) H = some (e, H'))
    (k : ∀ ρ' w', HRel base ng (grow S H H') ρ' H' w' → Ext S ρ H w (grow S H H') ρ' H' w' → okEnd (grow S H H') e →
      match e with
      | .ret v => K (a.put o.dst (trV ρ' v)) w'
      | .pan ch => Q (.panic (ch.map (trP ρ'))) a w') : o.wp P a w K Q := by
  obtain ⟨c, hop, hcal, has⟩ := call_inv hc
  have hr : (execOp a.eval o).run P w = .ok (.enter F ((first.toList ++ as.map (ev f) ++ cap.toList).map (trV ρ)).toArray) w := by
    have hg' : a.eval g = .func (.func F) (first.map (trV ρ)) (cap.map (trV ρ)) := by
      rw [(hv g (by simp [hop, Op.operands, Call.operands, hcal])).1, hg]; simp [trV]
    have has' : c.args.map a.eval = (as.map fun x => trV ρ (ev f x)).toArray := by
      rw [← has]
      apply Array.ext'
      simp only [Array.toList_map]
      apply List.map_congr_left
      intro x hx
      exact (hv x (by simp [hop, Op.operands, Call.operands, hcal]; exact .inr (by simpa using hx))).1
    simp only [execOp, hop, resolve, hcal, has', hg', Deferred.ofValue, Sem.run_bind, Sem.run_pure, Result.andThen_ok, invoke]
    rw [(hs F _ H e H' he).2.1]
    congr 2
    apply Array.ext'
    simp
  have hcl := (hs F _ H e H' he).2.2 S ρ w h (by
    intro x hx
    simp only [List.mem_append, List.mem_map] at hx
    have hgo := (hv g (by simp [hop, Op.operands, Call.operands, hcal])).2
    rw [hg] at hgo
    simp only [okV] at hgo
    rcases hx with (hx | ⟨y, hy, rfl⟩) | hx
    · exact hgo.2.1 x (by simpa using hx)
    · exact (hv y (by simp [hop, Op.operands, Call.operands, hcal]; exact .inr (by rw [← has] at hy; simpa using hy))).2
    · exact hgo.2.2 x (by simpa using hx))
  unfold Oper.wp
  rw [hr, Oper.upon_enter]
  refine Calls.mono hcl fun E w' hE => ?_
  obtain ⟨ρ', rfl, h1, h2, h3⟩ := hE
  have hk := k ρ' w' h1 h2 h3
  cases e with
  | ret v => exact hk
  | pan ch => exact hk

end Go.IM

namespace Go.IM
open Go Go.RowKit
set_option linter.unusedVariables false

variable {P : Program} {base ng : Nat} {S S' S0 : Nat → Prop} {ρ ρ' ρ0 : Place} {H H' H0 : Heap} {w w' w1 w0 : World} {f f' : Fr} {o : Oper} {v : Value} {a : Act}

structure St (base ng : Nat) (S : Nat → Prop) (ρ : Place) (H : Heap) (w : World) (f : Fr) (a : Act) : Prop where
  rel : HRel base ng S ρ H w
  tmps : a.tmps = (f.map (trV ρ)).toArray
  defs : a.defers = []
  ok : ∀ v ∈ f, okV S v

structure Rch (base ng : Nat) (S0 : Nat → Prop) (ρ0 : Place) (H0 : Heap) (w0 : World) (ρ : Place) (H : Heap) (w : World) (f : Fr) (a : Act) : Prop where
  st : St base ng (grow S0 H0 H) ρ H w f a
  ext : Ext S0 ρ0 H0 w0 (grow S0 H0 H) ρ H w
  len : H0.length ≤ H.length

def Post (base ng : Nat) (S0 : Nat → Prop) (ρ0 : Place) (H0 : Heap) (w0 : World) (x : IExit) (f : Fr) (H : Heap) (e : Exit) (a : Act) (w : World) : Prop :=
  ∃ ρ, e = trX ρ x ∧ okX (grow S0 H0 H) x ∧ Rch base ng S0 ρ0 H0 w0 ρ H w f a

theorem getD_map_tr (ρ : Place) (f : Fr) (t : Nat) : (f.map (trV ρ)).toArray.getD t undef = trV ρ (f.getD t undef) := by
  simp only [Array.getD_eq_getD_getElem?, List.getElem?_toArray, List.getElem?_map, List.getD_eq_getElem?_getD]
  cases f[t]? <;> simp

theorem ok_getD (h : ∀ v ∈ f, okV S v) (t : Nat) : okV S (f.getD t undef) := by
  simp only [List.getD_eq_getElem?_getD]
  cases ht : f[t]? with
  | none => simp
  | some u => exact h u (List.mem_of_getElem? ht)

theorem evOk_opd (h : HRel base ng S ρ H w) (ht : ∀ t, a.tmps.getD t undef = trV ρ (f.getD t undef) ∧ okV S (f.getD t undef)) {x : Operand} (hx : opdOk ng x = true) : EvOk S ρ f a x := by
  cases x with
  | tmp t => exact ht t
  | const v => have := flatV_tr (by simpa [opdOk] using hx) ρ S; exact ⟨this.1.symm, this.2.1⟩
  | global g =>
    have hg := h.glob g (by simpa [opdOk] using hx)
    refine ⟨?_, by simp [ev, okV, hg.1]⟩
    simp [Act.eval, ev, trV, trA, hg.2.1, hg.2.2]
  | func g => exact ⟨by simp [Act.eval, ev, trV], by simp [ev, okV]⟩

theorem St.ev (st : St base ng S ρ H w f a) {x : Operand} (hx : opdOk ng x = true) : EvOk S ρ f a x :=
  evOk_opd st.rel (fun t => ⟨by rw [st.tmps]; exact getD_map_tr ρ f t, ok_getD st.ok t⟩) hx

theorem map_tr_agree (agree : ∀ i, S i → ρ' i = ρ i) (ok : ∀ v ∈ f, okV S v) : f.map (trV ρ') = f.map (trV ρ) :=
  List.map_congr_left fun v hv => trV_agree agree v (ok v hv)

theorem St.put (st : St base ng S ρ H w f a) (h' : HRel base ng S' ρ' H' w') (sub : ∀ i, S i → S' i) (agree : ∀ i, S i → ρ' i = ρ i) (hv : okV S' v) (d : Option Nat) :
    St base ng S' ρ' H' w' (IM.put d v f) (a.put d (trV ρ' v)) := by
  cases d with
  | none =>
    refine ⟨h', ?_, st.defs, fun u hu => okV_mono sub u (st.ok u hu)⟩
    show a.tmps = _
    rw [st.tmps, IM.put]; simp only [map_tr_agree agree st.ok]
  | some d =>
    refine ⟨h', ?_, st.defs, ?_⟩
    · show a.tmps.setIfInBounds d (trV ρ' v) = _
      rw [st.tmps, IM.put]
      apply Array.ext'
      simp [List.map_set, map_tr_agree agree st.ok]
    · intro u hu
      simp only [IM.put] at hu
      rcases List.mem_or_eq_of_mem_set hu with hu | rfl
      · exact okV_mono sub u (st.ok u hu)
      · exact hv

theorem trV_bool_inv {ρ : Place} {v : Value} {b : Bool} (h : trV ρ v = .bool b) : v = .bool b := by
  cases v <;> simp [trV] at h ⊢
  · exact h
  · rename_i x; cases x <;> simp [trV] at h
  · rename_i x _ _; cases x <;> simp [trV] at h
  · rename_i x; cases x <;> simp [trV] at h

theorem wanted_eq {ops : Array Oper} {g : Option (Nat × Bool)} (hg : compGuard ops.toList o.guard = some g)
    (ht : ∀ t b, g = some (t, b) → a.tmps.getD t undef = trV ρ (f.getD t undef)) : Region.wanted o (yielded ops a.tmps) = wants g f := by
  unfold Region.wanted
  cases ho : o.guard with
  | none => rw [ho] at hg; simp only [compGuard] at hg; cases hg; rfl
  | some gw =>
    obtain ⟨j, b⟩ := gw
    rw [ho] at hg; simp only [compGuard] at hg
    split at hg
    · rename_i t hd
      cases hg
      have h1 := ht t b rfl
      have hd' : (ops[j]?).bind (·.dst) = some t := by rw [← hd]; simp
      simp only [yielded, hd', Option.bind_some, wants]
      have h2 : a.tmps[t]?.getD undef = trV ρ (f.getD t undef) := by rw [← h1]; simp [Array.getD_eq_getD_getElem?]
      generalize f.getD t undef = u at *
      cases hu : a.tmps[t]? with
      | none =>
        rw [hu] at h2
        simp only [Option.getD_none] at h2
        cases u with
        | bool c => simp [trV, undef] at h2
        | _ => rfl
      | some z =>
        rw [hu] at h2
        simp only [Option.getD_some] at h2
        subst h2
        cases u with
        | bool c => simp [trV]
        | pointer x => cases x <;> simp [trV]
        | slice x _ _ => cases x <;> simp [trV]
        | map x => cases x <;> simp [trV]
        | _ => simp [trV]
    · cases hg

theorem Rch.put (r : Rch base ng S0 ρ0 H0 w0 ρ H w f a) (hl : H.length ≤ H'.length) (h' : HRel base ng (grow (grow S0 H0 H) H H') ρ' H' w') (e : Ext (grow S0 H0 H) ρ H w (grow (grow S0 H0 H) H H') ρ' H' w')
    (hv : okV (grow (grow S0 H0 H) H H') v) (d : Option Nat) : Rch base ng S0 ρ0 H0 w0 ρ' H' w' (IM.put d v f) (a.put d (trV ρ' v)) := by
  rw [grow_grow r.len hl] at h' e hv
  exact ⟨r.st.put h' e.sub e.agree hv d, r.ext.trans e, by have := r.len; omega⟩

theorem Rch.same (r : Rch base ng S0 ρ0 H0 w0 ρ H w f a) (d : Option Nat) : Rch base ng S0 ρ0 H0 w0 ρ H w (IM.put d undef f) (a.put d undef) := by
  have := r.put (ρ' := ρ) (v := undef) (Nat.le_refl _) (by rw [grow_same rfl]; exact r.st.rel) (by rw [grow_same rfl]; exact Ext.refl _ _ _ _) (by simp) d
  simpa using this

theorem noSel_comp {i : IOp} (h : compOp P o = some i) (cs : Array SelectCase) (b : Bool) : o.op ≠ .select cs b := by
  intro he; simp [compOp, he] at h

theorem panic_inv {x : Operand} (hc : compOp P o = some (.pan x)) : o.op = .panic x := by
  cases ho : o.op <;> simp only [compOp, ho] at hc
  case panic y => cases hc; rfl
  all_goals
    exfalso
    try unfold compEq at hc
    try unfold compCall at hc
    repeat' split at hc
    all_goals first | (cases hc; done) | (simp only [Option.map_eq_some_iff] at hc; obtain ⟨_, _, hc⟩ := hc; cases hc; done) | (rename_i hh; cases hh; done) | (simp_all; done)

/-! ## Operations in the order of the text -/

theorem evalOps_plain {call : CallFn} {draw : Bool} {o : IOper} {l : List IOper} (hp : plainOp o.op = true) (hw : wants o.guard f = true) :
    evalOps call draw (o :: l) f H = match iop o.op f H with
      | some p => if (o.quiet && !unch H p.2) = true then none else evalOps call draw l (put o.dst p.1 f) p.2
      | none => none := by
  obtain ⟨d, g, q, i⟩ := o
  simp only at hp hw
  cases i <;> first
    | (simp [plainOp] at hp; done)
    | (simp only [evalOps, hw, if_true]; split <;> simp_all)

theorem ops_text {call : CallFn} (hs : SoundCall P base ng call) {ops : Array Oper} : ∀ (os : List Oper) (k : Nat) (l : List IOper) (ρ : Place) (H : Heap) (w : World) (f : Fr) (a : Act) (x : IExit) (f' : Fr) (H' : Heap),
    (∀ i o, os[i]? = some o → ops[k + i]? = some o) → compOps P ng ops.toList os = some l → evalOps call false l f H = some (x, f', H') →
    Rch base ng S0 ρ0 H0 w0 ρ H w f a → wpOps P ops (Post base ng S0 ρ0 H0 w0 x f' H') (List.range' k os.length) a w
  | [], k, l, ρ, H, w, f, a, x, f', H', _, hc, he, r => by
    simp only [compOps] at hc; cases hc
    simp only [evalOps] at he; cases he
    exact ⟨ρ, rfl, trivial, r⟩
  | o :: os, k, l, ρ, H, w, f, a, x, f', H', hi, hc, he, r => by
    simp only [compOps] at hc
    split at hc <;> try (cases hc; done)
    rename_i i g l' h1 h2 h3
    split at hc <;> cases hc
    rename_i hok
    simp only [Bool.and_eq_true, bne_iff_ne, ne_eq] at hok
    obtain ⟨⟨hok, hkind⟩, hstk⟩ := hok
    clear hstk
    have ho : ops[k]? = some o := by simpa using hi 0 o rfl
    have hi' : ∀ i o, os[i]? = some o → ops[k + 1 + i]? = some o := fun i o h => by
      have := hi (i + 1) o (by simpa using h); rw [← this]; congr 1; omega
    have hv : ∀ x ∈ o.op.operands.toList, EvOk (grow S0 H0 H) ρ f a x := fun x hx => r.st.ev (List.all_eq_true.1 hok x hx)
    have hw : Region.wanted o (yielded ops a.tmps) = wants g f := wanted_eq h2 (fun t b _ => by rw [r.st.tmps]; exact getD_map_tr ρ f t)
    rw [List.length_cons, List.range'_succ]
    simp only [wpOps, ho, hw]
    have he0 := he
    simp only [evalOps] at he
    split at he
    · rename_i hwt
      simp only [hwt, if_true]
      refine .inl ?_
      cases hk : opKind i with
      | zero =>
        have hpl : plainOp i = true := by
          cases i <;> simp [opKind] at hk <;> simp [plainOp] at hk ⊢
        have he' := he0
        rw [evalOps_plain hpl hwt] at he'
        simp only [Bool.false_and, Bool.false_eq_true, if_false] at he'
        split at he'
        · rename_i p hio
          obtain ⟨v, H1⟩ := p
          refine step_plain h1 hpl (noSel_comp h1) r.st.rel hv hio fun ρ' w' hr hx hvv => ?_
          exact ops_text hs os (k + 1) l' ρ' H1 w' _ _ x f' H' hi' h3 he' (r.put (iop_len hio) hr hx hvv o.dst)
        · cases he'
      | succ n =>
        cases i <;> simp [opKind, plainOp] at hk
        case pan y =>
          have hop := panic_inv h1
          simp only at he
          split at he <;> cases he
          rename_i t v hy
          have hvy := hv y (by simp [hop, Op.operands])
          unfold Oper.wp
          have hr : (execOp a.eval o).run P w = .halt (.panic (.iface t (trV ρ v))) w := by
            simp only [execOp, hop, hvy.1, hy, trV, Instr.panic, goPanic, Sem.run_bind]
            rfl
          rw [hr, Oper.upon_panic]
          refine ⟨ρ, ?_, ?_, r⟩
          · simp [trX, trP, trV]
          · intro p hp
            simp at hp; subst hp
            rw [← hy]; exact hvy.2
        case call g' as =>
          simp only at he
          split at he
          · rename_i F first cap hg
            split at he
            · rename_i v H1 hcall
              have he' : evalOps call false l' (put o.dst v f) H1 = some (x, f', H') := by simpa using he
              refine step_call hs h1 r.st.rel hv hg hcall fun ρ' w' hr hx hvv => ?_
              exact ops_text hs os (k + 1) l' ρ' H1 w' _ _ x f' H' hi' h3 he' (r.put (hs _ _ _ _ _ hcall).1 hr hx hvv o.dst)
            · rename_i ch H1 hcall
              simp at he
              obtain ⟨rfl, rfl, rfl⟩ := he
              refine step_call hs h1 r.st.rel hv hg hcall fun ρ' w' hr hx hvv => ?_
              have := r.put (v := undef) (hs _ _ _ _ _ hcall).1 hr hx (by simp) none
              refine ⟨ρ', rfl, ?_, this⟩
              have e := grow_grow (S := S0) r.len (hs _ _ _ _ _ hcall).1
              rw [← e]; exact hvv
            · cases he
          · cases he
        all_goals exact absurd rfl hkind
    · rename_i hwt
      simp only [hwt]
      exact ops_text hs os (k + 1) l' ρ H w _ _ x f' H' hi' h3 he (r.same o.dst)

end Go.IM

namespace Go.IM
open Go Go.RowKit
set_option linter.unusedVariables false

variable {P : Program} {base ng : Nat} {S T U : Nat → Prop} {ρ ρ' : Place} {H H' A B A' : Heap} {w w' : World} {v : Value}

theorem unch_pre {H H' : Heap} (h : unch H H' = true) : Pre H H' := by
  unfold unch at h; exact @of_decide_eq_true _ (Classical.propDecidable _) h

theorem Pre.refl (H : Heap) : Pre H H := ⟨[], by simp, by simp⟩
theorem Pre.trans (h1 : Pre A B) (h2 : Pre B A') : Pre A A' := by
  obtain ⟨t, rfl, ht⟩ := h1; obtain ⟨u, rfl, hu⟩ := h2
  exact ⟨t ++ u, by simp, fun o ho => by rcases List.mem_append.1 ho with h | h; exact ht o h; exact hu o h⟩
theorem Pre.get (h : Pre A B) {i : Nat} (hi : i < A.length) : B[i]? = A[i]? := by
  obtain ⟨t, rfl, ht⟩ := h; exact List.getElem?_append_left hi
theorem Pre.len (h : Pre A B) : A.length ≤ B.length := by obtain ⟨t, rfl, ht⟩ := h; simp
theorem Pre.new (h : Pre A B) {i : Nat} (hi : A.length ≤ i) {c : List Value} {lo : Nat} {ro : Bool} (hb : B[i]? = some (.cells c ro lo)) : ro = false := by
  obtain ⟨t, rfl, ht⟩ := h
  rw [List.getElem?_append_right hi] at hb
  have := ht _ (List.mem_of_getElem? hb)
  simpa [nro] using this

theorem okV_inter : ∀ v : Value, okV S v → okV T v → okV (fun i => S i ∧ T i) v
  | .bool _, _, _ | .int _ _, _, _ | .float _ _, _, _ | .complex _ _ _, _, _ | .string _, _, _ | .nilFunc, _, _ | .nilIface, _, _ => by simp [okV]
  | .chan _, h, _ => by simp [okV] at h
  | .pointer none, _, _ | .map none, _, _ => by simp [okV]
  | .slice none _ _, h, _ => by simpa [okV] using h
  | .pointer (some a), h, k => by simp only [okV] at *; exact ⟨⟨h.1, k.1⟩, h.2⟩
  | .slice (some a) l c, h, k => by simp only [okV] at *; exact ⟨⟨h.1, k.1⟩, h.2⟩
  | .map (some r), h, k => by simp only [okV] at *; exact ⟨h, k⟩
  | .func fn a b, h, k => by
    simp only [okV] at *
    exact ⟨h.1, fun x hx => okV_inter x (h.2.1 x hx) (k.2.1 x hx), fun x hx => okV_inter x (h.2.2 x hx) (k.2.2 x hx)⟩
  | .iface t v, h, k => by simp only [okV] at *; exact okV_inter v h k
  | .agg cs, h, k => by simp only [okV] at *; exact fun x hx => ⟨okV_inter x (h x hx).1 (k x hx).1, (h x hx).2⟩
  | .tuple cs, h, k => by simp only [okV] at *; exact fun x hx => okV_inter x (h x hx) (k x hx)

theorem wlive_pre (h : Pre A B) {i : Nat} (hi : i < A.length) : wlive B i ↔ wlive A i := by unfold wlive; rw [h.get hi]
theorem live_pre (h : Pre A B) {i : Nat} (hi : i < A.length) : live B i ↔ live A i := by unfold live; rw [h.get hi]

theorem HRel.up (h : HRel base ng S ρ A w) (p : Pre A B) : HRel base ng S ρ B w :=
  ⟨h.low, h.glob, fun i hi => Nat.lt_of_lt_of_le (h.vis i hi) p.len, fun i c ro lo hi hc => h.cells i c ro lo hi (by rw [← p.get (h.vis i hi)]; exact hc),
    fun i es k hi hc => h.maps i es k hi (by rw [← p.get (h.vis i hi)]; exact hc),
    fun i j hi hj hne h1 h2 => h.sep i j hi hj hne ((wlive_pre p (h.vis i hi)).1 h1) ((live_pre p (h.vis j hj)).1 h2)⟩

theorem HRel.down (h : HRel base ng S ρ B w) (p : Pre A B) (hv : ∀ i, S i → i < A.length) : HRel base ng S ρ A w :=
  ⟨h.low, h.glob, hv, fun i c ro lo hi hc => h.cells i c ro lo hi (by rw [p.get (hv i hi)]; exact hc),
    fun i es k hi hc => h.maps i es k hi (by rw [p.get (hv i hi)]; exact hc),
    fun i j hi hj hne h1 h2 => h.sep i j hi hj hne ((wlive_pre p (hv i hi)).2 h1) ((live_pre p (hv j hj)).2 h2)⟩

theorem own_pre (p : Pre A B) (hv : ∀ i, S i → i < A.length) (b : Nat) : Own S ρ B b ↔ Own S ρ A b := by
  unfold Own
  constructor
  · rintro ⟨i, hi, hl, hb⟩; exact ⟨i, hi, (wlive_pre p (hv i hi)).1 hl, hb⟩
  · rintro ⟨i, hi, hl, hb⟩; exact ⟨i, hi, (wlive_pre p (hv i hi)).2 hl, hb⟩

theorem Ext.up {S0 : Nat → Prop} {ρ0 : Place} {H0 : Heap} {w0 : World} (e : Ext S0 ρ0 H0 w0 S ρ A w) (p : Pre A B) (hv : ∀ i, S i → i < A.length) : Ext S0 ρ0 H0 w0 S ρ B w :=
  ⟨e.sub, e.agree, e.size, fun b hb ho => e.own b hb ((own_pre p hv b).1 ho), e.frame, e.os, e.tape, e.output⟩

theorem HRel.restrict (h : HRel base ng S ρ H w) (hT : ∀ i, T i → S i) (hg : ∀ g, g < ng → T g)
    (hc : ∀ i c ro lo, T i → H[i]? = some (.cells c ro lo) → ∀ v ∈ c, okV T v) (hm : ∀ i es k, T i → H[i]? = some (.map es k) → ∀ e ∈ es, okV T e.key ∧ okV T e.val) : HRel base ng T ρ H w :=
  ⟨h.low, fun g hg' => ⟨hg g hg', (h.glob g hg').2⟩, fun i hi => h.vis i (hT i hi),
    fun i c ro lo hi hh => let k := h.cells i c ro lo (hT i hi) hh
      ⟨k.fit, k.esz, k.have_, fun j v hj => ⟨(k.val j v hj).1, hc i c ro lo hi hh v (List.mem_of_getElem? hj), (k.val j v hj).2.2⟩, k.lt, k.wr⟩,
    fun i es k hi hh => let m := h.maps i es k (hT i hi) hh; ⟨m.low, m.obj, hm i es k hi hh⟩,
    fun i j hi hj => h.sep i j (hT i hi) (hT j hj)⟩

open Classical in
noncomputable def join (U : Nat → Prop) (ρ ρ' : Place) : Place := fun i => if U i then ρ i else ρ' i

/-- A step that left what was there, seen from all that is visible. -/
theorem merge (R : HRel base ng U ρ B w) (hT : ∀ i, T i ↔ U i ∧ i < A.length) (pAB : Pre A B) (pA : Pre A A') (pB : Pre A' B) (hU : ∀ i, U i → i < A.length ∨ A'.length ≤ i)
    (h : HRel base ng (grow T A A') ρ' A' w') (e : Ext T ρ A w (grow T A A') ρ' A' w') :
    HRel base ng (fun i => U i ∨ (A.length ≤ i ∧ i < A'.length)) (join U ρ ρ') B w' ∧
      Ext U ρ B w (fun i => U i ∨ (A.length ≤ i ∧ i < A'.length)) (join U ρ ρ') B w' ∧
      (∀ v, okV (grow T A A') v → okV (fun i => U i ∨ (A.length ≤ i ∧ i < A'.length)) v ∧ trV ρ' v = trV (join U ρ ρ') v) := by
  have hsub : ∀ i, grow T A A' i → U i ∨ (A.length ≤ i ∧ i < A'.length) := by
    rintro i (hi | hi)
    · exact .inl ((hT i).1 hi).1
    · exact .inr hi
  have hj1 : ∀ i, U i → join U ρ ρ' i = ρ i := fun i hi => by simp [join, hi]
  have hj2 : ∀ i, grow T A A' i → join U ρ ρ' i = ρ' i := by
    rintro i (hi | hi)
    · rw [hj1 i ((hT i).1 hi).1]; exact (e.agree i hi).symm
    · have : ¬ U i := fun hu => by rcases hU i hu with h | h <;> omega
      simp [join, this]
  have lenA := pA.len
  have lenB := pB.len
  -- a block of what is visible, but is not among T, is as it was
  have keep : ∀ j, U j → A'.length ≤ j → live B j → ∀ o, w.heap[(ρ j).blk]? = some o → w'.heap[(ρ j).blk]? = some o := by
    intro j hj hjl hl o ho
    rw [e.frame (ρ j).blk (R.lt_of_live hj hl) ?_]
    · exact ho
    · rintro ⟨i, hi, hwl, hb⟩
      have hi' := (hT i).1 hi
      exact R.sep i j hi'.1 hj (by omega) ((wlive_pre pAB hi'.2).2 hwl) hl hb
  -- the blocks of new objects are new
  have new : ∀ i, A.length ≤ i → i < A'.length → wlive A' i → w.heap.size ≤ (ρ' i).blk := by
    intro i h1 h2 hl
    rcases Nat.lt_or_ge (ρ' i).blk w.heap.size with hlt | hge
    · obtain ⟨k, hk, hkl, hkb⟩ := e.own _ hlt ⟨i, .inr ⟨h1, h2⟩, hl, rfl⟩
      have hk' := (hT k).1 hk
      have hkl' := (wlive_pre pA hk'.2).2 hkl
      have := h.sep k i (.inl hk) (.inr ⟨h1, h2⟩) (by omega) hkl' (live_of_wlive hl)
      rw [e.agree k hk] at this
      exact absurd hkb this
    · exact hge
  have newl : ∀ i, A.length ≤ i → i < A'.length → live A' i → wlive A' i := by
    intro i h1 h2 hl
    rcases hl with ⟨c, ro, lo, hl⟩ | ⟨es, k, hl⟩
    · have := pA.new h1 hl; subst this; exact .inl ⟨c, lo, hl⟩
    · exact .inr ⟨es, k, hl⟩
  have split : ∀ i, (U i ∨ (A.length ≤ i ∧ i < A'.length)) → grow T A A' i ∨ (U i ∧ A'.length ≤ i) := by
    rintro i (hi | hi)
    · rcases hU i hi with h | h
      · exact .inl (.inl ((hT i).2 ⟨hi, h⟩))
      · exact .inr ⟨hi, h⟩
    · exact .inl (.inr hi)
  have vis' : ∀ i, grow T A A' i → i < A'.length := h.vis
  have key : HRel base ng (fun i => U i ∨ (A.length ≤ i ∧ i < A'.length)) (join U ρ ρ') B w' := by
    refine ⟨h.low, ?_, ?_, ?_, ?_, ?_⟩
    · intro g hg
      have := R.glob g hg
      exact ⟨.inl this.1, by rw [hj1 g this.1]; exact this.2⟩
    · rintro i (hi | hi)
      · exact R.vis i hi
      · omega
    · intro i c ro lo hi hc
      rcases split i hi with hg | ⟨hu, hl⟩
      · exact (h.cells i c ro lo hg (by rw [← pB.get (vis' i hg)]; exact hc)).move hsub (fun j hj => hj2 j hj) hg (fun _ h => h) (Nat.le_refl _)
      · exact (R.cells i c ro lo hu hc).move (fun j hj => .inl hj) hj1 hu (keep i hu hl (.inl ⟨c, ro, lo, hc⟩)) e.size
    · intro i es k hi hc
      rcases split i hi with hg | ⟨hu, hl⟩
      · exact (h.maps i es k hg (by rw [← pB.get (vis' i hg)]; exact hc)).move hsub (fun j hj => hj2 j hj) hg (fun _ h => h)
      · exact (R.maps i es k hu hc).move (fun j hj => Or.inl hj) hj1 hu (keep i hu hl (.inr ⟨es, k, hc⟩))
    · intro i j hi hj hne hwl hlj
      rcases split i hi with hg | ⟨hu, hl⟩
      · rcases split j hj with hg2 | ⟨hu2, hl2⟩
        · rw [hj2 i hg, hj2 j hg2]
          exact h.sep i j hg hg2 hne ((wlive_pre pB (vis' i hg)).1 hwl) ((live_pre pB (vis' j hg2)).1 hlj)
        · rcases hg with hg | hg
          · rw [hj1 i ((hT i).1 hg).1, hj1 j hu2]
            exact R.sep i j ((hT i).1 hg).1 hu2 hne hwl hlj
          · rw [hj2 i (.inr hg), hj1 j hu2]
            have h1 := new i hg.1 hg.2 ((wlive_pre pB hg.2).1 hwl)
            have h2 := R.lt_of_live hu2 hlj
            omega
      · rcases split j hj with hg2 | ⟨hu2, hl2⟩
        · rcases hg2 with hg2 | hg2
          · rw [hj1 j ((hT j).1 hg2).1, hj1 i hu]
            exact R.sep i j hu ((hT j).1 hg2).1 hne hwl hlj
          · rw [hj2 j (.inr hg2), hj1 i hu]
            have h1 := new j hg2.1 hg2.2 (newl j hg2.1 hg2.2 ((live_pre pB hg2.2).1 hlj))
            have h2 := (R.lt_of_wlive hu hwl).2
            omega
        · rw [hj1 i hu, hj1 j hu2]
          exact R.sep i j hu hu2 hne hwl hlj
  refine ⟨key, ⟨fun i hi => .inl hi, hj1, e.size, ?_, ?_, e.os, e.tape, e.output⟩, fun v hv => ⟨okV_mono hsub v hv, (trV_agree hj2 v hv).symm⟩⟩
  · rintro b hb ⟨i, hi, hwl, hbi⟩
    rcases hi with hi | hi
    · exact ⟨i, hi, hwl, by rw [← hj1 i hi]; exact hbi⟩
    · rw [hj2 i (.inr hi)] at hbi
      have := new i hi.1 hi.2 ((wlive_pre pB hi.2).1 hwl)
      omega
  · intro b hb ho
    refine e.frame b hb ?_
    rintro ⟨i, hi, hwl, hbi⟩
    have hi' := (hT i).1 hi
    exact ho ⟨i, hi'.1, (wlive_pre pAB hi'.2).2 hwl, hbi⟩

end Go.IM

namespace Go.IM
open Go Go.RowKit
set_option linter.unusedVariables false
set_option linter.unusedSimpArgs false

variable {P : Program} {base ng : Nat} {S : Nat → Prop} {ρ : Place} {H H' : Heap} {w : World} {f f' : Fr} {o : Oper} {v : Value} {a : Act}

/-! ## One operation of a drawn region -/

/-- What one operation yields, and the memory behind it. -/
noncomputable def stepD (call : CallFn) (o : IOper) (f : Fr) (H : Heap) : Option (Value × Heap) :=
  if wants o.guard f then
    match o.op with
    | .call g as =>
      match ev f g with
      | .func (.func F) first cap =>
        match call F (first.toList ++ as.map (ev f) ++ cap.toList) H with
        | some (.ret v, H') => if o.quiet && !unch H H' then none else some (v, H')
        | _ => none
      | _ => none
    | .pan _ => none
    | op =>
      match iop op f H with
      | some (v, H') => if o.quiet && !unch H H' then none else some (v, H')
      | none => none
  else some (undef, H)

theorem stepD_plain {call : CallFn} {o : IOper} (hp : plainOp o.op = true) (hw : wants o.guard f = true) :
    stepD call o f H = match iop o.op f H with
      | some p => if (o.quiet && !unch H p.2) = true then none else some p
      | none => none := by
  obtain ⟨d, g, q, i⟩ := o
  simp only at hp hw
  cases i <;> first
    | (simp [plainOp] at hp; done)
    | (simp only [stepD, hw, if_true]; split <;> simp_all)

theorem evalOps_draw {call : CallFn} {o : IOper} {l : List IOper} (hk : opKind o.op ≠ 3) :
    evalOps call true (o :: l) f H = match stepD call o f H with
      | some p => evalOps call true l (put o.dst p.1 f) p.2
      | none => none := by
  by_cases hw : wants o.guard f = true
  · by_cases hp : plainOp o.op = true
    · rw [evalOps_plain hp hw, stepD_plain hp hw]
      cases iop o.op f H with
      | none => rfl
      | some p =>
        simp only
        split <;> rfl
    · obtain ⟨d, g, q, i⟩ := o
      simp only at hp hw hk
      cases i <;> simp only [plainOp, not_true_eq_false] at hp <;> simp only [opKind, plainOp, Bool.false_eq_true, if_false, ne_eq, not_true_eq_false] at hk
      · simp only [evalOps, stepD, hw, if_true]
        split <;> rfl
      · simp only [evalOps, stepD, hw, if_true]
        split
        · split
          · rename_i v1 H1 hc
            by_cases hqu : (q && !unch H H1) = true
            · simp_all
            · simp only [*, hqu, if_false, Bool.false_eq_true]
          · simp_all
          · simp_all
        · simp_all
  · simp only [evalOps, stepD, hw]
    rfl

theorem stepD_len {call : CallFn} (hs : SoundCall P base ng call) {o : IOper} (h : stepD call o f H = some (v, H')) (hk : opKind o.op ≠ 3) : H.length ≤ H'.length := by
  by_cases hw : wants o.guard f = true
  · by_cases hp : plainOp o.op = true
    · rw [stepD_plain hp hw] at h
      split at h
      · rename_i p hio
        split at h <;> cases h
        exact iop_len hio
      · cases h
    · obtain ⟨d, g, q, i⟩ := o
      simp only at hp hw hk
      cases i <;> simp only [plainOp, not_true_eq_false] at hp <;> simp only [opKind, plainOp, Bool.false_eq_true, if_false, ne_eq, not_true_eq_false] at hk
      · simp [stepD, hw] at h
      · simp only [stepD, hw, if_true] at h
        repeat' split at h
        all_goals first | (cases h; done) | skip
        rename_i hc _
        cases h
        exact (hs _ _ _ _ _ hc).1
  · simp [stepD, hw] at h
    rw [h.2]; exact Nat.le_refl _

theorem stepD_quiet {call : CallFn} {o : IOper} (h : stepD call o f H = some (v, H')) (hk : opKind o.op ≠ 3) (hq : o.quiet = true) (hw : wants o.guard f = true) : unch H H' = true := by
  by_cases hp : plainOp o.op = true
  · rw [stepD_plain hp hw] at h
    split at h
    · rename_i p hio
      split at h <;> cases h
      rename_i hu
      simpa [hq] using hu
    · cases h
  · obtain ⟨d, g, q, i⟩ := o
    simp only at hp hw hk hq
    cases i <;> simp only [plainOp, not_true_eq_false] at hp <;> simp only [opKind, plainOp, Bool.false_eq_true, if_false, ne_eq, not_true_eq_false] at hk
    · simp [stepD, hw] at h
    · simp only [stepD, hw, if_true, hq] at h
      repeat' split at h
      all_goals first | (cases h; done) | skip
      rename_i hu
      cases h
      simpa using hu

theorem islc_calm {k : SlK} {s : Value} {lo hi mx : Option Operand} (h : islc k s f lo hi mx H = some (v, H')) : Pre H H' := by
  unfold islc at h
  repeat' split at h
  all_goals first
    | (cases h; done)
    | (cases h; exact Pre.refl _)
    | (cases h; exact ⟨_, rfl, by simp [nro]⟩)

theorem calm_pre {i : IOp} (hp : calmOp i = true) (h : iop i f H = some (v, H')) : Pre H H' := by
  cases i <;> simp only [calmOp, Bool.false_eq_true] at hp
  case slc => exact islc_calm h
  all_goals
    simp only [iop] at h
    repeat' split at h
    all_goals first
      | (cases h; done)
      | (cases h; exact Pre.refl _)
      | (cases h; exact ⟨_, rfl, by simp [nro]⟩)

/-- What is not noisy leaves what was there. -/
theorem stepD_pre {call : CallFn} {o : IOper} (h : stepD call o f H = some (v, H')) (hk : opKind o.op ≠ 3) (hn : noisy o = false) (hh : heapy o = true) : Pre H H' := by
  by_cases hw : wants o.guard f = true
  · by_cases hc : calmOp o.op = true
    · have hpl : opKind o.op ≠ 3 → plainOp o.op = true := by
        generalize o.op = i at hc
        cases i <;> simp [calmOp] at hc <;> simp [plainOp, opKind]
      rw [stepD_plain (hpl hk) hw] at h
      split at h
      · rename_i p hio
        split at h <;> cases h
        exact calm_pre hc hio
      · cases h
    · have hq : o.quiet = true := by simpa [noisy, hh, hc] using hn
      exact unch_pre (stepD_quiet h hk hq hw)
  · simp only [stepD, hw, Bool.false_eq_true, if_false, Option.some.injEq, Prod.mk.injEq] at h
    rw [← h.2]; exact Pre.refl _

theorem stepD_pure {call : CallFn} {o : IOper} (h : stepD call o f H = some (v, H')) (hp : pureOp o.op = true) (hq : o.quiet = false) : H' = H ∧ ∀ G, stepD call o f G = some (v, G) := by
  by_cases hw : wants o.guard f = true
  · have hpl : plainOp o.op = true := by
      generalize o.op = i at hp
      cases i <;> simp [pureOp] at hp <;> rfl
    rw [stepD_plain hpl hw] at h
    split at h
    · rename_i p hio
      simp only [hq, Bool.false_and, Bool.false_eq_true, if_false] at h
      cases h
      obtain ⟨e1, e2⟩ := pure_any hp hio
      refine ⟨e1, fun G => ?_⟩
      rw [stepD_plain hpl hw, e2 G]
      simp [hq]
    · cases h
  · simp only [stepD, hw, Bool.false_eq_true, if_false] at h ⊢
    cases h
    exact ⟨rfl, fun G => rfl⟩

/-- The values go through some world. -/
theorem stepD_sim0 {call : CallFn} (hs : SoundCall P base ng call) {io : IOper} (hc : compOp P o = some io.op) (hk : opKind io.op ≠ 3) (h : HRel base ng S ρ H w)
    (hv : ∀ x ∈ o.op.operands.toList, okV S (ev f x)) (he : stepD call io f H = some (v, H')) :
    ∃ ρ' w', HRel base ng (grow S H H') ρ' H' w' ∧ Ext S ρ H w (grow S H H') ρ' H' w' ∧ okV (grow S H H') v := by
  by_cases hw : wants io.guard f = true
  · by_cases hp : plainOp io.op = true
    · rw [stepD_plain hp hw] at he
      split at he
      · rename_i p hio
        split at he <;> cases he
        obtain ⟨ρ', w', n, _, _, h1, h2, h3⟩ := sim_op hc hp h hv hio
        exact ⟨ρ', w', h1, h2, h3⟩
      · cases he
    · obtain ⟨d, g, q, i⟩ := io
      simp only at hp hw hk hc
      cases i <;> simp only [plainOp, not_true_eq_false] at hp <;> simp only [opKind, plainOp, Bool.false_eq_true, if_false, ne_eq, not_true_eq_false] at hk
      · simp [stepD, hw] at he
      · rename_i g' as
        simp only [stepD, hw, if_true] at he
        repeat' split at he
        all_goals first | (cases he; done) | skip
        rename_i hg _ _ _ hcall _
        cases he
        obtain ⟨c, hop, hcal, has⟩ := call_inv hc
        have := (hs _ _ _ _ _ hcall).2.2 S ρ w h (by
          intro x hx
          simp only [List.mem_append, List.mem_map] at hx
          have hgo := hv g' (by simp [hop, Op.operands, Call.operands, hcal])
          rw [hg] at hgo
          simp only [okV] at hgo
          rcases hx with (hx | ⟨y, hy, rfl⟩) | hx
          · exact hgo.2.1 x (by simpa using hx)
          · exact hv y (by simp [hop, Op.operands, Call.operands, hcal]; exact .inr (by rw [← has] at hy; simpa using hy))
          · exact hgo.2.2 x (by simpa using hx)) []
        obtain ⟨e, w', fr, ⟨ρ', rfl, h1, h2, h3⟩, _⟩ := this
        exact ⟨ρ', w', h1, h2, h3⟩
  · simp only [stepD, hw, Bool.false_eq_true, if_false] at he
    cases he
    exact ⟨ρ, w, by rw [grow_same rfl]; exact h, by rw [grow_same rfl]; exact Ext.refl _ _ _ _, by simp⟩

/-- The step of the real machine. -/
theorem stepD_real0 {call : CallFn} (hs : SoundCall P base ng call) {ops : Array Oper} {i : Nat} {io : IOper} {K : Act → World → Prop} {Q : Exit → Act → World → Prop} (ho : ops[i]? = some o)
    (hc : compOp P o = some io.op) (hd : io.dst = o.dst) (hk : opKind io.op ≠ 3) (hw : Region.wanted o (yielded ops a.tmps) = wants io.guard f) (h : HRel base ng S ρ H w)
    (hv : ∀ x ∈ o.op.operands.toList, EvOk S ρ f a x) (he : stepD call io f H = some (v, H'))
    (k : ∀ ρ' w', HRel base ng (grow S H H') ρ' H' w' → Ext S ρ H w (grow S H H') ρ' H' w' → okV (grow S H H') v → K (a.put io.dst (trV ρ' v)) w') : wpOp P ops Q i K a w := by
  unfold wpOp
  simp only [ho, hw]
  rw [hd] at k
  by_cases hwt : wants io.guard f = true
  · simp only [hwt, if_true]
    refine .inl ?_
    by_cases hp : plainOp io.op = true
    · rw [stepD_plain hp hwt] at he
      split at he
      · rename_i p hio
        split at he <;> cases he
        exact step_plain hc hp (noSel_comp hc) h hv hio k
      · cases he
    · obtain ⟨d, g, q, i⟩ := io
      simp only at hp hwt hk hc
      cases i <;> simp only [plainOp, not_true_eq_false] at hp <;> simp only [opKind, plainOp, Bool.false_eq_true, if_false, ne_eq, not_true_eq_false] at hk
      · simp [stepD, hwt] at he
      · rename_i g' as
        simp only [stepD, hwt, if_true] at he
        repeat' split at he
        all_goals first | (cases he; done) | skip
        rename_i hg _ _ _ hcall _
        cases he
        exact step_call hs hc h hv hg hcall k
  · simp only [hwt, Bool.false_eq_true, if_false]
    simp only [stepD, hwt, Bool.false_eq_true, if_false] at he
    cases he
    have := k ρ w (by rw [grow_same rfl]; exact h) (by rw [grow_same rfl]; exact Ext.refl _ _ _ _) (by simp)
    simpa using this

/-! ### Stores that reads may pass -/

def IOper.bare (o : IOper) : IOper := { o with op := o.op.bare }

theorem kind_bare (i : IOp) : opKind i.bare = opKind i := by cases i <;> rfl

theorem iop_stk {n : Nat} {a x : Operand} {ks : List (Nat × Operand)} {p : Value × Heap} (h : iop (.stk n a x ks) f H = some p) : iop (.sto n a x) f H = some p := by
  simp only [iop] at h ⊢
  split at h <;> try (cases h; done)
  split at h <;> try (cases h; done)
  split at h <;> try (cases h; done)
  rename_i hc
  simp only [*, hc.1, and_self, if_true]

theorem stepD_bare {call : CallFn} {io : IOper} (h : stepD call io f H = some (v, H')) : stepD call io.bare f H = some (v, H') := by
  obtain ⟨d, g, q, i⟩ := io
  cases i <;> try exact h
  rename_i n a x ks
  show stepD call ⟨d, g, q, .sto n a x⟩ f H = some (v, H')
  by_cases hw : wants g f = true
  · rw [stepD_plain (o := ⟨d, g, q, .stk n a x ks⟩) rfl hw] at h
    rw [stepD_plain (o := ⟨d, g, q, .sto n a x⟩) rfl hw]
    split at h <;> try (cases h; done)
    rename_i p hp
    rw [iop_stk hp]
    exact h
  · simp only [stepD, hw, Bool.false_eq_true, if_false] at h ⊢
    exact h

theorem stepD_sim {call : CallFn} (hs : SoundCall P base ng call) {io : IOper} (hc : compOp P o = some io.op.bare) (hk : opKind io.op ≠ 3) (h : HRel base ng S ρ H w)
    (hv : ∀ x ∈ o.op.operands.toList, okV S (ev f x)) (he : stepD call io f H = some (v, H')) :
    ∃ ρ' w', HRel base ng (grow S H H') ρ' H' w' ∧ Ext S ρ H w (grow S H H') ρ' H' w' ∧ okV (grow S H H') v :=
  stepD_sim0 hs (io := io.bare) hc (by show opKind io.op.bare ≠ 3; rw [kind_bare]; exact hk) h hv (stepD_bare he)

theorem stepD_real {call : CallFn} (hs : SoundCall P base ng call) {ops : Array Oper} {i : Nat} {io : IOper} {K : Act → World → Prop} {Q : Exit → Act → World → Prop} (ho : ops[i]? = some o)
    (hc : compOp P o = some io.op.bare) (hd : io.dst = o.dst) (hk : opKind io.op ≠ 3) (hw : Region.wanted o (yielded ops a.tmps) = wants io.guard f) (h : HRel base ng S ρ H w)
    (hv : ∀ x ∈ o.op.operands.toList, EvOk S ρ f a x) (he : stepD call io f H = some (v, H'))
    (k : ∀ ρ' w', HRel base ng (grow S H H') ρ' H' w' → Ext S ρ H w (grow S H H') ρ' H' w' → okV (grow S H H') v → K (a.put io.dst (trV ρ' v)) w') : wpOp P ops Q i K a w :=
  stepD_real0 hs (io := io.bare) ho hc hd (by show opKind io.op.bare ≠ 3; rw [kind_bare]; exact hk) hw h hv (stepD_bare he) k

theorem layS_get {c xs : List Value} {o k : Nat} (hl : o + xs.length ≤ c.length) (h : k < o ∨ o + xs.length ≤ k) : (lay c o xs)[k]? = c[k]? := by
  unfold lay
  by_cases hk : k < o
  · rw [List.append_assoc, List.getElem?_append_left (by simp; omega), List.getElem?_take_of_lt hk]
  · rw [List.getElem?_append_right (by simp; omega), List.getElem?_drop]
    congr 1
    simp; omega

theorem layS_len {c xs : List Value} {o : Nat} (hl : o + xs.length ≤ c.length) : (lay c o xs).length = c.length := by
  unfold lay; simp; omega

theorem read_iop {i : IOp} {m : Nat} {y : Operand} {A A' : Heap} (hr : readOf i = some (m, y)) (h : iop i f A = some (v, A')) :
    A' = A ∧ ∃ p c, ev f y = .pointer (some p) ∧ A.row p.block = some c ∧ ∀ (B : Heap) c', B.row p.block = some c' → c'.length = c.length → (∀ k, p.off ≤ k → k < p.off + m → c'[k]? = c[k]?) → iop i f B = some (v, B) := by
  cases i <;> simp only [readOf, Option.some.injEq, Prod.mk.injEq, reduceCtorEq] at hr
  case ld1 x =>
    obtain ⟨rfl, rfl⟩ := hr
    simp only [iop] at h
    split at h <;> try (cases h; done)
    rename_i p hp
    split at h <;> try (cases h; done)
    rename_i c hc
    split at h <;> cases h
    rename_i hv
    refine ⟨rfl, p, c, hp, hc, fun B c' hB _ hk => ?_⟩
    simp only [iop, hp, hB, hk p.off (Nat.le_refl _) (by omega), hv]
  case ldn n x =>
    obtain ⟨rfl, rfl⟩ := hr
    simp only [iop] at h
    split at h <;> try (cases h; done)
    rename_i p hp
    split at h <;> try (cases h; done)
    rename_i c hc
    split at h <;> cases h
    rename_i xs hv
    refine ⟨rfl, p, c, hp, hc, fun B c' hB hl hk => ?_⟩
    have : cut c' p.off n = some xs := by
      rw [← hv]; unfold cut; rw [hl]
      split
      · congr 1
        apply List.ext_getElem?
        intro k
        by_cases hkn : k < n
        · rw [List.getElem?_take_of_lt hkn, List.getElem?_take_of_lt hkn, List.getElem?_drop, List.getElem?_drop]
          exact hk _ (by omega) (by omega)
        · rw [List.getElem?_eq_none (by simp; omega), List.getElem?_eq_none (by simp; omega)]
      · rfl
    simp only [iop, hp, hB, this]

theorem rowS_lt {A : Heap} {b : Nat} {c : List Value} (h : A.row b = some c) : b < A.length := by
  unfold Heap.row at h
  split at h
  · rename_i hh; exact (List.getElem?_eq_some_iff.1 hh).1
  · cases h

theorem read_pre {i : IOp} {m : Nat} {y : Operand} {A B : Heap} (hr : readOf i = some (m, y)) (h : iop i f A = some (v, A)) (hp : Pre A B) : iop i f B = some (v, B) := by
  obtain ⟨_, p, c, _, hc, hh⟩ := read_iop hr h
  refine hh B c ?_ rfl (fun _ _ _ => rfl)
  have := rowS_lt hc
  unfold Heap.row at *; rw [hp.get this]; exact hc

theorem read_stk {n m : Nat} {a x y : Operand} {ks : List (Nat × Operand)} {i : IOp} {g : Fr} {u : Value} {A B : Heap} (hs : iop (.stk n a x ks) g A = some (u, B)) (hk : (m, y) ∈ ks) (hr : readOf i = some (m, y))
    (he : ev g y = ev f y) (h : iop i f A = some (v, A)) : iop i f B = some (v, B) := by
  obtain ⟨_, p, c, hp, hc, hh⟩ := read_iop hr h
  simp only [iop] at hs
  split at hs <;> try (cases hs; done)
  rename_i q hq
  split at hs <;> try (cases hs; done)
  rename_i c1 lo hw
  split at hs <;> cases hs
  rename_i hcond
  obtain ⟨⟨h1, h2, h3⟩, h4⟩ := hcond
  have h5 := h4 (m, y) hk
  simp only [he, hp, apart] at h5
  have hlt := rowS_lt hc
  have hxl : (ev g x).cells.toList.length = n := by simpa using h1
  by_cases hb : q.block = p.block
  · have e1 : c1 = c := by
      unfold Heap.wrow at hw
      unfold Heap.row at hc
      rw [hb] at hw
      split at hw
      · rename_i hx; rw [hx] at hc; cases hw; cases hc; rfl
      · cases hw
    subst e1
    refine hh _ (lay c1 q.off (ev g x).cells.toList) ?_ (layS_len (by omega)) (fun k k1 k2 => layS_get (by omega) (by omega))
    unfold Heap.row; rw [hb, List.getElem?_set_self hlt]
  · refine hh _ c ?_ rfl (fun _ _ _ => rfl)
    unfold Heap.row at *; rw [List.getElem?_set_ne hb]; exact hc

theorem unch_self (A : Heap) : unch A A = true := by unfold unch; exact @decide_eq_true _ (Classical.propDecidable _) (Pre.refl A)

theorem stepD_move {call : CallFn} {io : IOper} {m : Nat} {y : Operand} {A A' : Heap} (hr : readOf io.op = some (m, y)) (h : stepD call io f A = some (v, A')) :
    A' = A ∧ ∀ B, (iop io.op f A = some (v, A) → iop io.op f B = some (v, B)) → stepD call io f B = some (v, B) := by
  by_cases hw : wants io.guard f = true
  · have hp : plainOp io.op = true := by
      generalize io.op = i at hr
      cases i <;> simp [readOf] at hr <;> rfl
    rw [stepD_plain hp hw] at h
    split at h
    · rename_i p hio
      split at h <;> cases h
      have e := (read_iop hr hio).1
      subst e
      refine ⟨rfl, fun B hB => ?_⟩
      rw [stepD_plain hp hw, hB hio]
      simp [unch_self]
    · cases h
  · simp only [stepD, hw, Bool.false_eq_true, if_false] at h ⊢
    cases h
    exact ⟨rfl, fun B _ => rfl⟩

end Go.IM

namespace Go.IM
open Go Go.RowKit
set_option linter.unusedVariables false

variable {P : Program} {base ng : Nat}

/-- A read ahead of a store that may also stand behind it. -/
def Crossed (l : List IOper) (io : IOper) (j : Nat) (jo : IOper) : Prop :=
  ∃ n a x ks m y, io.op = .stk n a x ks ∧ (m, y) ∈ ks ∧ readOf jo.op = some (m, y) ∧ ∀ t, y = .tmp t → ∀ (k : Nat) (ko : IOper), j ≤ k → l[k]? = some ko → ko.dst ≠ some t

structure DrawOK (P : Program) (ng : Nat) (ops : Array Oper) (l : List IOper) (bef : List Nat) : Prop where
  len : l.length = ops.size
  comp : ∀ (i : Nat) (o : Oper) (io : IOper), ops[i]? = some o → l[i]? = some io → compOp P o = some io.op.bare ∧ compGuard ops.toList o.guard = some io.guard ∧ io.dst = o.dst ∧ (∀ x ∈ o.op.operands.toList, opdOk ng x = true) ∧ opKind io.op ≠ 3
  edges : ∀ (i : Nat) (o : Oper), ops[i]? = some o → ∀ e ∈ o.after, Region.binds .any e = true → e.on < i
  befs_ : ∀ (i : Nat) (o : Oper) (j : Nat), ops[i]? = some o → (bef.getD i 0).testBit j = true → ∃ e ∈ o.after, Region.binds .any e = true ∧ (e.on = j ∨ (bef.getD e.on 0).testBit j = true)
  looks : ∀ (i : Nat) (o : Oper) (io : IOper), ops[i]? = some o → l[i]? = some io → ∀ t ∈ looks io o, ∀ (j : Nat) (jo : IOper), l[j]? = some jo → jo.dst = some t → i = j ∨ (bef.getD i 0).testBit j = true ∨ (bef.getD j 0).testBit i = true
  dsts : ∀ (i j : Nat) (io jo : IOper) (t : Nat), l[i]? = some io → l[j]? = some jo → io.dst = some t → jo.dst = some t → i = j
  cmp : ∀ (i j : Nat) (io jo : IOper), l[i]? = some io → noisy io = true → l[j]? = some jo → heapy jo = true → i = j ∨ (bef.getD i 0).testBit j = true ∨ (bef.getD j 0).testBit i = true ∨ (j < i ∧ Crossed l io j jo)
  pureQ : ∀ io ∈ l, pureOp io.op = true → io.quiet = false

theorem DrawOK.bef_lt {ops : Array Oper} {l : List IOper} {bef : List Nat} (d : DrawOK P ng ops l bef) : ∀ (i : Nat) (o : Oper) (j : Nat), ops[i]? = some o → (bef.getD i 0).testBit j = true → j < i := by
  intro i
  induction i using Nat.strongRecOn with
  | _ i ih =>
    intro o j ho hj
    obtain ⟨e, he, hb, h⟩ := d.befs_ i o j ho hj
    have h1 := d.edges i o ho e he hb
    rcases h with h | h
    · omega
    · have hlt : e.on < ops.size := by have := (Array.getElem?_eq_some_iff.1 ho).1; omega
      have := ih e.on h1 ops[e.on] j (Array.getElem?_eq_getElem hlt) h
      omega

structure Trace (call : CallFn) (l : List IOper) (F : Nat → Fr) (G : Nat → Heap) (V : Nat → Value) : Prop where
  step : ∀ (i : Nat) io, l[i]? = some io → stepD call io (F i) (G i) = some (V i, G (i + 1))
  fr : ∀ (i : Nat) io, l[i]? = some io → F (i + 1) = put io.dst (V i) (F i)

theorem trace_of {call : CallFn} : ∀ (l : List IOper) (f : Fr) (H : Heap) (x : IExit) (f' : Fr) (H' : Heap), (∀ io ∈ l, opKind io.op ≠ 3) → evalOps call true l f H = some (x, f', H') →
    x = .normal ∧ ∃ F G V, Trace call l F G V ∧ F 0 = f ∧ G 0 = H ∧ F l.length = f' ∧ G l.length = H'
  | [], f, H, x, f', H', _, h => by
    simp only [evalOps] at h; cases h
    exact ⟨rfl, fun _ => f, fun _ => H, fun _ => undef, ⟨by simp, by simp⟩, rfl, rfl, rfl, rfl⟩
  | o :: l, f, H, x, f', H', hk, h => by
    rw [evalOps_draw (hk o (by simp))] at h
    split at h
    · rename_i p hp
      obtain ⟨v, H1⟩ := p
      obtain ⟨hx, F, G, V, tr, h0, h1, h2, h3⟩ := trace_of l _ _ x f' H' (fun io hio => hk io (by simp [hio])) h
      refine ⟨hx, fun i => match i with | 0 => f | i + 1 => F i, fun i => match i with | 0 => H | i + 1 => G i, fun i => match i with | 0 => v | i + 1 => V i, ⟨?_, ?_⟩, rfl, rfl, h2, h3⟩
      · intro i io hi
        cases i with
        | zero => simp at hi; subst hi; simpa [h1] using hp
        | succ i => exact tr.step i io (by simpa using hi)
      · intro i io hi
        cases i with
        | zero => simp at hi; subst hi; simpa using h0
        | succ i => exact tr.fr i io (by simpa using hi)
    · cases h

section
variable {call : CallFn} {ops : Array Oper} {l : List IOper} {bef : List Nat} {F : Nat → Fr} {G : Nat → Heap} {V : Nat → Value}

theorem Trace.len (tr : Trace call l F G V) (hs : SoundCall P base ng call) (d : DrawOK P ng ops l bef) : ∀ (j i : Nat), i ≤ j → j ≤ l.length → (G i).length ≤ (G j).length := by
  intro j
  induction j with
  | zero => intro i h1 _; have : i = 0 := by omega
            subst this; exact Nat.le_refl _
  | succ j ih =>
    intro i h1 h2
    by_cases he : i = j + 1
    · subst he; exact Nat.le_refl _
    · have hj : j < l.length := by omega
      have hio : l[j]? = some l[j] := List.getElem?_eq_getElem hj
      have ho : ops[j]? = some (ops[j]'(by rw [← d.len]; exact hj)) := Array.getElem?_eq_getElem _
      exact Nat.le_trans (ih i (by omega) (by omega)) (stepD_len hs (tr.step j _ hio) (d.comp j _ _ ho hio).2.2.2.2)

theorem Trace.flen (tr : Trace call l F G V) : ∀ j, j ≤ l.length → (F j).length = (F 0).length := by
  intro j
  induction j with
  | zero => intro _; rfl
  | succ j ih =>
    intro h
    rw [tr.fr j l[j] (List.getElem?_eq_getElem (by omega))]
    unfold put
    split
    · simp [ih (by omega)]
    · exact ih (by omega)

theorem Trace.stable (tr : Trace call l F G V) (t : Nat) : ∀ j i, i ≤ j → j ≤ l.length → (∀ k io, i ≤ k → k < j → l[k]? = some io → io.dst ≠ some t) → (F j).getD t undef = (F i).getD t undef := by
  intro j
  induction j with
  | zero => intro i h _ _; have : i = 0 := by omega
            subst this; rfl
  | succ j ih =>
    intro i h1 h2 h3
    by_cases he : i = j + 1
    · subst he; rfl
    · have hio : l[j]? = some l[j] := List.getElem?_eq_getElem (by omega)
      rw [tr.fr j _ hio, ← ih i (by omega) (by omega) (fun k io a b c => h3 k io a (by omega) c)]
      have hne := h3 j _ (by omega) (by omega) hio
      unfold put
      split
      · rename_i d hd
        have : d ≠ t := fun e => hne (by rw [hd, e])
        simp [List.getD_eq_getElem?_getD, List.getElem?_set_ne this]
      · rfl

theorem Trace.pre (tr : Trace call l F G V) (d : DrawOK P ng ops l bef) : ∀ j i, i ≤ j → j ≤ l.length → (∀ k io, i ≤ k → k < j → l[k]? = some io → noisy io = false) → Pre (G i) (G j) := by
  intro j
  induction j with
  | zero => intro i h _ _; have : i = 0 := by omega
            subst this; exact Pre.refl _
  | succ j ih =>
    intro i h1 h2 h3
    by_cases he : i = j + 1
    · subst he; exact Pre.refl _
    · have hj : j < l.length := by omega
      have hio : l[j]? = some l[j] := List.getElem?_eq_getElem hj
      have ho : ops[j]? = some (ops[j]'(by rw [← d.len]; exact hj)) := Array.getElem?_eq_getElem _
      refine (ih i (by omega) (by omega) (fun k io a b c => h3 k io a (by omega) c)).trans ?_
      have hst := tr.step j _ hio
      have hq := h3 j _ (by omega) (by omega) hio
      by_cases hp : pureOp l[j].op = true
      · have := (stepD_pure hst hp (d.pureQ _ (List.getElem_mem hj) hp)).1
        rw [this]; exact Pre.refl _
      · exact stepD_pre hst (d.comp j _ _ ho hio).2.2.2.2 hq (by simp [heapy, hp])

theorem Trace.closed (tr : Trace call l F G V) (hs : SoundCall P base ng call) (d : DrawOK P ng ops l bef) {S : Nat → Prop} {ρ : Place} {w : World} (h : HRel base ng S ρ (G 0) w) (hok : ∀ v ∈ F 0, okV S v) :
    ∀ j, j ≤ l.length → ∃ ρ' w', HRel base ng (grow S (G 0) (G j)) ρ' (G j) w' ∧ ∀ v ∈ F j, okV (grow S (G 0) (G j)) v := by
  intro j
  induction j with
  | zero => intro _; exact ⟨ρ, w, by rw [grow_same rfl]; exact h, by rw [grow_same rfl]; exact hok⟩
  | succ j ih =>
    intro hj
    obtain ⟨ρ1, w1, h1, h2⟩ := ih (by omega)
    have hio : l[j]? = some l[j] := List.getElem?_eq_getElem (by omega)
    have ho : ops[j]? = some (ops[j]'(by rw [← d.len]; omega)) := Array.getElem?_eq_getElem _
    obtain ⟨c1, c2, c3, c4, c5⟩ := d.comp j _ _ ho hio
    obtain ⟨ρ2, w2, k1, k2, k3⟩ := stepD_sim hs c1 c5 h1 (fun x hx => by
      have := c4 x hx
      cases x with
      | tmp t => exact ok_getD h2 t
      | const v => exact (flatV_tr (v := v) (by simpa [opdOk] using this) ρ1 _).2.1
      | global g => have := h1.glob g (by simpa [opdOk] using this); simp [ev, okV, this.1]
      | func g => simp [ev, okV]) (tr.step j _ hio)
    have e := grow_grow (S := S) (tr.len hs d j 0 (by omega) (by omega)) (tr.len hs d (j + 1) j (by omega) hj)
    rw [e] at k1 k2 k3
    refine ⟨ρ2, w2, k1, ?_⟩
    rw [tr.fr j _ hio]
    intro u hu
    unfold put at hu
    split at hu
    · rcases List.mem_or_eq_of_mem_set hu with hu | rfl
      · exact okV_mono k2.sub u (h2 u hu)
      · exact k3
    · exact okV_mono k2.sub u (h2 u hu)

end
end Go.IM

namespace Go.IM
open Go Go.RowKit
set_option linter.unusedVariables false

variable {P : Program} {base ng : Nat}

section
variable (base ng) (S : Nat → Prop) (ρ0 : Place) (w0 : World) (l : List IOper) (bef : List Nat) (F : Nat → Fr) (G : Nat → Heap)

/-- What can be seen when the operations `L` have been done. -/
def Vis (L : Nat → Bool) (i : Nat) : Prop := S i ∨ ∃ j, L j = true ∧ (G j).length ≤ i ∧ i < (G (j + 1)).length

open Classical in
noncomputable def fL (L : Nat → Bool) (t : Nat) : Value := if ∃ j io, L j = true ∧ l[j]? = some io ∧ io.dst = some t then (F l.length).getD t undef else (F 0).getD t undef

structure Inv (L : Nat → Bool) (c : Nat) (ρ : Place) (a : Act) (w : World) : Prop where
  c_le : c ≤ l.length
  n2 : ∀ (k : Nat) (io : IOper), k < c → l[k]? = some io → noisy io = true → L k = true
  n3 : ∀ (j : Nat) (io : IOper), L j = true → l[j]? = some io → heapy io = true → j < c
  lt : ∀ j, L j = true → j < l.length
  clo : ∀ (k j : Nat), L k = true → (bef.getD k 0).testBit j = true → L j = true
  rel : HRel base ng (Vis S G L) ρ (G c) w
  ext : Ext S ρ0 (G 0) w0 (Vis S G L) ρ (G c) w
  size : a.tmps.size = (F 0).length
  tmps : ∀ t, a.tmps.getD t undef = trV ρ (fL l F L t) ∧ okV (Vis S G L) (fL l F L t)
  defs : a.defers = []

end

section
variable {S : Nat → Prop} {ρ0 ρ : Place} {w0 w : World} {call : CallFn} {ops : Array Oper} {l : List IOper} {bef : List Nat} {F : Nat → Fr} {G : Nat → Heap} {V : Nat → Value} {L : Nat → Bool} {c : Nat} {a : Act}

/-- On to the next noisy operation that has not been done. -/
theorem Inv.advance (tr : Trace call l F G V) (d : DrawOK P ng ops l bef) (h : Inv base ng S ρ0 w0 l bef F G L c ρ a w) :
    ∃ m, Inv base ng S ρ0 w0 l bef F G L m ρ a w ∧ (m = l.length ∨ ∃ io, l[m]? = some io ∧ noisy io = true ∧ L m = false) := by
  have key : ∀ n c, l.length - c = n → Inv base ng S ρ0 w0 l bef F G L c ρ a w → ∃ m, Inv base ng S ρ0 w0 l bef F G L m ρ a w ∧ (m = l.length ∨ ∃ io, l[m]? = some io ∧ noisy io = true ∧ L m = false) := by
    intro n
    induction n with
    | zero => intro c hn h; exact ⟨c, h, .inl (by have := h.c_le; omega)⟩
    | succ n ih =>
      intro c hn h
      have hc : c < l.length := by omega
      have hio : l[c]? = some l[c] := List.getElem?_eq_getElem hc
      by_cases hq : noisy l[c] = true
      · refine ⟨c, h, .inr ⟨_, hio, hq, ?_⟩⟩
        cases hL : L c with
        | false => rfl
        | true =>
          have := h.n3 c _ hL hio (by simp only [noisy, Bool.and_eq_true] at hq; exact hq.1.1)
          omega
      · have hq : noisy l[c] = false := by simpa using hq
        have hp : Pre (G c) (G (c + 1)) := tr.pre d (c + 1) c (by omega) (by omega) (fun k io h1 h2 h3 => by
          have : k = c := by omega
          subst this; rw [hio] at h3; cases h3; exact hq)
        refine ih (c + 1) (by omega) ⟨by omega, ?_, fun j io h1 h2 h3 => by have := h.n3 j io h1 h2 h3; omega, h.lt, h.clo, h.rel.up hp, h.ext.up hp h.rel.vis, h.size, h.tmps, h.defs⟩
        intro k io hk hkio hkn
        by_cases he : k = c
        · subst he; rw [hio] at hkio; cases hkio; rw [hq] at hkn; cases hkn
        · exact h.n2 k io (by omega) hkio hkn
  exact key _ c rfl h

def ins (L : Nat → Bool) (i : Nat) : Nat → Bool := fun j => j == i || L j

theorem vis_ins (L : Nat → Bool) (i : Nat) : Vis S G (ins L i) = fun k => Vis S G L k ∨ ((G i).length ≤ k ∧ k < (G (i + 1)).length) := by
  funext k; apply propext; unfold Vis ins
  constructor
  · rintro (h | ⟨j, hj, h⟩)
    · exact .inl (.inl h)
    · simp only [Bool.or_eq_true, beq_iff_eq] at hj
      rcases hj with rfl | hj
      · exact .inr h
      · exact .inl (.inr ⟨j, hj, h⟩)
  · rintro ((h | ⟨j, hj, h⟩) | h)
    · exact .inl h
    · exact .inr ⟨j, by simp [hj], h⟩
    · exact .inr ⟨i, by simp, h⟩

/-- What an operation looks at. -/
theorem look_eq (tr : Trace call l F G V) (d : DrawOK P ng ops l bef) {i : Nat} {o : Oper} {io : IOper} (ho : ops[i]? = some o) (hio : l[i]? = some io) (hb : ∀ j, (bef.getD i 0).testBit j = true → L j = true)
    (hLi : L i = false) (hclo : ∀ (k j : Nat), L k = true → (bef.getD k 0).testBit j = true → L j = true) {t : Nat} (ht : t ∈ looks io o) : fL l F L t = (F i).getD t undef := by
  have hi : i < l.length := (List.getElem?_eq_some_iff.1 hio).1
  unfold fL
  split
  · rename_i hx
    obtain ⟨j, jo, hL, hj, hd⟩ := hx
    have hbj : (bef.getD i 0).testBit j = true := by
      rcases d.looks i o io ho hio t ht j jo hj hd with e | e | e
      · subst e; rw [hLi] at hL; cases hL
      · exact e
      · have := hclo j i hL e; rw [hLi] at this; cases this
    have hlt := d.bef_lt i o j ho hbj
    have hjl : j < l.length := (List.getElem?_eq_some_iff.1 hj).1
    have no : ∀ k ko, j + 1 ≤ k → l[k]? = some ko → ko.dst ≠ some t := fun k ko hk hko he => by
      have := d.dsts j k jo ko t hj hko hd he; omega
    rw [tr.stable t l.length (j + 1) (by omega) (by omega) (fun k ko h1 h2 h3 => no k ko h1 h3), tr.stable t i (j + 1) (by omega) (by omega) (fun k ko h1 h2 h3 => no k ko h1 h3)]
  · rename_i hx
    refine (tr.stable t i 0 (by omega) (by omega) (fun k ko h1 h2 h3 he => ?_)).symm
    rcases d.looks i o io ho hio t ht k ko h3 he with e | e | e
    · omega
    · exact hx ⟨k, ko, hb k e, h3, he⟩
    · have hk : ops[k]? = some (ops[k]'(by rw [← d.len]; omega)) := Array.getElem?_eq_getElem _
      have := d.bef_lt k _ i hk e; omega

/-- The values after one operation more. -/
theorem tmps_ins (tr : Trace call l F G V) (d : DrawOK P ng ops l bef) (h : Inv base ng S ρ0 w0 l bef F G L c ρ a w) {i : Nat} {io : IOper} (hio : l[i]? = some io) {ρ' : Place}
    (ha : ∀ k, Vis S G L k → ρ' k = ρ k) (hv : okV (Vis S G (ins L i)) (V i)) (t : Nat) :
    (a.put io.dst (trV ρ' (V i))).tmps.getD t undef = trV ρ' (fL l F (ins L i) t) ∧ okV (Vis S G (ins L i)) (fL l F (ins L i) t) := by
  have hi : i < l.length := (List.getElem?_eq_some_iff.1 hio).1
  have hsub : ∀ k, Vis S G L k → Vis S G (ins L i) k := fun k hk => by rw [vis_ins]; exact .inl hk
  by_cases hd : io.dst = some t
  · have e1 : fL l F (ins L i) t = (F (i + 1)).getD t undef := by
      unfold fL
      rw [if_pos ⟨i, io, by simp [ins], hio, hd⟩]
      exact tr.stable t l.length (i + 1) (by omega) (by omega) (fun k ko h1 h2 h3 he => by have := d.dsts i k io ko t hio h3 hd he; omega)
    have e2 : (F (i + 1)).getD t undef = if t < (F 0).length then V i else undef := by
      rw [tr.fr i io hio, hd]
      simp only [put, List.getD_eq_getElem?_getD, List.getElem?_set, if_true]
      rw [tr.flen i (by omega)]
      split <;> rfl
    have e3 : (a.put io.dst (trV ρ' (V i))).tmps.getD t undef = if t < (F 0).length then trV ρ' (V i) else undef := by
      rw [hd]
      simp only [Act.put, Array.getD_eq_getD_getElem?, Array.getElem?_setIfInBounds, if_true, h.size]
      split <;> rfl
    rw [e3, e1, e2]
    split
    · exact ⟨rfl, hv⟩
    · simp
  · have e1 : fL l F (ins L i) t = fL l F L t := by
      unfold fL
      congr 1
      apply propext
      constructor
      · rintro ⟨j, jo, h1, h2, h3⟩
        simp only [ins, Bool.or_eq_true, beq_iff_eq] at h1
        rcases h1 with rfl | h1
        · rw [hio] at h2; cases h2; exact absurd h3 hd
        · exact ⟨j, jo, h1, h2, h3⟩
      · rintro ⟨j, jo, h1, h2, h3⟩
        exact ⟨j, jo, by simp [ins, h1], h2, h3⟩
    have e2 : (a.put io.dst (trV ρ' (V i))).tmps.getD t undef = a.tmps.getD t undef := by
      cases hdd : io.dst with
      | none => rfl
      | some t' =>
        have : t' ≠ t := fun e => hd (by rw [hdd, e])
        simp [Act.put, Array.getD_eq_getD_getElem?, Array.getElem?_setIfInBounds_ne this]
    rw [e1, e2]
    have := h.tmps t
    exact ⟨by rw [this.1, trV_agree ha _ this.2], okV_mono hsub _ this.2⟩

theorem Inv.step (hs : SoundCall P base ng call) (tr : Trace call l F G V) (d : DrawOK P ng ops l bef) (h0 : HRel base ng S ρ0 (G 0) w0) (hok0 : ∀ v ∈ F 0, okV S v) (h : Inv base ng S ρ0 w0 l bef F G L c ρ a w)
    (hm : c = l.length ∨ ∃ io, l[c]? = some io ∧ noisy io = true ∧ L c = false) {i : Nat} {o : Oper} (ho : ops[i]? = some o) (hLi : L i = false)
    (hr : ∀ e ∈ o.after, Region.binds .any e = true → L e.on = true) {Q : Exit → Act → World → Prop} {K : Act → World → Prop}
    (k : ∀ c' ρ' a' w', Inv base ng S ρ0 w0 l bef F G (ins L i) c' ρ' a' w' → K a' w') : wpOp P ops Q i K a w := by
  have hi : i < l.length := by rw [d.len]; exact (Array.getElem?_eq_some_iff.1 ho).1
  have hio : l[i]? = some l[i] := List.getElem?_eq_getElem hi
  obtain ⟨c1, c2, c3, c4, c5⟩ := d.comp i _ _ ho hio
  generalize hIO : l[i] = io at *
  have hb : ∀ j, (bef.getD i 0).testBit j = true → L j = true := by
    intro j hj
    obtain ⟨e, he, hbd, h1⟩ := d.befs_ i o j ho hj
    have := hr e he hbd
    rcases h1 with h1 | h1
    · rw [← h1]; exact this
    · exact h.clo e.on j this h1
  have clo' : ∀ (k j : Nat), ins L i k = true → (bef.getD k 0).testBit j = true → ins L i j = true := by
    intro k j hk hj
    simp only [ins, Bool.or_eq_true, beq_iff_eq] at hk ⊢
    rcases hk with rfl | hk
    · exact .inr (hb j hj)
    · exact .inr (h.clo k j hk hj)
  have lt' : ∀ j, ins L i j = true → j < l.length := by
    intro j hj
    simp only [ins, Bool.or_eq_true, beq_iff_eq] at hj
    rcases hj with rfl | hj
    · exact hi
    · exact h.lt j hj
  have hlook : ∀ t ∈ looks io o, fL l F L t = (F i).getD t undef := fun t ht => look_eq tr d ho hio hb hLi h.clo ht
  have hw : Region.wanted o (yielded ops a.tmps) = wants io.guard (F i) := by
    refine wanted_eq (ρ := ρ) c2 fun t b hg => ?_
    rw [(h.tmps t).1, hlook t (by simp [looks, hg])]
  have hev : ∀ x ∈ o.op.operands.toList, EvOk (Vis S G L) ρ (F i) a x := by
    intro x hx
    have hxo := c4 x hx
    cases x with
    | tmp t =>
      have ht : t ∈ looks io o := by
        simp only [looks, List.mem_append, List.mem_filterMap]
        exact .inl ⟨.tmp t, hx, rfl⟩
      have := h.tmps t
      rw [hlook t ht] at this
      exact this
    | const v => have := flatV_tr (v := v) (by simpa [opdOk] using hxo) ρ (Vis S G L); exact ⟨this.1.symm, this.2.1⟩
    | global g =>
      have hg := h.rel.glob g (by simpa [opdOk] using hxo)
      exact ⟨by simp [Act.eval, ev, trV, trA, hg.2.1, hg.2.2], by simp [ev, okV, hg.1]⟩
    | func g => exact ⟨by simp [Act.eval, ev, trV], by simp [ev, okV]⟩
  have hst := tr.step i io hio
  have lens := tr.len hs d
  -- an operation that touches the memory is not behind the next noisy one
  have hle : heapy io = true → i ≤ c := by
    intro hh
    rcases hm with hm | ⟨co, hco, hcn, hcL⟩
    · omega
    · rcases d.cmp c i co io hco hcn hio hh with e | e | e | ⟨e, _⟩
      · omega
      · have hco' : ops[c]? = some (ops[c]'(by rw [← d.len]; exact (List.getElem?_eq_some_iff.1 hco).1)) := Array.getElem?_eq_getElem _
        have := d.bef_lt c _ i hco' e; omega
      · have := hb c e; rw [hcL] at this; cases this
      · omega
  have hci : i = c → c < l.length := fun e => by omega
  -- a read gives the same in the memory that there is
  have hread : ∀ m y, readOf io.op = some (m, y) → i ≤ c → G (i + 1) = G i ∧ stepD call io (F i) (G c) = some (V i, G c) := by
    intro m y hrd hic
    obtain ⟨hG, _⟩ := stepD_move hrd hst
    refine ⟨hG, ?_⟩
    have hhp : heapy io = true := by
      unfold heapy
      generalize io.op = x at hrd
      cases x <;> simp [readOf] at hrd <;> rfl
    have key : ∀ k, i ≤ k → k ≤ c → stepD call io (F i) (G k) = some (V i, G k) := by
      intro k
      induction k with
      | zero =>
        intro h1 _
        have e : i = 0 := by omega
        subst e
        rw [hG] at hst; exact hst
      | succ k ihk =>
        intro h1 h2
        by_cases e : i = k + 1
        · subst e; rw [hG] at hst; exact hst
        have ih' := ihk (by omega) (by omega)
        by_cases e2 : i = k
        · subst e2; rw [hG]; exact ih'
        have hcl := h.c_le
        have hkl : k < l.length := by omega
        have hko : l[k]? = some l[k] := List.getElem?_eq_getElem hkl
        cases hn : noisy l[k] with
        | true =>
          have hLk := h.n2 k _ (by omega) hko hn
          rcases d.cmp k i _ io hko hn hio hhp with e3 | e3 | e3 | ⟨_, n, a', x, ks, m', y', hop, hmem, hr', hun⟩
          · exact absurd e3.symm e2
          · have := h.clo k i hLk e3; rw [hLi] at this; cases this
          · have := d.bef_lt i o k ho e3; omega
          · rw [hrd] at hr'; cases hr'
            refine (stepD_move hrd ih').2 _ fun hi => ?_
            have hstk := tr.step k _ hko
            by_cases hwk : wants l[k].guard (F k) = true
            · rw [stepD_plain (by rw [hop]; rfl) hwk] at hstk
              split at hstk
              · rename_i p hio'
                split at hstk <;> cases hstk
                rw [hop] at hio'
                refine read_stk hio' hmem hrd ?_ hi
                cases y with
                | tmp t => exact tr.stable t k i (by omega) (by omega) (fun j jo h1 h2 h3 => hun t rfl j jo h1 h3)
                | _ => rfl
              · cases hstk
            · simp only [stepD, hwk, Bool.false_eq_true, if_false, Option.some.injEq, Prod.mk.injEq] at hstk
              rw [← hstk.2]; exact hi
        | false =>
          have hp : Pre (G k) (G (k + 1)) := tr.pre d (k + 1) k (by omega) (by omega) (fun j jo h1 h2 h3 => by
            have : j = k := by omega
            subst this; rw [hko] at h3; cases h3; exact hn)
          exact (stepD_move hrd ih').2 _ fun hi => read_pre hrd hi hp
    exact key c hic (Nat.le_refl _)
  -- what holds of the counts, whatever the step
  have n2' : ∀ (k : Nat) (io : IOper), k < (if i = c then c + 1 else c) → l[k]? = some io → noisy io = true → ins L i k = true := by
    intro k ko hk hko hn
    simp only [ins, Bool.or_eq_true, beq_iff_eq]
    by_cases hki : k = i
    · exact .inl hki
    · refine .inr (h.n2 k ko ?_ hko hn)
      split at hk <;> omega
  have n3' : ∀ (j : Nat) (jo : IOper), ins L i j = true → l[j]? = some jo → heapy jo = true → j < (if i = c then c + 1 else c) := by
    intro j jo hj hjo hh
    simp only [ins, Bool.or_eq_true, beq_iff_eq] at hj
    rcases hj with rfl | hj
    · rw [hio] at hjo; cases hjo
      have := hle hh
      split <;> omega
    · have := h.n3 j jo hj hjo hh
      split <;> omega
  have fin : ∀ ρ' w', HRel base ng (Vis S G (ins L i)) ρ' (G (if i = c then c + 1 else c)) w' → Ext (Vis S G L) ρ (G c) w (Vis S G (ins L i)) ρ' (G (if i = c then c + 1 else c)) w' →
      okV (Vis S G (ins L i)) (V i) → K (a.put io.dst (trV ρ' (V i))) w' := by
    intro ρ' w' h1 h2 h3
    refine k (if i = c then c + 1 else c) ρ' _ w' ⟨?_, n2', n3', lt', clo', h1, h.ext.trans h2, ?_, tmps_ins tr d h hio h2.agree h3, ?_⟩
    · have := h.c_le; split <;> omega
    · rw [← h.size]; cases io.dst <;> simp [Act.put]
    · rw [← h.defs]; cases io.dst <;> rfl
  by_cases hsame : G (i + 1) = G i ∧ stepD call io (F i) (G c) = some (V i, G c)
  · -- the memory is as it was
    have hvi : Vis S G (ins L i) = Vis S G L := by
      rw [vis_ins, hsame.1]
      funext k; apply propext
      constructor
      · rintro (hk | hk)
        · exact hk
        · omega
      · exact .inl
    have hG : G (if i = c then c + 1 else c) = G c := by
      split
      · rename_i e; rw [← e, hsame.1]
      · rfl
    refine stepD_real hs ho c1 c3 c5 hw h.rel hev hsame.2 fun ρ' w' h1 h2 h3 => ?_
    rw [grow_same rfl] at h1 h2 h3
    exact fin ρ' w' (by rw [hvi, hG]; exact h1) (by rw [hvi, hG]; exact h2) (by rw [hvi]; exact h3)
  · have hwt : wants io.guard (F i) = true := by
      cases hc : wants io.guard (F i) with
      | true => rfl
      | false =>
        exfalso; apply hsame
        simp only [stepD, hc, Bool.false_eq_true, if_false] at hst ⊢
        simp only [Option.some.injEq, Prod.mk.injEq] at hst
        exact ⟨hst.2.symm, by rw [hst.1]⟩
    have hhp : heapy io = true := by
      cases hc : pureOp io.op with
      | false => simp [heapy, hc]
      | true => have := stepD_pure hst hc (d.pureQ io (List.mem_of_getElem? hio) hc); exact absurd ⟨this.1, this.2 _⟩ hsame
    have hic := hle hhp
    have hnr : readOf io.op = none := by
      cases hc : readOf io.op with
      | none => rfl
      | some x => exact absurd (hread x.1 x.2 hc hic) hsame
    by_cases heq : i = c
    · -- the next noisy one
      subst heq
      refine stepD_real hs ho c1 c3 c5 hw h.rel hev hst fun ρ' w' h1 h2 h3 => ?_
      have hvi : Vis S G (ins L i) = grow (Vis S G L) (G i) (G (i + 1)) := by rw [vis_ins]; rfl
      simp only [if_true] at fin
      exact fin ρ' w' (by rw [hvi]; exact h1) (by rw [hvi]; exact h2) (by rw [hvi]; exact h3)
    · have hlt : i < c := by omega
      have hq : noisy io = false := by
        cases hc : noisy io with
        | false => rfl
        | true =>
          have := h.n2 i io hlt hio hc
          rw [hLi] at this; cases this
      have pA : Pre (G i) (G (i + 1)) := stepD_pre hst c5 hq hhp
      have quietBetween : ∀ k ko, i ≤ k → k < c → l[k]? = some ko → noisy ko = false := by
        intro k ko h1 h2 h3
        cases hn : noisy ko with
        | false => rfl
        | true =>
          have hLk := h.n2 k ko h2 h3 hn
          rcases d.cmp k i ko io h3 hn hio hhp with e | e | e | ⟨_, _, _, _, _, _, _, _, _, e, _⟩
          · subst e; rw [hLi] at hLk; cases hLk
          · have := h.clo k i hLk e; rw [hLi] at this; cases this
          · have := d.bef_lt i o k ho e; omega
          · rw [hnr] at e; cases e
      have pAB : Pre (G i) (G c) := tr.pre d c i (by omega) h.c_le quietBetween
      have pB : Pre (G (i + 1)) (G c) := tr.pre d c (i + 1) (by omega) h.c_le (fun k ko h1 h2 h3 => quietBetween k ko (by omega) h2 h3)
      obtain ⟨ρc, wc, hc1, hc2⟩ := tr.closed hs d h0 hok0 i (by omega)
      have hVG : ∀ k, Vis S G L k → k < (G i).length → grow S (G 0) (G i) k := by
        rintro k (hk | ⟨j, hj, hk1, hk2⟩) hlt'
        · exact .inl hk
        · exact .inr ⟨Nat.le_trans (lens j 0 (by omega) (by have := h.lt j hj; omega)) hk1, hlt'⟩
      have hGl : ∀ k, grow S (G 0) (G i) k → k < (G i).length := hc1.vis
      have inter : ∀ v, okV (Vis S G L) v → okV (grow S (G 0) (G i)) v → okV (fun k => Vis S G L k ∧ k < (G i).length) v :=
        fun v h1 h2 => okV_mono (fun k hk => ⟨hk.1, hGl k hk.2⟩) v (okV_inter v h1 h2)
      have hT : HRel base ng (fun k => Vis S G L k ∧ k < (G i).length) ρ (G i) w := by
        refine HRel.down (HRel.restrict h.rel (fun k hk => hk.1) ?_ ?_ ?_) pAB (fun k hk => hk.2)
        · intro g hg
          exact ⟨(h.rel.glob g hg).1, hGl g (.inl (h0.glob g hg).1)⟩
        · intro k cs ro lo hk hcs v hv
          obtain ⟨j, hj⟩ := List.mem_iff_getElem?.1 hv
          have e1 := ((h.rel.cells k cs ro lo hk.1 hcs).val j v hj).2.1
          have e2 := ((hc1.cells k cs ro lo (hVG k hk.1 hk.2) (by rw [← pAB.get hk.2]; exact hcs)).val j v hj).2.1
          exact inter v e1 e2
        · intro k es ck hk hes e he
          have e1 := (h.rel.maps k es ck hk.1 hes).ok e he
          have e2 := (hc1.maps k es ck (hVG k hk.1 hk.2) (by rw [← pAB.get hk.2]; exact hes)).ok e he
          exact ⟨inter _ e1.1 e2.1, inter _ e1.2 e2.2⟩
      have hevT : ∀ x ∈ o.op.operands.toList, EvOk (fun k => Vis S G L k ∧ k < (G i).length) ρ (F i) a x := by
        intro x hx
        refine ⟨(hev x hx).1, inter _ (hev x hx).2 ?_⟩
        have hxo := c4 x hx
        cases x with
        | tmp t => exact ok_getD hc2 t
        | const v => exact (flatV_tr (v := v) (by simpa [opdOk] using hxo) ρ _).2.1
        | global g => have := hc1.glob g (by simpa [opdOk] using hxo); simp [ev, okV, this.1]
        | func g => simp [ev, okV]
      refine stepD_real hs ho c1 c3 c5 hw hT hevT hst fun ρ' w' h1 h2 h3 => ?_
      have hU : ∀ k, Vis S G L k → k < (G i).length ∨ (G (i + 1)).length ≤ k := by
        rintro k (hk | ⟨j, hj, hk1, hk2⟩)
        · exact .inl (hGl k (.inl hk))
        · have hjl := h.lt j hj
          by_cases hji : j < i
          · exact .inl (Nat.lt_of_lt_of_le hk2 (lens i (j + 1) (by omega) (by omega)))
          · have hne : j ≠ i := fun e => by subst e; rw [hLi] at hj; cases hj
            exact .inr (Nat.le_trans (lens j (i + 1) (by omega) (by omega)) hk1)
      obtain ⟨m1, m2, m3⟩ := merge h.rel (fun k => Iff.rfl) pAB pA pB hU h1 h2
      have hv := m3 _ h3
      rw [← vis_ins] at m1 m2 hv
      rw [hv.2]
      simp only [heq, if_false] at fin
      exact fin _ w' m1 m2 hv.1

end
end Go.IM

namespace Go.IM
open Go Go.RowKit
set_option linter.unusedVariables false

variable {P : Program} {base ng : Nat}

theorem countP_lt {α : Type} {p q : α → Bool} : ∀ (xs : List α), (∀ x ∈ xs, p x = true → q x = true) → (∃ x ∈ xs, q x = true ∧ p x = false) → xs.countP p < xs.countP q
  | [], _, h => by obtain ⟨x, hx, _⟩ := h; cases hx
  | x :: xs, h1, h2 => by
    have ih := countP_lt xs (fun y hy => h1 y (by simp [hy]))
    have mono : xs.countP p ≤ xs.countP q := List.countP_mono_left (fun y hy => h1 y (by simp [hy]))
    simp only [List.countP_cons]
    by_cases hx : q x = true ∧ p x = false
    · simp [hx.1, hx.2]; omega
    · have hr : ∃ y ∈ xs, q y = true ∧ p y = false := by
        obtain ⟨y, hy, hq⟩ := h2
        rcases List.mem_cons.1 hy with rfl | hy
        · exact absurd hq hx
        · exact ⟨y, hy, hq⟩
      have := ih hr
      have h3 := h1 x (by simp)
      cases hp : p x <;> cases hq : q x <;> simp_all <;> omega

section
variable {S : Nat → Prop} {ρ0 ρ : Place} {w0 w : World} {call : CallFn} {ops : Array Oper} {l : List IOper} {bef : List Nat} {F : Nat → Fr} {G : Nat → Heap} {V : Nat → Value} {c : Nat} {a : Act}

def has (listed : Array Bool) (i : Nat) : Bool := listed.getD i false

theorem has_set {listed : Array Bool} {i : Nat} (hi : i < listed.size) : has (listed.setIfInBounds i true) = ins (has listed) i := by
  funext j
  unfold has ins
  by_cases h : j = i
  · subst h; simp [hi]
  · have h' : i ≠ j := fun e => h e.symm
    simp [Array.getD_eq_getD_getElem?, Array.getElem?_setIfInBounds_ne h', h]

theorem all_listed {listed : Array Bool} (d : DrawOK P ng ops l bef) (hsz : listed.size = l.length) (h : Region.ready .any ops listed = []) : ∀ i, i < l.length → has listed i = true := by
  intro i
  induction i using Nat.strongRecOn with
  | _ i ih =>
    intro hi
    cases hh : has listed i with
    | true => rfl
    | false =>
      exfalso
      have ho : ops[i]? = some (ops[i]'(by rw [← d.len]; exact hi)) := Array.getElem?_eq_getElem _
      have : i ∈ Region.ready .any ops listed := by
        rw [mem_ready]
        refine ⟨?_, _, ho, fun e he hb => ?_⟩
        · have hx : listed[i]? = some listed[i] := Array.getElem?_eq_getElem (by omega)
          simp only [has, Array.getD_eq_getD_getElem?, hx, Option.getD_some] at hh ⊢
          exact hh
        · have hlt := d.edges i _ ho e he hb
          exact ih e.on hlt (by omega)
      rw [h] at this; cases this

theorem between (G : Nat → Heap) (k : Nat) : ∀ n, (G 0).length ≤ k → k < (G n).length → ∃ j, j < n ∧ (G j).length ≤ k ∧ k < (G (j + 1)).length
  | 0, h1, h2 => by omega
  | n + 1, h1, h2 => by
    by_cases h : k < (G n).length
    · obtain ⟨j, hj, h3⟩ := between G k n h1 h; exact ⟨j, by omega, h3⟩
    · exact ⟨n, by omega, by omega, h2⟩

theorem Inv.done (hs : SoundCall P base ng call) (tr : Trace call l F G V) (d : DrawOK P ng ops l bef) {L : Nat → Bool} (h : Inv base ng S ρ0 w0 l bef F G L l.length ρ a w) (hL : ∀ i, i < l.length → L i = true) :
    Rch base ng S ρ0 (G 0) w0 ρ (G l.length) w (F l.length) a := by
  have hv : Vis S G L = grow S (G 0) (G l.length) := by
    funext k; apply propext; unfold Vis grow
    constructor
    · rintro (hk | ⟨j, hj, h1, h2⟩)
      · exact .inl hk
      · have := h.lt j hj
        exact .inr ⟨Nat.le_trans (tr.len hs d j 0 (by omega) (by omega)) h1, Nat.lt_of_lt_of_le h2 (tr.len hs d _ (j + 1) (by omega) (Nat.le_refl _))⟩
    · rintro (hk | ⟨h1, h2⟩)
      · exact .inl hk
      · obtain ⟨j, hj, h3⟩ := between G k _ h1 h2
        exact .inr ⟨j, hL j hj, h3⟩
  have hf : ∀ t, fL l F L t = (F l.length).getD t undef := by
    intro t
    unfold fL
    split
    · rfl
    · rename_i hx
      exact (tr.stable t l.length 0 (by omega) (Nat.le_refl _) (fun k ko _ h1 h2 h3 => hx ⟨k, ko, hL k h1, h2, h3⟩)).symm
  have hrel := h.rel; have hext := h.ext
  rw [hv] at hrel hext
  refine ⟨⟨hrel, ?_, h.defs, ?_⟩, hext, tr.len hs d _ 0 (by omega) (Nat.le_refl _)⟩
  · apply Array.ext
    · simp [h.size, tr.flen l.length (Nat.le_refl _)]
    · intro t h1 h2
      have := (h.tmps t).1
      rw [hf t] at this
      simp only [Array.getD_eq_getD_getElem?, Array.getElem?_eq_getElem h1, Option.getD_some] at this
      rw [this]
      simp at h2
      simp [List.getD_eq_getElem?_getD, List.getElem?_eq_getElem h2]
  · intro v hv'
    obtain ⟨t, ht⟩ := List.mem_iff_getElem?.1 hv'
    have := (h.tmps t).2
    rw [hf t, hv] at this
    simpa [List.getD_eq_getElem?_getD, ht] using this

theorem wp_drawn (hs : SoundCall P base ng call) (tr : Trace call l F G V) (d : DrawOK P ng ops l bef) (h0 : HRel base ng S ρ0 (G 0) w0) (hok0 : ∀ v ∈ F 0, okV S v) {Q : Exit → Act → World → Prop}
    (hQ : ∀ ρ a w, Rch base ng S ρ0 (G 0) w0 ρ (G l.length) w (F l.length) a → Q .normal a w) :
    ∀ (fuel : Nat) (listed : Array Bool) (c : Nat) (ρ : Place) (a : Act) (w : World), listed.size = l.length → (List.range l.length).countP (fun i => !has listed i) ≤ fuel →
      Inv base ng S ρ0 w0 l bef F G (has listed) c ρ a w → wpAny P .any ops Q fuel listed a w := by
  intro fuel
  have fin : ∀ (listed : Array Bool) (c : Nat) (ρ : Place) (a : Act) (w : World), Inv base ng S ρ0 w0 l bef F G (has listed) c ρ a w → (∀ i, i < l.length → has listed i = true) → Q .normal a w := by
    intro listed c ρ a w h hall
    obtain ⟨m, hm, hm'⟩ := h.advance tr d
    rcases hm' with rfl | ⟨io, hio, _, hL⟩
    · exact hQ ρ a w (hm.done hs tr d hall)
    · rw [hall m (List.getElem?_eq_some_iff.1 hio).1] at hL; cases hL
  induction fuel with
  | zero =>
    intro listed c ρ a w hsz hc h
    have hall : ∀ i, i < l.length → has listed i = true := by
      intro i hi
      have : (List.range l.length).countP (fun i => !has listed i) = 0 := by omega
      rw [List.countP_eq_zero] at this
      simpa using this i (List.mem_range.2 hi)
    refine ⟨?_, fin listed c ρ a w h hall⟩
    apply List.eq_nil_iff_forall_not_mem.2
    intro j hj
    obtain ⟨h1, o, ho, _⟩ := mem_ready.1 hj
    have hjl : j < l.length := by rw [d.len]; exact (Array.getElem?_eq_some_iff.1 ho).1
    have := hall j hjl
    have hx : listed[j]? = some listed[j] := Array.getElem?_eq_getElem (by omega)
    simp only [has, Array.getD_eq_getD_getElem?, hx, Option.getD_some] at this h1
    rw [this] at h1; cases h1
  | succ fuel ih =>
    intro listed c ρ a w hsz hc h
    refine ⟨fun hr => fin listed c ρ a w h (all_listed d hsz hr), fun i hi => ?_⟩
    obtain ⟨h1, o, ho, hall⟩ := mem_ready.1 hi
    have hil : i < l.length := by rw [d.len]; exact (Array.getElem?_eq_some_iff.1 ho).1
    have hLi : has listed i = false := by
      have hx : listed[i]? = some listed[i] := Array.getElem?_eq_getElem (by omega)
      simp only [has, Array.getD_eq_getD_getElem?, hx, Option.getD_some] at h1 ⊢
      exact h1
    obtain ⟨m, hm, hm'⟩ := h.advance tr d
    refine Inv.step hs tr d h0 hok0 hm hm' ho hLi (fun e he hb => hall e he hb) fun c' ρ' a' w' hinv => ?_
    refine ih (listed.setIfInBounds i true) c' ρ' a' w' (by simpa using hsz) ?_ (by rw [has_set (by omega)]; exact hinv)
    rw [has_set (by omega)]
    have : (List.range l.length).countP (fun j => !ins (has listed) i j) < (List.range l.length).countP (fun j => !has listed j) := by
      refine countP_lt _ (fun x _ hx => ?_) ⟨i, List.mem_range.2 hil, by simp [hLi], by simp [ins]⟩
      simp only [ins, Bool.not_eq_true', Bool.or_eq_false_iff] at hx ⊢
      exact hx.2
    omega

end

/-- A drawn region. -/
theorem wp_draw {call : CallFn} (hs : SoundCall P base ng call) {ops : Array Oper} {l : List IOper} {bef : List Nat} (d : DrawOK P ng ops l bef) {S0 : Nat → Prop} {ρ0 ρ : Place} {H0 H H' : Heap} {w0 w : World} {f f' : Fr} {a : Act} {x : IExit} {id : Nat}
    (he : evalOps call true l f H = some (x, f', H')) (hm : P.follows .mixedOrders = true) (r : Rch base ng S0 ρ0 H0 w0 ρ H w f a) :
    (Code.region id ops true).wp P (Post base ng S0 ρ0 H0 w0 x f' H') a w := by
  have hk : ∀ io ∈ l, opKind io.op ≠ 3 := by
    intro io hio
    obtain ⟨i, hi⟩ := List.mem_iff_getElem?.1 hio
    have hil : i < l.length := (List.getElem?_eq_some_iff.1 hi).1
    have ho : ops[i]? = some (ops[i]'(by rw [← d.len]; exact hil)) := Array.getElem?_eq_getElem _
    exact (d.comp i _ _ ho hi).2.2.2.2
  obtain ⟨hx, F, G, V, tr, e0, e1, e2, e3⟩ := trace_of l f H x f' H' hk he
  subst hx e0 e1 e2 e3
  have hd : HRel base ng (grow S0 H0 (G 0)) ρ (G 0) { w with drawn := w.drawn + 1 } := r.st.rel.drew
  refine wp_region_any hm ?_
  refine wp_drawn (w0 := { w with drawn := w.drawn + 1 }) (ρ0 := ρ) hs tr d hd r.st.ok ?_ ops.size (Array.replicate ops.size false) 0 ρ a _ (by simp [d.len]) (by simp only [← d.len]; exact Nat.le_trans (List.countP_le_length) (by simp)) ?_
  · intro ρ' a' w' r'
    have hl := r.len
    have hg := grow_grow (S := S0) r.len r'.len
    refine ⟨ρ', rfl, trivial, ⟨by rw [← hg]; exact r'.st, ?_, Nat.le_trans r.len r'.len⟩⟩
    rw [← hg]
    exact (r.ext.trans (Ext.drew _ _ _ _)).trans r'.ext
  · have hf : ∀ i, has (Array.replicate ops.size false) i = false := by
      intro i; simp only [has, Array.getD_eq_getD_getElem?, Array.getElem?_replicate]; split <;> rfl
    have hv : Vis (grow S0 H0 (G 0)) G (has (Array.replicate ops.size false)) = grow S0 H0 (G 0) := by
      funext k; apply propext; unfold Vis
      constructor
      · rintro (h | ⟨j, hj, _⟩)
        · exact h
        · rw [hf] at hj; cases hj
      · exact .inl
    have no : ∀ {j} {α : Prop}, has (Array.replicate ops.size false) j = true → α := fun {j} {α} h => by rw [hf] at h; cases h
    refine ⟨Nat.zero_le _, fun k io hk => absurd hk (Nat.not_lt_zero _), fun j io hj => no hj, fun j hj => no hj, fun k j hk => no hk, by rw [hv]; exact hd, by rw [hv]; exact Ext.refl _ _ _ _, ?_, ?_, r.st.defs⟩
    · rw [r.st.tmps]; simp
    · intro t
      have : fL l F (has (Array.replicate ops.size false)) t = (F 0).getD t undef := by
        unfold fL
        rw [if_neg]
        rintro ⟨j, io, hj, _⟩
        rw [hf] at hj; cases hj
      rw [this, hv, r.st.tmps]
      exact ⟨getD_map_tr ρ (F 0) t, ok_getD r.st.ok t⟩

end Go.IM

namespace Go.IM
open Go Go.RowKit
set_option linter.unusedVariables false

variable {P : Program} {base ng : Nat}

/-! ## What the checks say -/

theorem compOps_get {all : List Oper} : ∀ {os : List Oper} {l : List IOper}, compOps P ng all os = some l → l.length = os.length ∧ ∀ (i : Nat) (o : Oper) (io : IOper), os[i]? = some o → l[i]? = some io →
    compOp P o = some io.op ∧ compGuard all o.guard = some io.guard ∧ io.dst = o.dst ∧ (∀ x ∈ o.op.operands.toList, opdOk ng x = true) ∧ opKind io.op ≠ 3 ∧ io.quiet = false ∧ isStk io.op = false
  | [], l, h => by simp only [compOps] at h; cases h; simp
  | o :: os, l, h => by
    simp only [compOps] at h
    split at h <;> try (cases h; done)
    rename_i i g l' h1 h2 h3
    split at h <;> cases h
    rename_i hok
    simp only [Bool.and_eq_true, bne_iff_ne, ne_eq, Bool.not_eq_true'] at hok
    obtain ⟨hl, hr⟩ := compOps_get h3
    refine ⟨by simp [hl], fun j p io hp hio => ?_⟩
    cases j with
    | zero => simp at hp hio; subst hp hio; exact ⟨h1, h2, rfl, List.all_eq_true.1 hok.1.1, hok.1.2, rfl, hok.2⟩
    | succ j => exact hr j p io (by simpa using hp) (by simpa using hio)

theorem setQuiet_get (bef : List Nat) (all : List IOper) : ∀ (l : List IOper) (k i : Nat), (setQuiet bef all k l)[i]? = (l[i]?).map (setQ1 bef all (k + i))
  | [], k, i => by simp [setQuiet]
  | o :: l, k, i => by
    cases i with
    | zero => simp [setQuiet]
    | succ i =>
      simp only [setQuiet, List.getElem?_cons_succ, setQuiet_get bef all l (k + 1) i]
      rw [show k + 1 + i = k + (i + 1) by omega]

/-- What becomes of an operation of a drawn region. -/
theorem setQ1_is (bef : List Nat) (all : List IOper) (i : Nat) (o : IOper) (hs : isStk o.op = false) (hq : o.quiet = false) :
    (setQ1 bef all i o).op.bare = o.op ∧ (setQ1 bef all i o).dst = o.dst ∧ (setQ1 bef all i o).guard = o.guard ∧ heapy (setQ1 bef all i o) = heapy o ∧ opKind (setQ1 bef all i o).op = opKind o.op ∧
      (readOf o.op ≠ none → (setQ1 bef all i o).op = o.op) ∧ readOf (setQ1 bef all i o).op = readOf o.op ∧ pureOp (setQ1 bef all i o).op = pureOp o.op ∧ (pureOp o.op = true → (setQ1 bef all i o).quiet = false) ∧
      (noisy (setQ1 bef all i o) = true → heapy o = true ∧ (loneOp bef all i = true ∨ ∃ n a x ks, (setQ1 bef all i o).op = .stk n a x ks ∧ crossing bef all i (List.range all.length) = some ks)) := by
  obtain ⟨d, g, q, op⟩ := o
  simp only at hs hq
  subst hq
  unfold setQ1
  split
  · rename_i n a x k ks h1 h2
    simp only at h1
    subst h1
    exact ⟨rfl, rfl, rfl, rfl, rfl, fun h => absurd rfl h, rfl, rfl, (fun h => nomatch h), fun _ => ⟨rfl, .inr ⟨_, _, _, _, rfl, h2⟩⟩⟩
  · have hb : op.bare = op := by cases op <;> first | rfl | (simp [isStk] at hs)
    refine ⟨hb, rfl, rfl, rfl, rfl, fun _ => rfl, rfl, rfl, (fun h => by simp [heapy, h]), fun h => ?_⟩
    simp only [noisy, heapy] at h ⊢
    cases hp : pureOp op <;> cases hc : calmOp op <;> simp [hp, hc] at h ⊢
    exact .inl h

theorem crossing_get {bef : List Nat} {l : List IOper} {i : Nat} : ∀ {js : List Nat} {ks : List (Nat × Operand)}, crossing bef l i js = some ks → ∀ j ∈ js, ∀ jo, l[j]? = some jo → heapy jo = true →
    comparable bef i j = true ∨ (j < i ∧ ∃ m x, readOf jo.op = some (m, x) ∧ (m, x) ∈ ks ∧ unwritten l j x = true)
  | [], ks, _, j, hj, _, _, _ => by cases hj
  | j0 :: js, ks, h, j, hj, jo, hjo, hh => by
    unfold crossing at h
    split at h
    · rename_i hc
      rcases List.mem_cons.1 hj with rfl | hj
      · simp only [hjo, Option.map_some, Option.getD_some, hh, Bool.not_true, Bool.false_or] at hc
        exact .inl hc
      · exact crossing_get h j hj jo hjo hh
    · split at h <;> try (cases h; done)
      rename_i m x ks' h1 h2
      split at h <;> cases h
      rename_i hc
      simp only [Bool.and_eq_true, decide_eq_true_eq] at hc
      rcases List.mem_cons.1 hj with rfl | hj
      · rw [hjo] at h1
        exact .inr ⟨hc.1, m, x, h1, by simp, hc.2⟩
      · rcases crossing_get h2 j hj jo hjo hh with h | ⟨h3, m', x', h4, h5, h6⟩
        · exact .inl h
        · exact .inr ⟨h3, m', x', h4, by simp [h5], h6⟩

theorem setQuiet_len (bef : List Nat) (all : List IOper) : ∀ (l : List IOper) (k : Nat), (setQuiet bef all k l).length = l.length
  | [], k => rfl
  | o :: l, k => by simp [setQuiet, setQuiet_len bef all l]

theorem okEdges_get {bef : List Nat} {ops : List Oper} : ∀ {os : List Oper} {k : Nat}, okEdges bef ops k os = true → ∀ (i : Nat) (o : Oper), os[i]? = some o →
    (∀ e ∈ o.after, Region.binds .any e = true → e.on < k + i) ∧ bef.getD (k + i) 0 = befM bef o
  | [], k, _, i, o, h => by simp at h
  | p :: os, k, hk, i, o, h => by
    simp only [okEdges, Bool.and_eq_true, List.all_eq_true, Bool.or_eq_true, Bool.not_eq_true', decide_eq_true_eq, beq_iff_eq] at hk
    cases i with
    | zero =>
      simp at h; subst h
      exact ⟨fun e he hb => by rcases hk.1.1 e (by simpa using he) with h | h; rw [hb] at h; cases h; simpa using h, hk.1.2⟩
    | succ i =>
      have := okEdges_get hk.2 i o (by simpa using h)
      have e : k + 1 + i = k + (i + 1) := by omega
      rw [e] at this; exact this

theorem foldl_bit (bef : List Nat) (j : Nat) : ∀ (es : List Edge) (s : Nat), (es.foldl (fun s e => if Region.binds .any e then s ||| (1 <<< e.on) ||| bef.getD e.on 0 else s) s).testBit j = true →
    s.testBit j = true ∨ ∃ e ∈ es, Region.binds .any e = true ∧ (e.on = j ∨ (bef.getD e.on 0).testBit j = true)
  | [], s, h => .inl h
  | e :: es, s, h => by
    simp only [List.foldl_cons] at h
    rcases foldl_bit bef j es _ h with h1 | ⟨e', he', h1⟩
    · split at h1
      · rename_i hb
        simp only [Nat.testBit_or, Bool.or_eq_true, Nat.one_shiftLeft, Nat.testBit_two_pow, decide_eq_true_eq] at h1
        rcases h1 with (h1 | h1) | h1
        · exact .inl h1
        · exact .inr ⟨e, by simp, hb, .inl h1⟩
        · exact .inr ⟨e, by simp, hb, .inr h1⟩
      · exact .inl h1
    · exact .inr ⟨e', by simp [he'], h1⟩

theorem okLooks_get {bef : List Nat} {all : List IOper} : ∀ {l : List IOper} {os : List Oper} {k : Nat}, okLooks bef all k l os = true → ∀ (i : Nat) (o : Oper) (io : IOper), os[i]? = some o → l[i]? = some io →
    ∀ t ∈ looks io o, ∀ (j : Nat) (jo : IOper), all[j]? = some jo → jo.dst = some t → comparable bef (k + i) j = true
  | [], os, k, _, i, o, io, _, h => by simp at h
  | _ :: _, [], k, _, i, o, io, h, _ => by simp at h
  | q :: l, p :: os, k, hk, i, o, io, ho, hio => by
    simp only [okLooks, Bool.and_eq_true, List.all_eq_true] at hk
    cases i with
    | zero =>
      simp at ho hio; subst ho hio
      intro t ht j jo hj hd
      have := hk.1 t ht j (List.mem_range.2 (List.getElem?_eq_some_iff.1 hj).1)
      simpa [hj, hd] using this
    | succ i =>
      have := okLooks_get hk.2 i o io (by simpa using ho) (by simpa using hio)
      have e : k + 1 + i = k + (i + 1) := by omega
      rw [e] at this; exact this

theorem okDsts_get : ∀ {l : List IOper}, okDsts l = true → ∀ (i j : Nat) (io jo : IOper) (t : Nat), i < j → l[i]? = some io → l[j]? = some jo → io.dst = some t → jo.dst ≠ some t
  | [], _, i, j, io, jo, t, _, h, _ => by simp at h
  | o :: l, hk, i, j, io, jo, t, hij, hi, hj => by
    simp only [okDsts, Bool.and_eq_true] at hk
    intro hd hd2
    obtain ⟨j, rfl⟩ : ∃ m, j = m + 1 := ⟨j - 1, by omega⟩
    have hj' : l[j]? = some jo := by simpa using hj
    cases i with
    | zero =>
      simp at hi; subst hi
      rw [hd] at hk
      have := List.all_eq_true.1 hk.1 jo (List.mem_of_getElem? hj')
      simp [hd2] at this
    | succ i => exact okDsts_get hk.2 i j io jo t (by omega) (by simpa using hi) hj' hd hd2

theorem drawOK_of {ops : Array Oper} {l : List IOper} (h : compRegion P ng ops.toList true = some l) : ∃ bef, DrawOK P ng ops l bef := by
  unfold compRegion at h
  split at h <;> try (cases h; done)
  rename_i l0 hc
  simp only [if_true] at h
  split at h <;> cases h
  rename_i hk
  simp only [Bool.and_eq_true] at hk
  obtain ⟨⟨⟨k1, k2⟩, k3⟩, k4⟩ := hk
  obtain ⟨hl, hg⟩ := compOps_get hc
  generalize befs [] ops.toList = bef at *
  have hq : ∀ (i : Nat) (io : IOper), (setQuiet bef l0 0 l0)[i]? = some io → ∃ io0, l0[i]? = some io0 ∧ io = setQ1 bef l0 i io0 := by
    intro i io h
    rw [setQuiet_get] at h
    simp only [Nat.zero_add, Option.map_eq_some_iff] at h
    obtain ⟨io0, h1, h2⟩ := h
    exact ⟨io0, h1, h2.symm⟩
  have hops : ∀ (i : Nat) (io0 : IOper), l0[i]? = some io0 → isStk io0.op = false ∧ io0.quiet = false := by
    intro i io0 h1
    have hil : i < ops.toList.length := by rw [← hl]; exact (List.getElem?_eq_some_iff.1 h1).1
    have := hg i _ io0 (List.getElem?_eq_getElem hil) h1
    exact ⟨this.2.2.2.2.2.2, this.2.2.2.2.2.1⟩
  refine ⟨bef, ?_, ?_, ?_, ?_, ?_, ?_, ?_, ?_⟩
  · rw [setQuiet_len, hl]; simp
  · intro i o io ho hio
    obtain ⟨io0, h1, rfl⟩ := hq i io hio
    obtain ⟨a1, a2, a3, a4, a5, a6, a7⟩ := hg i o io0 (by simpa using ho) h1
    obtain ⟨s1, s2, s3, s4, s5, _⟩ := setQ1_is bef l0 i io0 a7 a6
    exact ⟨by rw [s1]; exact a1, by rw [s3]; exact a2, by rw [s2]; exact a3, a4, by rw [s5]; exact a5⟩
  · intro i o ho e he hb
    have := (okEdges_get k1 i o (by simpa using ho)).1 e he hb
    simpa using this
  · intro i o j ho hj
    have := (okEdges_get k1 i o (by simpa using ho)).2
    rw [Nat.zero_add] at this
    rw [this] at hj
    rcases foldl_bit bef j _ 0 hj with h | ⟨e, he, h⟩
    · simp at h
    · exact ⟨e, by simpa using he, h⟩
  · intro i o io ho hio t ht j jo hj hd
    have := okLooks_get k2 i o io (by simpa using ho) hio t ht j jo hj hd
    simp only [Nat.zero_add, comparable, Bool.or_eq_true, beq_iff_eq] at this
    rcases this with (h | h) | h
    · exact .inl h
    · exact .inr (.inl h)
    · exact .inr (.inr h)
  · intro i j io jo t hi hj h1 h2
    rcases Nat.lt_trichotomy i j with h | h | h
    · exact absurd h2 (okDsts_get k3 i j io jo t h hi hj h1)
    · exact h
    · exact absurd h1 (okDsts_get k3 j i jo io t h hj hi h2)
  · intro i j io jo hi hn hj hh
    obtain ⟨io0, h1, rfl⟩ := hq i io hi
    obtain ⟨jo0, h2, rfl⟩ := hq j jo hj
    obtain ⟨z1, z2⟩ := hops i io0 h1
    obtain ⟨y1, y2⟩ := hops j jo0 h2
    have hjl : j < l0.length := (List.getElem?_eq_some_iff.1 h2).1
    have sj := setQ1_is bef l0 j jo0 y1 y2
    have hh' : heapy jo0 = true := by rw [← sj.2.2.2.1]; exact hh
    have cmp : comparable bef i j = true → i = j ∨ (bef.getD i 0).testBit j = true ∨ (bef.getD j 0).testBit i = true ∨ (j < i ∧ Crossed (setQuiet bef l0 0 l0) (setQ1 bef l0 i io0) j (setQ1 bef l0 j jo0)) := by
      intro h
      simp only [comparable, Bool.or_eq_true, beq_iff_eq] at h
      rcases h with (h | h) | h
      · exact .inl h
      · exact .inr (.inl h)
      · exact .inr (.inr (.inl h))
    rcases (setQ1_is bef l0 i io0 z1 z2).2.2.2.2.2.2.2.2.2 hn with ⟨hi0, hlone | ⟨n, a, x, ks, hop, hks⟩⟩
    · have := List.all_eq_true.1 hlone j (List.mem_range.2 hjl)
      simp only [h2, Option.map_some, Option.getD_some, hh', Bool.not_true, Bool.false_or] at this
      exact cmp this
    · rcases crossing_get hks j (List.mem_range.2 hjl) jo0 h2 hh' with h | ⟨hji, m, y, hr, hmem, hun⟩
      · exact cmp h
      · refine .inr (.inr (.inr ⟨hji, n, a, x, ks, m, y, hop, hmem, by rw [sj.2.2.2.2.2.2.1]; exact hr, ?_⟩))
        rintro t rfl k ko hjk hko hd
        obtain ⟨ko0, h3, rfl⟩ := hq k ko hko
        obtain ⟨x1, x2⟩ := hops k ko0 h3
        rw [(setQ1_is bef l0 k ko0 x1 x2).2.1] at hd
        have hmem' : ko0 ∈ l0.drop j := by
          rw [List.mem_iff_getElem?]
          exact ⟨k - j, by rw [List.getElem?_drop, show j + (k - j) = k by omega]; exact h3⟩
        have := List.all_eq_true.1 hun ko0 hmem'
        rw [hd] at this
        simp at this
  · intro io hio hp
    obtain ⟨i, hi⟩ := List.mem_iff_getElem?.1 hio
    obtain ⟨io0, h1, rfl⟩ := hq i io hi
    obtain ⟨z1, z2⟩ := hops i io0 h1
    have s := setQ1_is bef l0 i io0 z1 z2
    exact s.2.2.2.2.2.2.2.2.1 (by rw [← s.2.2.2.2.2.2.2.1]; exact hp)

theorem exists_least (p : Nat → Prop) (h : ∃ n, p n) : ∃ n, p n ∧ ∀ m, p m → n ≤ m := by
  obtain ⟨n, hn⟩ := h
  induction n using Nat.strongRecOn with
  | _ n ih =>
    by_cases hx : ∃ m, m < n ∧ p m
    · obtain ⟨m, hm, hp⟩ := hx; exact ih m hm hp
    · exact ⟨n, hn, fun m hm => Nat.le_of_not_lt fun h => hx ⟨m, h, hm⟩⟩

open Classical in
noncomputable def least (p : Nat → Prop) : Nat := if h : ∃ n, p n then (exists_least p h).choose else 0

theorem least_spec {p : Nat → Prop} (h : ∃ n, p n) : p (least p) ∧ ∀ m, p m → least p ≤ m := by
  unfold least; rw [dif_pos h]; exact (exists_least p h).choose_spec

/-! ## Code -/

variable {S S0 : Nat → Prop} {ρ ρ0 : Place} {H H' H0 : Heap} {w w0 : World} {f f' : Fr} {a : Act}

theorem compRegion_text {ops : List Oper} {l : List IOper} (h : compRegion P ng ops false = some l) : compOps P ng ops ops = some l := by
  unfold compRegion at h
  split at h
  · rename_i l0 hc; simp at h; subst h; exact hc
  · cases h

theorem code_sound {call : CallFn} (hs : SoundCall P base ng call) (hm : P.follows .mixedOrders = true) : ∀ (n : Nat) (c : Code) (i : ICode), compC P ng c = some i → ∀ (ρ : Place) (H : Heap) (w : World) (f : Fr) (a : Act) (x : IExit) (f' : Fr) (H' : Heap),
    evalC call n i f H = some (x, f', H') → Rch base ng S0 ρ0 H0 w0 ρ H w f a → c.wp P (Post base ng S0 ρ0 H0 w0 x f' H') a w := by
  intro n
  induction n using Nat.strongRecOn with
  | _ n ih =>
  intro c i hc ρ H w f a x f' H' he r
  cases n with
  | zero => simp [evalC] at he
  | succ n =>
  cases c with
  | skip =>
    simp only [compC] at hc; cases hc
    simp only [evalC] at he; cases he
    exact wp_skip ⟨ρ, rfl, trivial, r⟩
  | region id ops draw =>
    simp only [compC, Option.map_eq_some_iff] at hc
    obtain ⟨l, hc, rfl⟩ := hc
    simp only [evalC] at he
    cases draw with
    | false =>
      have hc := compRegion_text hc
      refine wp_region ?_
      have := ops_text (S0 := S0) (ρ0 := ρ0) (H0 := H0) (w0 := w0) hs (ops := ops) ops.toList 0 l ρ H w f a x f' H' (fun i o h => by simpa using h) hc he r
      rw [List.range_eq_range']
      simpa using this
    | true =>
      obtain ⟨bef, d⟩ := drawOK_of hc
      exact wp_draw hs d he hm r
  | seq c1 c2 =>
    simp only [compC] at hc
    split at hc <;> cases hc
    rename_i i1 i2 h1 h2
    simp only [evalC] at he
    refine wp_seq ?_
    split at he
    · rename_i f1 H1 e1
      refine wp_mono (ih n (by omega) c1 _ h1 ρ H w f a _ _ _ e1 r) ?_
      rintro e a' w' ⟨ρ', rfl, _, r'⟩
      exact ih n (by omega) c2 _ h2 ρ' H1 w' f1 a' x f' H' he r'
    · rename_i hne
      refine wp_mono (ih n (by omega) c1 _ h1 ρ H w f a _ _ _ he r) ?_
      rintro e a' w' ⟨ρ', rfl, ho, r'⟩
      cases x with
      | normal => exact absurd he (hne f' H')
      | exit j => exact ⟨ρ', rfl, ho, r'⟩
      | ret => exact ⟨ρ', rfl, ho, r'⟩
      | panic ch => exact ⟨ρ', rfl, ho, r'⟩
  | cond c c1 c2 =>
    simp only [compC] at hc
    split at hc <;> try (cases hc; done)
    rename_i i1 i2 h1 h2
    split at hc <;> cases hc
    rename_i hok
    simp only [evalC] at he
    have hev := r.st.ev hok
    split at he <;> try (cases he; done)
    rename_i t ht
    refine wp_cond (t := t) (by rw [hev.1, ht]; simp [trV]) ?_
    cases t with
    | true => simp only [if_true] at he ⊢; exact ih n (by omega) c1 _ h1 ρ H w f a x f' H' he r
    | false => simp only [Bool.false_eq_true, if_false] at he ⊢; exact ih n (by omega) c2 _ h2 ρ H w f a x f' H' he r
  | block id c1 =>
    simp only [compC, Option.map_eq_some_iff] at hc
    obtain ⟨i1, h1, rfl⟩ := hc
    simp only [evalC] at he
    refine wp_block ?_
    split at he
    · rename_i j f1 H1 e1
      simp only [Option.some.injEq, Prod.mk.injEq] at he
      obtain ⟨hx, rfl, rfl⟩ := he
      refine wp_mono (ih n (by omega) c1 _ h1 ρ H w f a _ _ _ e1 r) ?_
      rintro e a' w' ⟨ρ', rfl, ho, r'⟩
      simp only [trX, Exit.inBlock]
      split at hx
      · rename_i hj
        rw [if_pos hj, ← hx]
        exact ⟨ρ', rfl, trivial, r'⟩
      · rename_i hj
        rw [if_neg hj, ← hx]
        exact ⟨ρ', rfl, trivial, r'⟩
    · rename_i hne
      refine wp_mono (ih n (by omega) c1 _ h1 ρ H w f a _ _ _ he r) ?_
      rintro e a' w' ⟨ρ', rfl, ho, r'⟩
      cases x with
      | normal => exact ⟨ρ', rfl, ho, r'⟩
      | exit j => exact absurd he (hne j f' H')
      | ret => exact ⟨ρ', rfl, ho, r'⟩
      | panic ch => exact ⟨ρ', rfl, ho, r'⟩
  | loop c1 =>
    simp only [compC, Option.map_eq_some_iff] at hc
    obtain ⟨i1, h1, rfl⟩ := hc
    let R : Nat → Act → World → Prop := fun k a w => k ≤ n + 1 ∧ ∃ ρ H f, Rch base ng S0 ρ0 H0 w0 ρ H w f a ∧ evalC call k (.loop i1) f H = some (x, f', H')
    let μ : Act → World → Nat := fun a w => least (fun k => R k a w)
    refine wp_loop (fun a w => ∃ k, R k a w) μ ⟨n + 1, Nat.le_refl _, ρ, H, f, r, he⟩ ?_
    intro a w hI
    obtain ⟨hk, ρ, H, f, r, he⟩ := (least_spec hI).1
    change evalC call (μ a w) (.loop i1) f H = some (x, f', H') at he
    change μ a w ≤ n + 1 at hk
    generalize μ a w = k at *
    cases k with
    | zero => simp [evalC] at he
    | succ k =>
      simp only [evalC] at he
      split at he
      · rename_i f1 H1 e1
        refine wp_mono (ih k (by omega) c1 _ h1 ρ H w f a _ _ _ e1 r) ?_
        rintro e a' w' ⟨ρ', rfl, _, r'⟩
        have hR : R k a' w' := ⟨by omega, ρ', H1, f1, r', he⟩
        refine ⟨⟨k, hR⟩, ?_⟩
        have := (least_spec (p := fun k => R k a' w') ⟨k, hR⟩).2 k hR
        show least (fun k => R k a' w') < k + 1
        omega
      · rename_i hne
        refine wp_mono (ih k (by omega) c1 _ h1 ρ H w f a _ _ _ he r) ?_
        rintro e a' w' ⟨ρ', rfl, ho, r'⟩
        cases x with
        | normal => exact absurd he (hne f' H')
        | exit j => exact ⟨ρ', rfl, ho, r'⟩
        | ret => exact ⟨ρ', rfl, ho, r'⟩
        | panic ch => exact ⟨ρ', rfl, ho, r'⟩
  | exit id =>
    simp only [compC] at hc; cases hc
    simp only [evalC] at he; cases he
    exact wp_exit ⟨ρ, rfl, trivial, r⟩
  | ret =>
    simp only [compC] at hc; cases hc
    simp only [evalC] at he; cases he
    exact wp_ret ⟨ρ, rfl, trivial, r⟩
  | _ => simp [compC] at hc

end Go.IM

namespace Go.IM
open Go Go.RowKit
set_option linter.unusedVariables false
set_option linter.unusedSimpArgs false

variable {P : Program} {base ng : Nat} {S S0 : Nat → Prop} {ρ ρ0 : Place} {H H' H0 : Heap} {w w0 : World} {f f' : Fr} {a : Act}

/-! ## Functions -/

def readRes (a : Act) : ResultVar → Sem Value
  | .tmp t => pure (a.tmps.getD t undef)
  | .cell b t => do loadVar t (← asAddr (a.tmps.getD b undef))

theorem res1_run {r : ResultVar} {i : IRes} {v : Value} (hc : compRes P r = some i) (st : St base ng S ρ H w f a) (h : res1 f H i = some v) :
    (readRes a r).run P w = .ok (trV ρ v) w ∧ okV S v := by
  have hg : ∀ t, a.tmps.getD t undef = trV ρ (f.getD t undef) := fun t => by rw [st.tmps]; exact getD_map_tr ρ f t
  cases r with
  | tmp t =>
    simp only [compRes] at hc; cases hc
    simp only [res1] at h; cases h
    exact ⟨by simp only [readRes, hg, Sem.run_pure], ok_getD st.ok t⟩
  | cell b t =>
    simp only [compRes] at hc
    split at hc
    · rename_i n ha hn
      cases hc
      simp only [res1] at h
      split at h <;> try (cases h; done)
      rename_i p hp
      split at h <;> try (cases h; done)
      rename_i c hr
      simp only [Option.map_eq_some_iff] at h
      obtain ⟨xs, hcut, rfl⟩ := h
      have hv := ok_getD st.ok b
      rw [hp] at hv; simp only [okV] at hv
      obtain ⟨c1, c2, c3⟩ := cut_some hcut
      have hl : (loadCells (at_ (ρ p.block) p.off) n).run P w = .ok (xs.map (trV ρ)).toArray w := by
        have := run_loadAt (P := P) (ρ p.block) p.off w (xs.map (trV ρ)) (fun k v hk => by
          simp only [List.getElem?_map, Option.map_eq_some_iff] at hk
          obtain ⟨u, hu, rfl⟩ := hk
          exact (st.rel.row_val hv.1 hr _ u (c3 k u hu)).1)
        rwa [List.length_map, c2] at this
      refine ⟨?_, ?_⟩
      · have hpp : a.tmps.getD b undef = .pointer (some (at_ (ρ p.block) p.off)) := by rw [hg, hp]; simp only [trV, trA_at hv.2]
        simp [readRes, hpp, trV, asAddr, loadVar, agr ha, szr hn, hl]
      · simp only [okV, one1_eq]
        intro x hx
        obtain ⟨i, hi, rfl⟩ := List.mem_iff_getElem.1 (show x ∈ xs by simpa using hx)
        exact (st.rel.row_val hv.1 hr _ _ (c3 i _ (List.getElem?_eq_getElem hi))).2
    · rename_i n ha hn
      cases hc
      simp only [res1] at h
      split at h <;> try (cases h; done)
      rename_i p hp
      split at h <;> try (cases h; done)
      rename_i c hr
      have hv := ok_getD st.ok b
      rw [hp] at hv; simp only [okV] at hv
      obtain ⟨h1, h2, h3⟩ := st.rel.row_val hv.1 hr p.off v h
      have hpp : a.tmps.getD b undef = .pointer (some (at_ (ρ p.block) p.off)) := by rw [hg, hp]; simp only [trV, trA_at hv.2]
      exact ⟨by simp [readRes, hpp, asAddr, loadVar, agr ha, h1], h2⟩
    · cases hc

theorem resAll_run : ∀ {rs : List ResultVar} {is : List IRes} {vs : List Value}, compRs P rs = some is → St base ng S ρ H w f a → resAll f H is = some vs →
    (rs.mapM (m := Sem) (readRes a)).run P w = .ok (vs.map (trV ρ)) w ∧ ∀ v ∈ vs, okV S v
  | [], is, vs, hc, st, h => by
    simp only [compRs] at hc; cases hc
    simp only [resAll] at h; cases h
    simp
  | r :: rs, is, vs, hc, st, h => by
    simp only [compRs] at hc
    split at hc <;> cases hc
    rename_i i is h1 h2
    simp only [resAll] at h
    split at h <;> cases h
    rename_i v vs h3 h4
    obtain ⟨a1, a2⟩ := res1_run h1 st h3
    obtain ⟨b1, b2⟩ := resAll_run h2 st h4
    refine ⟨?_, fun u hu => ?_⟩
    · rw [List.mapM_cons]
      simp only [Sem.run_bind, a1]
      simp only [Result.andThen_ok, b1, Sem.run_pure, List.map_cons]
    · rcases List.mem_cons.1 hu with rfl | hu
      · exact a2
      · exact b2 u hu

theorem results_run {fn : Func} {is : List IRes} {vs : List Value} (hc : compRs P fn.results.toList = some is) (st : St base ng S ρ H w f a) (h : resAll f H is = some vs) :
    (results fn a.tmps).run P w = .ok (trV ρ (one vs)) w ∧ okV S (one vs) := by
  obtain ⟨h1, h2⟩ := resAll_run hc st h
  constructor
  · have hres : results fn a.tmps = (do
        let vs ← fn.results.mapM (readRes a)
        pure (if h : vs.size = 1 then vs[0] else .tuple vs)) := by
      unfold results
      congr 1
    rw [hres, Array.mapM_eq_mapM_toList]
    simp only [bind_map_left, Sem.run_bind]
    rw [h1]
    simp only [Result.andThen_ok, Sem.run_pure, List.size_toArray, List.length_map]
    congr 1
    cases vs with
    | nil => simp [one, trV]
    | cons v vs =>
      cases vs with
      | nil => simp [one]
      | cons u vs => simp [one, trV]
  · cases vs with
    | nil => simp [one, okV]
    | cons v vs =>
      cases vs with
      | nil => exact h2 v (by simp)
      | cons u vs => simp only [one, okV]; intro x hx; exact h2 x (by simpa using hx)

theorem post_call {call : CallFn} (hs : SoundCall P base ng call) (hm : P.follows .mixedOrders = true) {F : FuncId} {g : Func} {fn : IFn} (hF : P.funcs[F]? = some g) (hc : compFn P ng g = some fn) {n : Nat} {args : List Value} {e : IEnd}
    (he : (match evalC call n fn.code (args ++ List.replicate (fn.ntmps - args.length) undef) H with
      | some (.normal, f, H') | some (.ret, f, H') => match resAll f H' fn.results with
        | some vs => some (IEnd.ret (one vs), H')
        | none => none
      | some (.panic ch, _, H') => some (.pan ch, H')
      | _ => none) = some (e, H')) :
    (∀ as w, (callFunc F as).run P w = .ok (.enter F as) w) ∧ ∀ S ρ w, HRel base ng S ρ H w → (∀ v ∈ args, okV S v) →
      Calls P F (args.map (trV ρ)).toArray w fun E w' => ∃ ρ', E = trEnd ρ' e ∧ HRel base ng (grow S H H') ρ' H' w' ∧ Ext S ρ H w (grow S H H') ρ' H' w' ∧ okEnd (grow S H H') e := by
  unfold compFn at hc
  split at hc <;> try (cases hc; done)
  rename_i c hb
  split at hc
  · cases hc
  rename_i hname
  split at hc <;> cases hc
  rename_i ci rs h1 h2
  have hname' : ¬ g.name = "runtime.NumGoroutine" := by simpa using hname
  refine ⟨fun as w => by simp [callFunc, hF, hname', hb], fun S ρ w h hok => ?_⟩
  have r0 : Rch base ng S ρ H w ρ H w (args ++ List.replicate (g.ntmps - args.length) undef)
      { tmps := (args.map (trV ρ)).toArray ++ Array.replicate (g.ntmps - (args.map (trV ρ)).toArray.size) undef, defers := [] } := by
    refine ⟨⟨by rw [grow_same rfl]; exact h, ?_, rfl, ?_⟩, by rw [grow_same rfl]; exact Ext.refl _ _ _ _, Nat.le_refl _⟩
    · apply Array.ext'
      simp
    · rw [grow_same rfl]
      intro v hv
      rcases List.mem_append.1 hv with hv | hv
      · exact hok v hv
      · rw [(List.mem_replicate.1 hv).2]; simp
  have fin : ∀ (x : IExit) (f' : Fr) (v : IEnd), evalC call n ci (args ++ List.replicate (g.ntmps - args.length) undef) H = some (x, f', H') →
      (∀ E a' w', Post base ng S ρ H w x f' H' E a' w' → bodyPost P g (fun E w' => ∃ ρ', E = trEnd ρ' e ∧ HRel base ng (grow S H H') ρ' H' w' ∧ Ext S ρ H w (grow S H H') ρ' H' w' ∧ okEnd (grow S H H') e) E a' w') →
      Calls P F (args.map (trV ρ)).toArray w fun E w' => ∃ ρ', E = trEnd ρ' e ∧ HRel base ng (grow S H H') ρ' H' w' ∧ Ext S ρ H w (grow S H H') ρ' H' w' ∧ okEnd (grow S H H') e := by
    intro x f' v hev hpost
    refine calls_of_wp hF hb ?_
    exact wp_mono (code_sound hs hm n c ci h1 ρ H w _ _ x f' H' hev r0) hpost
  have good : ∀ (f' : Fr) (H1 : Heap), (match resAll f' H1 rs with
        | some vs => some (IEnd.ret (one vs), H1)
        | none => none) = some (e, H') → ∃ vs, resAll f' H1 rs = some vs ∧ e = .ret (one vs) ∧ H1 = H' := by
    intro f' H1 hh
    split at hh <;> cases hh
    rename_i vs hvs
    exact ⟨vs, hvs, rfl, rfl⟩
  simp only at he
  split at he
  · rename_i f' H1 hev
    obtain ⟨vs, hvs, rfl, rfl⟩ := good f' H1 he
    refine fin .normal f' (.ret (one vs)) hev fun E a' w' hp => ?_
    obtain ⟨ρ', rfl, _, r⟩ := hp
    obtain ⟨q1, q2⟩ := results_run h2 r.st hvs
    exact ⟨r.st.defs, _, q1, ρ', rfl, r.st.rel, r.ext, q2⟩
  · rename_i f' H1 hev
    obtain ⟨vs, hvs, rfl, rfl⟩ := good f' H1 he
    refine fin .ret f' (.ret (one vs)) hev fun E a' w' hp => ?_
    obtain ⟨ρ', rfl, _, r⟩ := hp
    obtain ⟨q1, q2⟩ := results_run h2 r.st hvs
    exact ⟨r.st.defs, _, q1, ρ', rfl, r.st.rel, r.ext, q2⟩
  · rename_i ch f' H1 hev
    cases he
    refine fin (.panic ch) f' (.pan ch) hev fun E a' w' hp => ?_
    obtain ⟨ρ', rfl, ho, r⟩ := hp
    exact ⟨r.st.defs, ρ', rfl, r.st.rel, r.ext, ho⟩
  · cases he

theorem evalOps_len {call : CallFn} (hs : SoundCall P base ng call) {draw : Bool} : ∀ (l : List IOper) (f : Fr) (H : Heap) (x : IExit) (f' : Fr) (H' : Heap), evalOps call draw l f H = some (x, f', H') → H.length ≤ H'.length
  | [], f, H, x, f', H', h => by simp only [evalOps] at h; cases h; exact Nat.le_refl _
  | o :: l, f, H, x, f', H', h => by
    by_cases hw : wants o.guard f = true
    · by_cases hp : plainOp o.op = true
      · rw [evalOps_plain hp hw] at h
        split at h
        · rename_i p hio
          split at h
          · cases h
          · exact Nat.le_trans (iop_len hio) (evalOps_len hs l _ _ x f' H' h)
        · cases h
      · simp only [evalOps, hw, if_true] at h
        split at h
        · split at h
          · split at h
            · rename_i hc
              split at h
              · cases h
              · exact Nat.le_trans (hs _ _ _ _ _ hc).1 (evalOps_len hs l _ _ x f' H' h)
            · rename_i hc
              split at h
              · cases h
              · cases h; exact (hs _ _ _ _ _ hc).1
            · cases h
          · cases h
        · split at h
          · split at h
            · cases h
            · cases h; exact Nat.le_refl _
          · cases h
        · split at h
          · rename_i hio
            split at h
            · cases h
            · exact Nat.le_trans (iop_len hio) (evalOps_len hs l _ _ x f' H' h)
          · cases h
    · simp only [evalOps, hw, Bool.false_eq_true, if_false] at h
      exact evalOps_len hs l _ _ x f' H' h

theorem evalC_len {call : CallFn} (hs : SoundCall P base ng call) : ∀ (n : Nat) (i : ICode) (f : Fr) (H : Heap) (x : IExit) (f' : Fr) (H' : Heap), evalC call n i f H = some (x, f', H') → H.length ≤ H'.length := by
  intro n
  induction n with
  | zero => intro i f H x f' H' h; simp [evalC] at h
  | succ n ih =>
    intro i f H x f' H' h
    cases i with
    | skip => simp only [evalC] at h; cases h; exact Nat.le_refl _
    | ops d l => exact evalOps_len hs l f H x f' H' (by simpa only [evalC] using h)
    | seq a b =>
      simp only [evalC] at h
      split at h
      · rename_i hc; exact Nat.le_trans (ih _ _ _ _ _ _ hc) (ih _ _ _ _ _ _ h)
      · exact ih _ _ _ _ _ _ h
    | cond c a b =>
      simp only [evalC] at h
      split at h
      · split at h <;> exact ih _ _ _ _ _ _ h
      · cases h
    | block j a =>
      simp only [evalC] at h
      split at h
      · rename_i hc
        simp only [Option.some.injEq, Prod.mk.injEq] at h
        obtain ⟨_, _, rfl⟩ := h
        exact ih _ _ _ _ _ _ hc
      · exact ih _ _ _ _ _ _ h
    | loop a =>
      simp only [evalC] at h
      split at h
      · rename_i hc; exact Nat.le_trans (ih _ _ _ _ _ _ hc) (ih _ _ _ _ _ _ h)
      · exact ih _ _ _ _ _ _ h
    | exit j => simp only [evalC] at h; cases h; exact Nat.le_refl _
    | ret => simp only [evalC] at h; cases h; exact Nat.le_refl _

theorem evalF_sound {tab : FuncId → Option IFn} (ht : ∀ F fn, tab F = some fn → tabP P ng F = some fn) {hook : CallFn} (hh : SoundCall P base ng hook) (hm : P.follows .mixedOrders = true) : ∀ n, SoundCall P base ng (evalF tab hook n) := by
  intro n
  induction n with
  | zero => intro F args H e H' h; simp [evalF] at h
  | succ n ih =>
    intro F args H e H' h
    simp only [evalF] at h
    split at h
    · exact hh F args H e H' h
    · rename_i fn htab
      obtain ⟨g, hF, hc⟩ := Option.bind_eq_some_iff.1 (ht F fn htab)
      have := post_call ih hm hF hc h
      refine ⟨?_, this⟩
      split at h
      · rename_i hc; split at h <;> cases h; exact evalC_len ih _ _ _ _ _ _ _ hc
      · rename_i hc; split at h <;> cases h; exact evalC_len ih _ _ _ _ _ _ _ hc
      · rename_i hc; cases h; exact evalC_len ih _ _ _ _ _ _ _ hc
      · cases h

/-- No calls besides those of the table. -/
def noHook : CallFn := fun _ _ _ => none
theorem noHook_sound : SoundCall P base ng noHook := fun _ _ _ _ _ h => by cases h

/-- A function's body, with what its calls do. -/
noncomputable def runF (call : CallFn) (n : Nat) (fn : IFn) (args : List Value) (H : Heap) : Option (IEnd × Heap) :=
  match evalC call n fn.code (args ++ List.replicate (fn.ntmps - args.length) undef) H with
  | some (.normal, f, H') | some (.ret, f, H') => match resAll f H' fn.results with
    | some vs => some (.ret (one vs), H')
    | none => none
  | some (.panic ch, _, H') => some (.pan ch, H')
  | _ => none

theorem evalF_run {tab : FuncId → Option IFn} {hook : CallFn} {n : Nat} {F : FuncId} {fn : IFn} (h : tab F = some fn) (args : List Value) (H : Heap) : evalF tab hook (n + 1) F args H = runF (evalF tab hook n) n fn args H := by
  simp only [evalF, h]
  rfl

/-! ## Laws -/

theorem rel_none (ρ : Place) (w : World) : HRel w.heap.size 0 (fun _ => False) ρ [] w :=
  ⟨Nat.le_refl _, fun g hg => absurd hg (Nat.not_lt_zero _), fun i hi => hi.elim, fun i _ _ _ hi => hi.elim, fun i _ _ hi => hi.elim, fun i _ hi => hi.elim⟩

/-- What lies elsewhere stays. -/
theorem HRel.aside {w' : World} (h : HRel base ng S ρ H w) (hsz : w.heap.size ≤ w'.heap.size) (hb : ∀ b, b < w.heap.size → w'.heap[b]? = w.heap[b]?) : HRel base ng S ρ H w' := by
  have keep : ∀ i, S i → live H i → ∀ o, w.heap[(ρ i).blk]? = some o → w'.heap[(ρ i).blk]? = some o := fun i hi hl o ho => by
    rw [hb _ (h.lt_of_live hi hl)]; exact ho
  exact ⟨Nat.le_trans h.low hsz, h.glob, h.vis, fun i c ro lo hi hc => (h.cells i c ro lo hi hc).move (fun _ h => h) (fun _ _ => rfl) hi (keep i hi (.inl ⟨c, ro, lo, hc⟩)) hsz,
    fun i es k hi hc => (h.maps i es k hi hc).move (fun _ h => h) (fun _ _ => rfl) hi (keep i hi (.inr ⟨es, k, hc⟩)), h.sep⟩

theorem map_flat {args : List Value} (h : ∀ v ∈ args, flat1 v = true) (ρ : Place) : args.map (trV ρ) = args := by
  have : args.map (trV ρ) = args.map id := List.map_congr_left fun v hv => (flat1_tr (h v hv) ρ (fun _ => False)).1
  simpa using this

/-- A call without arguments, known by its value. -/
def closedHook (K : FuncId) (v : Value) : CallFn := fun F args H => if F == K && args.isEmpty then some (.ret v, H) else none

theorem closed_sound {tab : FuncId → Option IFn} (ht : ∀ F fn, tab F = some fn → tabP P 0 F = some fn) (hm : P.follows .mixedOrders = true) {n : Nat} {K : FuncId} {v : Value} (hv : flat1 v = true)
    (he : evalF tab noHook n K [] [] = some (.ret v, H')) : SoundCall P base 0 (closedHook K v) := by
  intro F args H e H2 h
  unfold closedHook at h
  split at h <;> cases h
  rename_i hk
  simp only [Bool.and_eq_true, beq_iff_eq, List.isEmpty_iff] at hk
  obtain ⟨rfl, rfl⟩ := hk
  refine ⟨Nat.le_refl _, ((evalF_sound ht (base := 0) noHook_sound hm n) _ _ _ _ _ he).2.1, fun S ρ w hr _ => ?_⟩
  have := ((evalF_sound ht (base := w.heap.size) noHook_sound hm n) _ _ _ _ _ he).2.2 (fun _ => False) ρ w (rel_none ρ w) (by simp)
  refine Calls.mono this fun E w' hE => ?_
  obtain ⟨ρ', rfl, h1, h2, _⟩ := hE
  have hb : ∀ b, b < w.heap.size → w'.heap[b]? = w.heap[b]? := fun b hb => h2.frame b hb fun ⟨i, hi, _⟩ => hi.elim
  refine ⟨ρ, ?_, ?_, ?_, ?_⟩
  · simp only [trEnd, (flat1_tr hv ρ S).1, (flat1_tr hv ρ' S).1]
  · rw [grow_same rfl]; exact hr.aside h2.size hb
  · rw [grow_same rfl]
    exact ⟨fun _ h => h, fun _ _ => rfl, h2.size, fun b _ h => h, fun b hlt _ => hb b hlt, h2.os, h2.tape, h2.output⟩
  · exact (flat1_tr hv ρ _).2.1

/-- A function of plain values, with its answer. -/
theorem plain_law {tab : FuncId → Option IFn} (ht : ∀ F fn, tab F = some fn → tabP P 0 F = some fn) (hm : P.follows .mixedOrders = true) {hook : CallFn} (hh : ∀ base, SoundCall P base 0 hook) {n : Nat} {F : FuncId} {args : List Value} {v : Value}
    (ha : ∀ v ∈ args, flat1 v = true) (hv : flat1 v = true) (he : evalF tab hook n F args [] = some (.ret v, H')) (w : World) :
    Calls P F args.toArray w fun e w' => e = .returned v ∧ Below w.heap.size w w' := by
  have := ((evalF_sound ht (hh w.heap.size) hm n) _ _ _ _ _ he).2.2 (fun _ => False) (fun _ => default) w (rel_none _ w) (fun v hv => (flat1_tr (ha v hv) (fun _ => default) _).2.1)
  rw [map_flat ha] at this
  refine Calls.mono this fun E w' hE => ?_
  obtain ⟨ρ', rfl, h1, h2, _⟩ := hE
  exact ⟨by simp only [trEnd, (flat1_tr hv ρ' (fun _ => False)).1], Ext.below (rel_none _ w) h2⟩

end Go.IM
