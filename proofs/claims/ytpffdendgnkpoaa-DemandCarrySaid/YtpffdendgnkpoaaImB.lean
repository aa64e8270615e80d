/- The ideal machine's operations are the model's: arithmetic, comparisons, addresses, loads, new blocks. For every program. -/
import Derived.Test.YtpffdendgnkpoaaImA
import Derived.Laws.StructEq
import Derived.Laws.Tables
set_option linter.unusedSimpArgs false
namespace Go.IM
open Go Go.RowKit

variable {P : Program} {base ng : Nat} {S : Nat → Prop} {ρ : Place} {H H' : Heap} {w : World} {f : Fr} {o : Oper} {v : Value}

/-- What an operation does to the two memories. -/
def Sim (P : Program) (base ng : Nat) (S : Nat → Prop) (ρ : Place) (H : Heap) (w : World) (s : Sem Next) (v : Value) (H' : Heap) : Prop :=
  ∃ ρ' w' n, s.run P w = .ok n w' ∧ (n = .value (trV ρ' v) ∨ (n = .skip ∧ v = undef)) ∧ HRel base ng (grow S H H') ρ' H' w' ∧
    Ext S ρ H w (grow S H H') ρ' H' w' ∧ okV (grow S H H') v

theorem Sim.same (h : HRel base ng S ρ H w) {s : Sem Next} (hs : s.run P w = .ok (.value (trV ρ v)) w) (hv : okV S v) : Sim P base ng S ρ H w s v H := by
  refine ⟨ρ, w, _, hs, .inl rfl, ?_, ?_, ?_⟩ <;> rw [grow_same rfl]
  · exact h
  · exact Ext.refl _ _ _ _
  · exact hv

theorem Sim.pureV (h : HRel base ng S ρ H w) {s : Sem Value} (hs : s.run P w = .ok (trV ρ v) w) (hv : okV S v) :
    Sim P base ng S ρ H w (do pure (Next.value (← s))) v H :=
  Sim.same h (by simp [hs]) hv

theorem sim_mov {x : Operand} (hop : o.op = .move x ∨ o.op = .assign x) (h : HRel base ng S ρ H w) (hx : okV S (ev f x)) :
    Sim P base ng S ρ H w (execOp (fun x => trV ρ (ev f x)) o) (ev f x) H := by
  refine Sim.same h ?_ hx
  rcases hop with hop | hop <;> simp [execOp, hop]

theorem sim_pick {c a b : Operand} {t : Bool} (hop : o.op = .pick c a b) (h : HRel base ng S ρ H w) (ha : okV S (ev f a)) (hb : okV S (ev f b)) (hc : ev f c = .bool t) :
    Sim P base ng S ρ H w (execOp (fun x => trV ρ (ev f x)) o) (if t then ev f a else ev f b) H := by
  refine Sim.same h ?_ (by cases t <;> simpa)
  cases t <;> simp [execOp, hop, hc, trV, asBool]

theorem trV_int (ρ : Place) (k : IntKind) (n : Int) : trV ρ (.int k n) = .int k n := by simp [trV]
theorem trV_bool (ρ : Place) (b : Bool) : trV ρ (.bool b) = .bool b := by simp [trV]
theorem trV_string (ρ : Place) (b : ByteArray) : trV ρ (.string b) = .string b := by simp [trV]

theorem ibits_run {k : IntKind} {op : BinOp} {x y : Int} {v : Value} (h : ibits k op x y = some v) (w : World) : (Op.intBits op k x y).run P w = .ok v w ∧ ∃ n, v = .int k n := by
  unfold ibits at h
  cases op <;> simp at h <;> subst h <;> exact ⟨by simp [Op.intBits], _, rfl⟩

theorem sim_una {op : UnOp} {t : TypeId} {x : Operand} (hop : o.op = .unOp op t x) (h : HRel base ng S ρ H w) (he : iuna op (ev f x) = some v) :
    Sim P base ng S ρ H w (execOp (fun x => trV ρ (ev f x)) o) v H := by
  have key : (Op.unary op (trV ρ (ev f x))).run P w = .ok (trV ρ v) w ∧ okV S v := by
    generalize ev f x = a at *
    unfold iuna at he
    split at he
    · cases he; simp [trV, Op.unary, Op.intArith, okV]
    · rename_i k n
      obtain ⟨h1, m, h2⟩ := ibits_run (P := P) he w
      subst h2; simp [trV, Op.unary, okV, h1]
    · cases he; simp [trV, Op.unary, okV]
    · cases he
  have := Sim.pureV (P := P) h key.1 key.2
  simpa [execOp, hop] using this

theorem icmp_run {op : BinOp} {a b : Int} {t : Bool} (h : icmp op a b = some t) (w : World) : (Op.intCmp op a b).run P w = .ok (.bool t) w := by
  unfold icmp at h
  cases op <;> simp at h <;> subst h <;> simp [Op.intCmp]

theorem ibin_int {op : BinOp} {t : TypeId} {k k' : IntKind} {a b : Int} {v : Value} (h : ibin op (.int k a) (.int k' b) = some v) (w : World) :
    (binOp op t (.int k a) (.int k' b)).run P w = .ok v w ∧ ((∃ k n, v = .int k n) ∨ (∃ b, v = .bool b)) := by
  by_cases hsh : op = .shl ∨ op = .shr
  · rcases hsh with rfl | rfl <;>
    · simp only [ibin] at h
      split at h
      · cases h
      · rename_i hb; cases h; exact ⟨by simp [binOp, Op.shift, hb], .inl ⟨_, _, rfl⟩⟩
  · by_cases hk : k = k'
    · subst hk
      have hib : ∀ op', op = op' → ibits k op' a b = some v → (binOp op t (.int k a) (.int k b)).run P w = .ok v w ∧ ((∃ k n, v = .int k n) ∨ (∃ b, v = .bool b)) := by
        rintro op' rfl hh
        obtain ⟨h1, m, h2⟩ := ibits_run (P := P) hh w
        subst h2
        refine ⟨?_, .inl ⟨_, _, rfl⟩⟩
        cases op <;> first | (simp [ibits] at hh; done) | simpa [binOp] using h1
      have hic : ∀ op', op = op' → (icmp op' a b).map bv = some v → (binOp op t (.int k a) (.int k b)).run P w = .ok v w ∧ ((∃ k n, v = .int k n) ∨ (∃ b, v = .bool b)) := by
        rintro op' rfl hh
        cases hc : icmp op a b with
        | none => simp [hc] at hh
        | some t' =>
          simp [hc, bv] at hh; subst hh
          have hr := icmp_run (P := P) hc w
          refine ⟨?_, .inr ⟨_, rfl⟩⟩
          cases op <;> first | (simp [icmp] at hc; done) | simpa [binOp] using hr
      cases op with
      | shl => exact absurd (.inl rfl) hsh
      | shr => exact absurd (.inr rfl) hsh
      | add => simp [ibin] at h; subst h; exact ⟨by simp [binOp, Op.intArith], .inl ⟨_, _, rfl⟩⟩
      | sub => simp [ibin] at h; subst h; exact ⟨by simp [binOp, Op.intArith], .inl ⟨_, _, rfl⟩⟩
      | mul => simp [ibin] at h; subst h; exact ⟨by simp [binOp, Op.intArith], .inl ⟨_, _, rfl⟩⟩
      | quo => simp [ibin] at h; obtain ⟨hb, h⟩ := h; subst h; exact ⟨by simp [binOp, Op.intDiv, hb], .inl ⟨_, _, rfl⟩⟩
      | rem => simp [ibin] at h; obtain ⟨hb, h⟩ := h; subst h; exact ⟨by simp [binOp, Op.intDiv, hb], .inl ⟨_, _, rfl⟩⟩
      | and => exact hib _ rfl (by simpa [ibin] using h)
      | or => exact hib _ rfl (by simpa [ibin] using h)
      | xor => exact hib _ rfl (by simpa [ibin] using h)
      | andNot => exact hib _ rfl (by simpa [ibin] using h)
      | eql => exact hic _ rfl (by simpa [ibin] using h)
      | neq => exact hic _ rfl (by simpa [ibin] using h)
      | lss => exact hic _ rfl (by simpa [ibin] using h)
      | leq => exact hic _ rfl (by simpa [ibin] using h)
      | gtr => exact hic _ rfl (by simpa [ibin] using h)
      | geq => exact hic _ rfl (by simpa [ibin] using h)
    · cases op <;> first | (exact absurd (.inl rfl) hsh) | (exact absurd (.inr rfl) hsh) | (simp [ibin, hk] at h)

theorem ibin_str {op : BinOp} {t : TypeId} {a b : ByteArray} {v : Value} (h : ibin op (.string a) (.string b) = some v) (w : World) :
    (binOp op t (.string a) (.string b)).run P w = .ok v w ∧ ((∃ b, v = .bool b) ∨ (∃ s, v = .string s)) := by
  cases op with
  | add =>
    simp only [ibin] at h
    split at h
    · rename_i hsz
      cases h
      refine ⟨?_, .inr ⟨_, rfl⟩⟩
      have : ¬ ((a.size + b.size : Nat) : Int) > IntKind.i64.max := by
        have : IntKind.i64.max = 9223372036854775807 := by decide
        rw [this]; omega
      simp only [binOp, Op.stringOp]
      rw [if_neg this]; rfl
    · cases h
  | _ => first
    | (simp [ibin] at h; done)
    | (simp only [ibin, Option.some.injEq] at h; subst h; exact ⟨by simp [binOp, Op.stringOp, bne], .inl ⟨_, rfl⟩⟩)

theorem ibin_run {op : BinOp} {t : TypeId} {x y v : Value} (h : ibin op x y = some v) (w : World) :
    (binOp op t x y).run P w = .ok v w ∧ ((∃ k n, v = .int k n) ∨ (∃ b, v = .bool b) ∨ (∃ s, v = .string s)) ∧ ((∃ k n, x = .int k n) ∨ (∃ s, x = .string s)) ∧ ((∃ k n, y = .int k n) ∨ (∃ s, y = .string s)) := by
  cases x with
  | int k a => cases y with
    | int k' b =>
      obtain ⟨h1, h2⟩ := ibin_int (P := P) (t := t) h w
      exact ⟨h1, h2.imp id .inl, .inl ⟨_, _, rfl⟩, .inl ⟨_, _, rfl⟩⟩
    | _ => cases op <;> simp [ibin] at h
  | string a => cases y with
    | string b =>
      obtain ⟨h1, h2⟩ := ibin_str (P := P) (t := t) h w
      exact ⟨h1, .inr h2, .inr ⟨_, rfl⟩, .inr ⟨_, rfl⟩⟩
    | _ => cases op <;> simp [ibin] at h
  | _ => cases op <;> simp [ibin] at h

theorem eqGuard_scal {op : BinOp} {t : TypeId} {x y : Operand} {a b : Value} (ha : (∃ k n, a = .int k n) ∨ (∃ s, a = .string s)) (w : World) :
    (eqGuard op t x y a b).run P w = .ok () w := by
  unfold eqGuard
  rcases ha with ⟨k, n, rfl⟩ | ⟨s, rfl⟩ <;> cases op <;> simp

theorem sim_bin {op : BinOp} {t u : TypeId} {x y : Operand} (hop : o.op = .binOp op t x y u) (h : HRel base ng S ρ H w) (he : ibin op (ev f x) (ev f y) = some v) :
    Sim P base ng S ρ H w (execOp (fun x => trV ρ (ev f x)) o) v H := by
  obtain ⟨h1, h2, h3, h4⟩ := ibin_run (P := P) (t := t) he w
  have hx : trV ρ (ev f x) = ev f x := by rcases h3 with ⟨k, n, e⟩ | ⟨s, e⟩ <;> rw [e] <;> simp [trV]
  have hy : trV ρ (ev f y) = ev f y := by rcases h4 with ⟨k, n, e⟩ | ⟨s, e⟩ <;> rw [e] <;> simp [trV]
  have hv : trV ρ v = v := by rcases h2 with ⟨k, n, e⟩ | ⟨b, e⟩ | ⟨s, e⟩ <;> rw [e] <;> simp [trV]
  have hok : okV S v := by rcases h2 with ⟨k, n, e⟩ | ⟨b, e⟩ | ⟨s, e⟩ <;> rw [e] <;> simp [okV]
  refine Sim.same h ?_ hok
  simp [execOp, hop, hx, hy, hv, eqGuard_scal h3, h1]

end Go.IM

set_option linter.unusedSimpArgs false
namespace Go.IM
open Go Go.RowKit

variable {P : Program} {base ng : Nat} {S : Nat → Prop} {ρ : Place} {H H' : Heap} {w : World} {f : Fr} {o : Oper} {v : Value}

theorem seqs_length {ks : List Leaf} {xs ys : List Value} {b : Bool} (h : seqs ks xs ys = some b) : xs.length = ks.length ∧ ys.length = ks.length := by
  induction ks generalizing xs ys b with
  | nil => cases xs <;> cases ys <;> simp [seqs] at *
  | cons k ks ih =>
    cases xs with
    | nil => simp [seqs] at h
    | cons x xs =>
      cases ys with
      | nil => simp [seqs] at h
      | cons y ys =>
        simp only [seqs] at h
        split at h
        · rename_i a c h1 h2
          have := ih h2
          simp [this.1, this.2]
        · cases h

theorem seqs_append {k1 k2 : List Leaf} {xs ys : List Value} {b : Bool} (h : seqs (k1 ++ k2) xs ys = some b) :
    ∃ b1 b2, seqs k1 (xs.take k1.length) (ys.take k1.length) = some b1 ∧ seqs k2 (xs.drop k1.length) (ys.drop k1.length) = some b2 ∧ b = (b1 && b2) := by
  induction k1 generalizing xs ys b with
  | nil => exact ⟨true, b, by simp [seqs], by simpa using h, by simp⟩
  | cons k k1 ih =>
    cases xs with
    | nil => simp [seqs] at h
    | cons x xs =>
      cases ys with
      | nil => simp [seqs] at h
      | cons y ys =>
        simp only [List.cons_append, seqs] at h
        split at h
        · rename_i a c h1 h2
          cases h
          obtain ⟨b1, b2, e1, e2, rfl⟩ := ih h2
          exact ⟨a && b1, b2, by simp [seqs, h1, e1], by simpa using e2, by rw [Bool.and_assoc]⟩
        · cases h

/-- The value of so many cells. -/
def vOf (agg : Bool) (xs : List Value) : Value := if agg then .agg xs.toArray else xs.headD undef

def agB : TypeDesc → Bool
  | .struct _ | .array _ _ => true
  | _ => false

theorem run_part {t : TypeId} {d : TypeDesc} {k : Nat} (hd : P.underlying t = some d) (hs : szO P t = some k) (hk : agB d = false → k = 1) {cs : List Value} {off : Nat} (hc : off + k ≤ cs.length) (w : World) :
    (part t cs.toArray off).run P w = .ok (vOf (agB d) ((cs.drop off).take k)) w := by
  have ha : agO P t = some (agB d) := by unfold agO; rw [hd]; cases d <;> rfl
  simp only [part, Sem.run_bind, agr ha, Result.andThen_ok]
  cases hb : agB d with
  | true =>
    simp only [if_true, Sem.run_bind, szr hs, Result.andThen_ok, Sem.run_pure, vOf]
    congr 2
    apply Array.ext'
    simp
  | false =>
    have hk1 := hk hb
    subst hk1
    simp only [Bool.false_eq_true, if_false, vOf]
    have : cs.toArray[off]? = some cs[off] := by simp
    rw [this]
    simp only [Sem.run_pure]
    have h1 : (cs.drop off).take 1 = [cs[off]] := by rw [List.drop_eq_getElem_cons (by omega)]; rfl
    rw [h1]; rfl

def EqOk (P : Program) (n : Nat) : Prop := ∀ (t : TypeId) (d : Nat) (ks : List Leaf) (dd : TypeDesc), n ≤ d → flatL P n t = some ks → P.underlying t = some dd →
  szO P t = some ks.length ∧ (agB dd = false → ks.length = 1) ∧ ∀ (xs ys : List Value) (b : Bool) (w : World), seqs ks xs ys = some b →
    (Op.equalIn d t (vOf (agB dd) xs) (vOf (agB dd) ys)).run P w = .ok b w

theorem flatL_und {n : Nat} {t : TypeId} {ks : List Leaf} (h : flatL P n t = some ks) : ∃ dd, P.underlying t = some dd := by
  cases n with
  | zero => simp [flatL] at h
  | succ n =>
    unfold flatL at h
    cases hu : P.underlying t with
    | none => simp [hu] at h
    | some dd => exact ⟨dd, rfl⟩

theorem eqFields_run {n : Nat} (ih : EqOk P n) (d : Nat) (hd : n ≤ d) : ∀ (fs : List Field) (off : Nat) (ks : List Leaf) (xs ys : List Value) (b : Bool) (w : World), flatF (flatL P n) fs off = some ks →
      seqs ks (xs.drop off) (ys.drop off) = some b → (Op.eqFields d xs.toArray ys.toArray fs).run P w = .ok b w
  | [], off, ks, xs, ys, b, w, hf, h => by
    simp only [flatF, Option.some.injEq] at hf
    subst hf
    have := seqs_length h
    simp at this
    rw [List.drop_eq_nil_iff.2 (by omega), List.drop_eq_nil_iff.2 (by omega)] at h
    simp [seqs] at h; subst h; rfl
  | g :: fs, off, ks, xs, ys, b, w, hf, h => by
    simp only [flatF] at hf
    split at hf
    · rename_i hg
      cases hl : flatL P n g.type with
      | none => simp [hl] at hf
      | some m =>
        simp only [hl] at hf
        split at hf
        · cases hf
        rename_i hm
        cases hl2 : flatF (flatL P n) fs (off + m.length) with
        | none => simp [hl2] at hf
        | some l =>
          simp only [hl2, Option.some.injEq] at hf
          subst hf
          obtain ⟨dd, hdd⟩ := flatL_und hl
          have hlen := seqs_length h
          simp at hlen
          obtain ⟨b1, b2, h1, h2, rfl⟩ := seqs_append h
          rw [List.drop_drop, List.drop_drop] at h2
          obtain ⟨r1, r2, r3⟩ := ih g.type d m dd hd hl hdd
          have p1 := run_part (P := P) hdd r1 r2 (cs := xs) (off := off) (by omega) w
          have p2 := run_part (P := P) hdd r1 r2 (cs := ys) (off := off) (by omega) w
          simp only [Op.eqFields]
          rw [if_pos hg.1]
          simp only [hg.2, Sem.run_bind, p1, p2, r3 _ _ b1 w h1, Result.andThen_ok]
          cases b1 with
          | false => simp
          | true =>
            simp only [Bool.not_true, Bool.false_eq_true, if_false, Bool.true_and]
            exact eqFields_run ih d hd fs (off + m.length) l xs ys b2 w hl2 h2
    · cases hf

theorem arrLoop (m : Nat) (ks : List Leaf) (hm : ks.length = m) (d : Nat) (e : TypeId) (xs ys : Array Value) (w : World)
    (hp : ∀ i b, i * m + m ≤ xs.size → i * m + m ≤ ys.size → seqs ks ((xs.toList.drop (i * m)).take m) ((ys.toList.drop (i * m)).take m) = some b →
      ((do let a ← part e xs (i * m); let c ← part e ys (i * m); Op.equalIn d e a c : Sem Bool)).run P w = .ok b w) :
    ∀ (k i : Nat) (b : Bool), 0 < m → seqs (List.replicate k ks).flatten (xs.toList.drop (i * m)) (ys.toList.drop (i * m)) = some b →
      (forIn (m := Sem) (List.range' i k) ((none, ()) : Option Bool × Unit) fun i _ => do
        let a ← part e xs (i * m)
        let c ← part e ys (i * m)
        let q ← Op.equalIn d e a c
        if (!q) = true then pure (ForInStep.done (some false, ())) else pure (ForInStep.yield (none, ()))).run P w = .ok (if b then (none, ()) else (some false, ())) w := by
  intro k
  induction k with
  | zero =>
    intro i b hm0 h
    have := seqs_length h
    simp at this
    rw [List.drop_eq_nil_iff.2 (by simp; omega), List.drop_eq_nil_iff.2 (by simp; omega)] at h
    simp [seqs] at h; subst h
    simp
  | succ k ih =>
    intro i b hm0 h
    rw [List.replicate_succ, List.flatten_cons] at h
    have hlen := seqs_length h
    simp [hm] at hlen
    obtain ⟨b1, b2, h1, h2, rfl⟩ := seqs_append h
    rw [hm] at h1 h2
    rw [List.drop_drop, List.drop_drop] at h2
    have hr := hp i b1 (by omega) (by omega) h1
    simp only [Sem.run_bind] at hr
    rw [List.range'_succ]
    simp only [List.forIn_cons, Sem.run_bind]
    cases hq : (part e xs (i * m)).run P w with
    | halt x w1 => simp [hq, Result.andThen] at hr
    | ok a w1 =>
      simp only [hq, Result.andThen_ok] at hr ⊢
      cases hq2 : (part e ys (i * m)).run P w1 with
      | halt x w2 => simp [hq2, Result.andThen] at hr
      | ok c w2 =>
        simp only [hq2, Result.andThen_ok] at hr ⊢
        rw [hr]
        cases b1 with
        | false => simp
        | true =>
          simp only [Result.andThen_ok, Bool.not_true, Bool.false_eq_true, if_false, Sem.run_pure, Bool.true_and]
          exact ih (i + 1) b2 hm0 (by rw [Nat.succ_mul]; exact h2)

theorem flat_run : ∀ n, EqOk P n := by
  intro n
  induction n with
  | zero => intro t d ks dd _ hf; simp [flatL] at hf
  | succ n ih =>
    intro t d ks dd hd hf hdd
    obtain ⟨d, rfl⟩ : ∃ m, d = m + 1 := ⟨d - 1, by omega⟩
    simp only [flatL, hdd] at hf
    cases hz : szO P t with
    | none => simp [hz] at hf
    | some z =>
    simp only [hz] at hf
    have scal : ∀ l : Leaf, (if z = 1 then some [l] else none) = some ks → agB dd = false → (∀ x y b w, seq1 l x y = some b → (Op.equalIn (d + 1) t x y).run P w = .ok b w) →
        some z = some ks.length ∧ (agB dd = false → ks.length = 1) ∧ ∀ (xs ys : List Value) (b : Bool) (w : World), seqs ks xs ys = some b →
          (Op.equalIn (d + 1) t (vOf (agB dd) xs) (vOf (agB dd) ys)).run P w = .ok b w := by
      intro l hk hag hrun
      split at hk
      · rename_i hz1
        cases hk
        refine ⟨by rw [hz1]; rfl, fun _ => rfl, fun xs ys b w h => ?_⟩
        obtain ⟨hx, hy⟩ := seqs_length h
        match xs, ys, hx, hy with
        | [x], [y], _, _ =>
          simp only [seqs] at h
          split at h
          · rename_i a c h1 h2; cases h2; simp at h; rw [hag]; subst h; simpa [vOf] using hrun x y _ w h1
          · cases h
      · cases hk
    cases dd with
    | int kk =>
      refine scal _ hf rfl fun x y b w hxy => ?_
      cases x <;> cases y <;> simp [seq1] at hxy
      obtain ⟨rfl, rfl⟩ := hxy; exact run_equalIn_int w d t _ _ _ _ hdd
    | bool =>
      refine scal _ hf rfl fun x y b w hxy => ?_
      cases x <;> cases y <;> simp [seq1] at hxy
      subst hxy; exact run_equalIn_bool' w d t _ _ hdd
    | string =>
      refine scal _ hf rfl fun x y b w hxy => ?_
      cases x <;> cases y <;> simp [seq1] at hxy
      subst hxy; rw [beq_toListBytes]; exact run_equalIn_string w d t _ _ hdd
    | struct fs =>
      dsimp only at hf
      split at hf
      · cases hf
      rename_i hst
      cases hff : flatF (flatL P n) fs.toList 0 with
      | none => simp [hff] at hf
      | some k =>
        simp only [hff] at hf
        split at hf
        · rename_i hkz
          cases hf
          refine ⟨by rw [hkz], fun h => by simp [agB] at h, fun xs ys b w h => ?_⟩
          have hfo : P.fieldsOf t = fs := by simp [Program.fieldsOf, hdd]
          have := run_equalIn_struct (P := P) w d t xs.toArray ys.toArray (by rw [hfo]; exact hdd) (by simpa using hst)
          simp only [agB, vOf, if_true]
          rw [this, hfo]
          exact eqFields_run ih d (by omega) fs.toList 0 ks xs ys b w hff (by simpa using h)
        · cases hf
    | array len e =>
      dsimp only at hf
      cases hff : flatL P n e with
      | none => simp [hff] at hf
      | some k =>
        simp only [hff] at hf
        split at hf
        · rename_i hkz
          cases hf
          obtain ⟨de, hde⟩ := flatL_und hff
          obtain ⟨r1, r2, r3⟩ := ih e d k de (by omega) hff hde
          refine ⟨by simp [hkz.2], fun h => by simp [agB] at h, fun xs ys b w h => ?_⟩
          simp only [agB, vOf, if_true]
          simp only [Op.equalIn, Sem.run_bind, und hdd, Result.andThen_ok, szr r1]
          have hk0 : 0 < k.length := by omega
          simp only [Std.Legacy.Range.forIn_eq_forIn_range', Std.Legacy.Range.size, Nat.sub_zero, Nat.add_one_sub_one, Nat.div_one]
          have hloop := arrLoop (P := P) k.length k rfl d e xs.toArray ys.toArray w (fun i b h1 h2 hs => by
            have p1 := run_part (P := P) hde r1 r2 (cs := xs) (off := i * k.length) (by simpa using h1) w
            have p2 := run_part (P := P) hde r1 r2 (cs := ys) (off := i * k.length) (by simpa using h2) w
            simp only [Sem.run_bind, p1, p2, Result.andThen_ok]
            exact r3 _ _ b w (by simpa using hs)) len 0 b hk0 (by simpa using h)
          rw [hloop]
          cases b <;> rfl
        · cases hf
    | _ => simp at hf

theorem seq1_tr {l : Leaf} {x y : Value} {b : Bool} (h : seq1 l x y = some b) (ρ : Place) : trV ρ x = x ∧ trV ρ y = y := by
  cases l <;> cases x <;> cases y <;> simp [seq1] at h <;> simp [trV]

theorem seqs_tr {ks : List Leaf} {xs ys : List Value} {b : Bool} (h : seqs ks xs ys = some b) (ρ : Place) : xs.map (trV ρ) = xs ∧ ys.map (trV ρ) = ys := by
  induction ks generalizing xs ys b with
  | nil => cases xs <;> cases ys <;> simp [seqs] at *
  | cons k ks ih =>
    cases xs with
    | nil => simp [seqs] at h
    | cons x xs =>
      cases ys with
      | nil => simp [seqs] at h
      | cons y ys =>
        simp only [seqs] at h
        split at h
        · rename_i a c h1 h2
          obtain ⟨e1, e2⟩ := ih h2
          obtain ⟨e3, e4⟩ := seq1_tr h1 ρ
          simp [e1, e2, e3, e4]
        · cases h

theorem trV_agg_flat {ks : List Leaf} {xs ys : Array Value} {b : Bool} (h : seqs ks xs.toList ys.toList = some b) (ρ : Place) : trV ρ (.agg xs) = .agg xs ∧ trV ρ (.agg ys) = .agg ys := by
  obtain ⟨h1, h2⟩ := seqs_tr h ρ
  constructor
  · simp only [trV]; congr 1; apply Array.ext'; simpa using h1
  · simp only [trV]; congr 1; apply Array.ext'; simpa using h2

theorem eqIn_nil {k : EqK} {t : TypeId} {dd : TypeDesc} (hd : P.underlying t = some dd) {a c : Value} {b : Bool} (d : Nat) (w : World)
    (hk : match k with
      | .bool => dd = .bool
      | .ptr => ∃ e, dd = .pointer e
      | .sli => ∃ e, dd = .slice e
      | .map => ∃ e e', dd = .map e e'
      | .fun_ => ∃ ps rs v, dd = .func ps rs v
      | .ifc => ∃ ms, dd = .interface ms
      | .flat _ => False) (h : ieq k a c = some b) : (Op.equalIn (d + 1) t a c).run P w = .ok b w := by
  cases k with
  | flat ks => exact hk.elim
  | bool => subst hk; cases a <;> cases c <;> simp [ieq] at h; subst h; simp [Op.equalIn, und hd]
  | ptr =>
    obtain ⟨e, rfl⟩ := hk
    cases a <;> try (simp [ieq] at h; done)
    rename_i p; cases c <;> try (cases p <;> simp [ieq] at h; done)
    rename_i q
    cases p <;> cases q <;> simp [ieq] at h <;> subst h <;> simp [Op.equalIn, und hd]
  | sli =>
    obtain ⟨e, rfl⟩ := hk
    cases a <;> try (simp [ieq] at h; done)
    rename_i p _ _; cases c <;> try (cases p <;> simp [ieq] at h; done)
    rename_i q _ _
    cases p <;> cases q <;> simp [ieq] at h <;> subst h <;> simp [Op.equalIn, und hd]
  | map =>
    obtain ⟨e, e', rfl⟩ := hk
    cases a <;> try (simp [ieq] at h; done)
    rename_i p; cases c <;> try (cases p <;> simp [ieq] at h; done)
    rename_i q
    cases p <;> cases q <;> simp [ieq] at h <;> subst h <;> simp [Op.equalIn, und hd]
  | fun_ =>
    obtain ⟨e, e', e'', rfl⟩ := hk
    cases a <;> cases c <;> simp [ieq] at h <;> subst h <;> simp [Op.equalIn, und hd]
  | ifc =>
    obtain ⟨e, rfl⟩ := hk
    cases a <;> cases c <;> simp [ieq] at h <;> subst h <;> simp [Op.equalIn, und hd]

/-- A value that is compared is neither a number nor a string. -/
def noNum : Value → Bool
  | .int _ _ | .string _ | .float _ _ | .complex _ _ _ => false
  | _ => true

theorem ieq_tr {k : EqK} {a c : Value} {b : Bool} (h : ieq k a c = some b) (ρ : Place) : ieq k (trV ρ a) (trV ρ c) = some b ∧ noNum (trV ρ a) = true := by
  cases k with
  | flat ks =>
    cases a <;> cases c <;> simp only [ieq] at h <;> try (cases h; done)
    obtain ⟨e1, e2⟩ := trV_agg_flat h ρ
    rw [e1, e2]; exact ⟨h, rfl⟩
  | bool => cases a <;> cases c <;> simp [ieq] at h; subst h; simp [trV, ieq, noNum]
  | ptr =>
    cases a <;> try (simp [ieq] at h; done)
    rename_i p; cases c <;> try (cases p <;> simp [ieq] at h; done)
    rename_i q
    cases p <;> cases q <;> simp [ieq] at h <;> subst h <;> simp [trV, ieq, noNum]
  | sli =>
    cases a <;> try (simp [ieq] at h; done)
    rename_i p _ _; cases c <;> try (cases p <;> simp [ieq] at h; done)
    rename_i q _ _
    cases p <;> cases q <;> simp [ieq] at h <;> subst h <;> simp [trV, ieq, noNum]
  | map =>
    cases a <;> try (simp [ieq] at h; done)
    rename_i p; cases c <;> try (cases p <;> simp [ieq] at h; done)
    rename_i q
    cases p <;> cases q <;> simp [ieq] at h <;> subst h <;> simp [trV, ieq, noNum]
  | fun_ => cases a <;> cases c <;> simp [ieq] at h <;> subst h <;> simp [trV, ieq, noNum]
  | ifc => cases a <;> cases c <;> simp [ieq] at h <;> subst h <;> simp [trV, ieq, noNum]

def EqFits (P : Program) (k : EqK) (t : TypeId) (d : TypeDesc) (x y : Operand) : Prop := match k with
  | .bool => d = .bool
  | .ptr => ∃ e, d = .pointer e
  | .sli => ∃ e, d = .slice e
  | .map => ∃ e e', d = .map e e'
  | .fun_ => ∃ ps rs v, d = .func ps rs v
  | .ifc => (∃ ms, d = .interface ms) ∧ (isNilConst x || isNilConst y) = true
  | .flat ks => agB d = true ∧ P.eqGuardType P.depth t = false ∧ flatL P 20 t = some ks

theorem equal_run {k : EqK} {t : TypeId} {d : TypeDesc} {x y : Operand} {a c : Value} {b : Bool} (hd : P.underlying t = some d) (hk : EqFits P k t d x y)
    (h : ieq k a c = some b) (w : World) : (Op.equal t a c).run P w = .ok b w := by
  have key : ∀ n, n = 9999 → (Op.equalIn (n + 1) t a c).run P w = .ok b w := by
    intro n hn
    cases k with
    | flat ks =>
      obtain ⟨hag, hg, hf⟩ := hk
      cases a <;> cases c <;> simp only [ieq] at h <;> try (cases h; done)
      have := (flat_run (P := P) 20 t (n + 1) ks d (by omega) hf hd).2.2 _ _ b w h
      rw [hag] at this
      simpa [vOf] using this
    | bool => exact eqIn_nil hd (k := .bool) n w hk h
    | ptr => exact eqIn_nil hd (k := .ptr) n w hk h
    | sli => exact eqIn_nil hd (k := .sli) n w hk h
    | map => exact eqIn_nil hd (k := .map) n w hk h
    | fun_ => exact eqIn_nil hd (k := .fun_) n w hk h
    | ifc => exact eqIn_nil hd (k := .ifc) n w hk.1 h
  exact key 9999 rfl

theorem guard_run {k : EqK} {t : TypeId} {d : TypeDesc} {x y : Operand} {a c : Value} {b : Bool} (hk : EqFits P k t d x y)
    (h : ieq k a c = some b) (op : BinOp) (w : World) : (eqGuard op t x y a c).run P w = .ok () w := by
  cases k with
  | flat ks =>
    obtain ⟨hag, hg, hf⟩ := hk
    cases a <;> cases c <;> simp only [ieq] at h <;> try (cases h; done)
    exact run_eqGuard_agg _ _ _ _ _ _ _ hg
  | ifc =>
    have hn := hk.2
    clear hk
    cases x <;> cases y <;> first
      | (simp [isNilConst] at hn; done)
      | (cases a <;> cases c <;> (try (simp [ieq] at h; done)) <;> cases op <;> simp [eqGuard])
  | bool => cases a <;> cases c <;> simp [ieq] at h; cases op <;> simp [eqGuard]
  | ptr => cases a <;> cases c <;> (try (simp [ieq] at h; done)) <;> cases op <;> simp [eqGuard]
  | sli => cases a <;> cases c <;> (try (simp [ieq] at h; done)) <;> cases op <;> simp [eqGuard]
  | map => cases a <;> cases c <;> (try (simp [ieq] at h; done)) <;> cases op <;> simp [eqGuard]
  | fun_ => cases a <;> cases c <;> (try (simp [ieq] at h; done)) <;> cases op <;> simp [eqGuard]

theorem sim_eq {k : EqK} {neq : Bool} {op : BinOp} {t u : TypeId} {d : TypeDesc} {x y : Operand} {b : Bool} (hop : o.op = .binOp op t x y u) (hne : op = if neq then .neq else .eql)
    (h : HRel base ng S ρ H w) (hd : P.underlying t = some d) (hk : EqFits P k t d x y) (he : ieq k (ev f x) (ev f y) = some b) :
    Sim P base ng S ρ H w (execOp (fun x => trV ρ (ev f x)) o) (.bool (b != neq)) H := by
  obtain ⟨h1, h2⟩ := ieq_tr he ρ
  have hg := guard_run (P := P) hk h1 op w
  have he2 := equal_run (P := P) hd hk h1 w
  refine Sim.same h ?_ (by simp [okV])
  have hb : (binOp op t (trV ρ (ev f x)) (trV ρ (ev f y))).run P w = .ok (.bool (b != neq)) w := by
    generalize trV ρ (ev f x) = a at *
    generalize trV ρ (ev f y) = c at *
    subst hne
    cases neq <;> cases a <;> first | (simp [noNum] at h2; done) | simp [binOp, he2]
  simp [execOp, hop, hg, hb, trV_bool]

end Go.IM

set_option linter.unusedSimpArgs false
namespace Go.IM
open Go Go.RowKit
set_option linter.unusedVariables false

variable {P : Program} {base ng : Nat} {S : Nat → Prop} {ρ : Place} {H H' : Heap} {w : World} {f : Fr} {o : Oper} {v : Value}

theorem trA_add (ρ : Place) {a : Addr} (h : a.spot = none) (n : Nat) : (trA ρ a).add n = trA ρ (a.add n) := by
  unfold Addr.add trA
  split
  · rfl
  · simp [Nat.add_assoc]

theorem add_spot {a : Addr} (h : a.spot = none) (n : Nat) : (a.add n).spot = none ∧ (a.add n).block = a.block := by
  unfold Addr.add; split <;> simp [h]

theorem trV_agg (ρ : Place) (cs : Array Value) : trV ρ (.agg cs) = .agg (cs.toList.map (trV ρ)).toArray := by
  simp only [trV]; congr 1; apply Array.ext'; simp

theorem int?_some {v : Value} {n : Int} (h : int? v = some n) : ∃ k, v = .int k n := by
  cases v <;> simp [int?] at h; subst h; exact ⟨_, rfl⟩

theorem sim_cnv {s d : TypeId} {ks k : IntKind} {kx : IntKind} {n : Int} {x : Operand} (hop : o.op = .convert s d x) (h : HRel base ng S ρ H w)
    (hs : P.underlying s = some (.int ks)) (hd : P.underlying d = some (.int k)) (hx : ev f x = .int kx n) :
    Sim P base ng S ρ H w (execOp (fun x => trV ρ (ev f x)) o) (.int k (k.wrap n)) H := by
  refine Sim.same h ?_ (by simp [okV])
  simp [execOp, hop, hx, trV_int, convert, und hs, und hd, Conv.intToInt]

theorem sim_cstr {s d : TypeId} {x : Operand} {b : ByteArray} (hop : o.op = .convert s d x) (h : HRel base ng S ρ H w)
    (hs : P.underlying s = some .string) (hd : P.underlying d = some .string) (hx : ev f x = .string b) :
    Sim P base ng S ρ H w (execOp (fun x => trV ρ (ev f x)) o) (ev f x) H := by
  refine Sim.same h ?_ (by simp [hx, okV])
  simp [execOp, hop, hx, trV_string, convert, und hs, und hd]

theorem sim_nckP {x : Operand} {a : Addr} (hop : o.op = .nilCheck x) (h : HRel base ng S ρ H w) (hx : ev f x = .pointer (some a)) (hv : okV S (ev f x)) :
    Sim P base ng S ρ H w (execOp (fun x => trV ρ (ev f x)) o) (ev f x) H := by
  refine Sim.same h ?_ hv
  simp [execOp, hop, hx, trV]

theorem sim_nckF {x : Operand} {g : FuncId} {a b : Array Value} (hop : o.op = .nilCheck x) (h : HRel base ng S ρ H w) (hx : ev f x = .func (.func g) a b) (hv : okV S (ev f x)) :
    Sim P base ng S ρ H w (execOp (fun x => trV ρ (ev f x)) o) (ev f x) H := by
  refine Sim.same h ?_ hv
  simp [execOp, hop, hx, trV]

theorem sim_fad {t : TypeId} {x : Operand} {i : Nat} {fs : Array Field} {g : Field} {n : Nat} {a : Addr} (hop : o.op = .fieldAddr t x i) (h : HRel base ng S ρ H w)
    (ht : P.underlying t = some (.struct fs)) (hg : fs[i]? = some g) (hn : szO P g.type = some n) (hn0 : n ≠ 0) (hx : ev f x = .pointer (some a)) (hv : okV S (ev f x)) :
    Sim P base ng S ρ H w (execOp (fun x => trV ρ (ev f x)) o) (.pointer (some (a.add g.offset))) H := by
  rw [hx] at hv; simp only [okV] at hv
  obtain ⟨h1, h2⟩ := add_spot hv.2 g.offset
  refine Sim.same h ?_ (by simp only [okV]; exact ⟨by rw [h2]; exact hv.1, h1⟩)
  simp [execOp, hop, hx, trV, Instr.fieldAt, und ht, hg, Instr.sureAddr, fieldPlace, szr hn, hn0, trA_add ρ hv.2]

theorem sim_ixa {t e : TypeId} {x i : Operand} {len n : Nat} {a : Addr} {j : Int} (hop : o.op = .indexAddr t x i) (h : HRel base ng S ρ H w)
    (ht : P.underlying t = some (.array len e)) (hn : szO P e = some n) (hx : ev f x = .pointer (some a)) (hv : okV S (ev f x)) (hi : int? (ev f i) = some j) (hj : 0 ≤ j ∧ j < len) :
    Sim P base ng S ρ H w (execOp (fun x => trV ρ (ev f x)) o) (.pointer (some (a.add (j.toNat * n)))) H := by
  rw [hx] at hv; simp only [okV] at hv
  obtain ⟨h1, h2⟩ := add_spot hv.2 (j.toNat * n)
  obtain ⟨k, hi⟩ := int?_some hi
  refine Sim.same h ?_ (by simp only [okV]; exact ⟨by rw [h2]; exact hv.1, h1⟩)
  simp [execOp, hop, hx, hi, trV, Instr.indexAt, asIntOf, und ht, Instr.sureAddr, szr hn, hj.1, hj.2, trA_add ρ hv.2]

theorem sim_ixs {t e : TypeId} {x i : Operand} {l c n : Nat} {a : Addr} {j : Int} (hop : o.op = .indexAddr t x i) (h : HRel base ng S ρ H w)
    (ht : P.underlying t = some (.slice e)) (hn : szO P e = some n) (hx : ev f x = .slice (some a) l c) (hv : okV S (ev f x)) (hi : int? (ev f i) = some j) (hj : 0 ≤ j ∧ j < l) :
    Sim P base ng S ρ H w (execOp (fun x => trV ρ (ev f x)) o) (.pointer (some (a.add (j.toNat * n)))) H := by
  rw [hx] at hv; simp only [okV] at hv
  obtain ⟨h1, h2⟩ := add_spot hv.2 (j.toNat * n)
  obtain ⟨k, hi⟩ := int?_some hi
  refine Sim.same h ?_ (by simp only [okV]; exact ⟨by rw [h2]; exact hv.1, h1⟩)
  simp [execOp, hop, hx, hi, trV, Instr.indexAt, asIntOf, und ht, szr hn, hj.1, hj.2, trA_add ρ hv.2]

theorem partA_run {t : TypeId} {n off : Nat} {cs xs : List Value} (ha : agO P t = some true) (hn : szO P t = some n) (hc : cut cs off n = some xs) (ρ : Place) (w : World) :
    (part t (cs.map (trV ρ)).toArray off).run P w = .ok (trV ρ (.agg xs.toArray)) w := by
  simp only [part, Sem.run_bind, agr ha, Result.andThen_ok, if_true, szr hn, Sem.run_pure, trV_agg]
  congr 2
  unfold cut at hc
  split at hc
  · cases hc
    apply Array.ext'
    simp [List.map_take, List.map_drop]
  · cases hc

theorem part1_run {t : TypeId} {off : Nat} {cs : List Value} {x : Value} (ha : agO P t = some false) (hc : cs[off]? = some x) (ρ : Place) (w : World) :
    (part t (cs.map (trV ρ)).toArray off).run P w = .ok (trV ρ x) w := by
  simp [part, agr ha, hc]

theorem okV_cut {cs : Array Value} {off n : Nat} {xs : List Value} (h : okV S (.agg cs)) (hc : cut cs.toList off n = some xs) : okV S (.agg xs.toArray) := by
  simp only [okV] at *
  intro x hx
  obtain ⟨_, _, h3⟩ := cut_some hc
  obtain ⟨i, hi, rfl⟩ := List.mem_iff_getElem.1 (show x ∈ xs by simpa using hx)
  have := h3 i _ (List.getElem?_eq_getElem hi)
  exact h _ (by have := List.mem_of_getElem? this; simpa using this)

theorem okV_get {cs : Array Value} {off : Nat} {x : Value} (h : okV S (.agg cs)) (hc : cs.toList[off]? = some x) : okV S x := by
  simp only [okV] at h
  exact (h x (by have := List.mem_of_getElem? hc; simpa using this)).1

theorem sim_fld {t : TypeId} {x : Operand} {i : Nat} {fs : Array Field} {g : Field} {k : Option Nat} {cs : Array Value} (hop : o.op = .field t x i) (h : HRel base ng S ρ H w)
    (ht : P.underlying t = some (.struct fs)) (hg : fs[i]? = some g) (hk : szPart P g.type = some k) (hx : ev f x = .agg cs) (hv : okV S (ev f x))
    (he : (match k with | some n => (cut cs.toList g.offset n).map fun xs => Value.agg xs.toArray | none => cs.toList[g.offset]?) = some v) :
    Sim P base ng S ρ H w (execOp (fun x => trV ρ (ev f x)) o) v H := by
  rw [hx] at hv
  unfold szPart at hk
  split at hk
  · rename_i n ha hn
    cases hk
    simp only [Option.map_eq_some_iff] at he
    obtain ⟨xs, hc, rfl⟩ := he
    refine Sim.same h ?_ (okV_cut hv hc)
    simp [execOp, hop, hx, trV_agg, Instr.field, und ht, hg, asAgg, partA_run ha hn hc]
  · rename_i n ha hn
    cases hk
    refine Sim.same h ?_ (okV_get hv he)
    simp [execOp, hop, hx, trV_agg, Instr.field, und ht, hg, asAgg, part1_run ha he]
  · cases hk

theorem sim_ixv {t e : TypeId} {x i : Operand} {len n : Nat} {k : Option Nat} {cs : Array Value} {j : Int} (hop : o.op = .index t x i) (h : HRel base ng S ρ H w)
    (ht : P.underlying t = some (.array len e)) (hk : szPart P e = some k) (hn : szO P e = some n) (hx : ev f x = .agg cs) (hv : okV S (ev f x)) (hi : int? (ev f i) = some j) (hj : 0 ≤ j ∧ j < len)
    (he : (match k with | some m => (cut cs.toList (j.toNat * n) m).map fun xs => Value.agg xs.toArray | none => cs.toList[j.toNat * n]?) = some v) :
    Sim P base ng S ρ H w (execOp (fun x => trV ρ (ev f x)) o) v H := by
  rw [hx] at hv
  obtain ⟨ki, hi⟩ := int?_some hi
  unfold szPart at hk
  split at hk
  · rename_i n' ha hn'
    cases hk
    simp only [Option.map_eq_some_iff] at he
    obtain ⟨xs, hc, rfl⟩ := he
    refine Sim.same h ?_ (okV_cut hv hc)
    simp [execOp, hop, hx, hi, trV_int, trV_agg, Instr.index, asIntOf, und ht, hj.1, hj.2, szr hn, partA_run ha hn' hc]
  · rename_i n' ha hn'
    cases hk
    refine Sim.same h ?_ (okV_get hv he)
    simp [execOp, hop, hx, hi, trV_int, trV_agg, Instr.index, asIntOf, und ht, hj.1, hj.2, szr hn, part1_run ha he]
  · cases hk

theorem sim_ixt {t : TypeId} {x i : Operand} {s : ByteArray} {b : UInt8} {j : Int} (hop : o.op = .index t x i) (h : HRel base ng S ρ H w)
    (ht : P.underlying t = some .string) (hx : ev f x = .string s) (hi : int? (ev f i) = some j) (hj : 0 ≤ j) (hb : s.data[j.toNat]? = some b) :
    Sim P base ng S ρ H w (execOp (fun x => trV ρ (ev f x)) o) (.int .u8 b.toNat) H := by
  obtain ⟨ki, hi⟩ := int?_some hi
  refine Sim.same h ?_ (by simp [okV])
  have hb' : s[j.toNat]? = some b := by
    have hlt := (Array.getElem?_eq_some_iff.1 hb).1
    rw [getElem?_pos s j.toNat hlt]
    obtain ⟨_, h2⟩ := Array.getElem?_eq_some_iff.1 hb
    rw [← h2]; rfl
  simp [execOp, hop, hx, hi, trV_int, trV_string, Instr.index, asIntOf, und ht, hj, hb']

theorem sim_mki {t : TypeId} {d : TypeDesc} {x : Operand} (hop : o.op = .makeInterface t x) (h : HRel base ng S ρ H w) (ht : P.underlying t = some d) (hd : ∀ ms, d ≠ .interface ms) (hv : okV S (ev f x)) :
    Sim P base ng S ρ H w (execOp (fun x => trV ρ (ev f x)) o) (.iface t (ev f x)) H := by
  refine Sim.same h ?_ (by simpa [okV] using hv)
  cases d <;> first | exact absurd rfl (hd _) | simp [execOp, hop, trV, Instr.makeInterface, und ht]

theorem sim_ext {x : Operand} {i : Nat} {vs : Array Value} (hop : o.op = .extract x i) (h : HRel base ng S ρ H w) (hx : ev f x = .tuple vs) (hv : okV S (ev f x)) (he : vs.toList[i]? = some v) :
    Sim P base ng S ρ H w (execOp (fun x => trV ρ (ev f x)) o) v H := by
  rw [hx] at hv; simp only [okV] at hv
  refine Sim.same h ?_ (hv v (by have := List.mem_of_getElem? he; simpa using this))
  have : vs[i]? = some v := by simpa using he
  simp [execOp, hop, hx, trV, Instr.extract, this]

theorem sim_fun {g : FuncId} {a b : Array Operand} (hop : o.op = .makeFunc (.func g) a b) (h : HRel base ng S ρ H w) (ha : ∀ x ∈ a, okV S (ev f x)) (hb : ∀ x ∈ b, okV S (ev f x)) :
    Sim P base ng S ρ H w (execOp (fun x => trV ρ (ev f x)) o) (.func (.func g) (a.toList.map (ev f)).toArray (b.toList.map (ev f)).toArray) H := by
  refine Sim.same h ?_ ?_
  · simp only [execOp, hop, Instr.makeFunc, Sem.run_bind, Sem.run_pure, Result.andThen_ok, trV]
    congr 3
    · apply Array.ext'; simp
    · apply Array.ext'; simp
  · simp only [okV]
    refine ⟨⟨g, rfl⟩, fun x hx => ?_, fun x hx => ?_⟩
    · simp at hx; obtain ⟨y, hy, rfl⟩ := hx; exact ha y (by simpa using hy)
    · simp at hx; obtain ⟨y, hy, rfl⟩ := hx; exact hb y (by simpa using hy)

theorem sim_tas {t u : TypeId} {d : TypeDesc} {z : Value} {ok : Bool} {x : Operand} (hop : o.op = .typeAssert x u t ok) (h : HRel base ng S ρ H w) (ht : P.underlying t = some d) (hd : ∀ ms, d ≠ .interface ms)
    (hz : zvO P t = some z) (hf : flatV z = true) (hv : okV S (ev f x)) (he : iop (.tas t z ok x) f H = some (v, H')) :
    Sim P base ng S ρ H w (execOp (fun x => trV ρ (ev f x)) o) v H' := by
  obtain ⟨z1, z2, z3⟩ := flatV_tr hf ρ S
  simp only [iop] at he
  split at he
  · rename_i t' v' hx
    rw [hx] at hv; simp only [okV] at hv
    split at he
    · rename_i htt
      subst htt
      simp only [Option.some.injEq, Prod.mk.injEq] at he
      obtain ⟨rfl, rfl⟩ := he
      refine Sim.same h ?_ (by cases ok <;> simp [okV, hv])
      cases d <;> first
        | exact absurd rfl (hd _)
        | (cases ok <;> simp [execOp, hop, hx, trV, Instr.typeAssert, und ht])
    · rename_i htt
      split at he
      · rename_i hok
        simp only [Option.some.injEq, Prod.mk.injEq] at he
        obtain ⟨rfl, rfl⟩ := he
        refine Sim.same h ?_ (by simp [okV, z2])
        cases d <;> first
          | exact absurd rfl (hd _)
          | simp [execOp, hop, hx, trV, Instr.typeAssert, und ht, htt, hok, zvr hz, z1]
      · cases he
  · rename_i hx
    split at he
    · rename_i hok
      simp only [Option.some.injEq, Prod.mk.injEq] at he
      obtain ⟨rfl, rfl⟩ := he
      refine Sim.same h ?_ (by simp [okV, z2])
      cases d <;> first
        | exact absurd rfl (hd _)
        | simp [execOp, hop, hx, trV, Instr.typeAssert, und ht, hok, zvr hz, z1]
    · cases he
  · cases he

end Go.IM

set_option linter.unusedSimpArgs false
namespace Go.IM
open Go Go.RowKit
set_option linter.unusedVariables false

variable {P : Program} {base ng : Nat} {S : Nat → Prop} {ρ : Place} {H H' : Heap} {w : World} {f : Fr} {o : Oper} {v : Value}

theorem exec_builtin {c : Call} {b : Builtin} (hop : o.op = .call c) (hc : c.callee = .builtin b) (e : Operand → Value) :
    ∃ cs, ∀ w, (execOp e o).run P w = (builtin b c.argTypes o.type cs (c.args.map e)).run P w := by
  have h1 : ∃ cs, resolve e c o.type = pure { target := .builtin b c.argTypes o.type cs, args := c.args.map e } := by
    unfold resolve; rw [hc]; exact ⟨_, rfl⟩
  obtain ⟨cs, h1⟩ := h1
  refine ⟨cs, fun w => ?_⟩
  simp only [execOp, hop, h1, Sem.run_bind, Sem.run_pure, Result.andThen_ok, invoke]

theorem at0 {α : Type} {a : Array α} {x : α} (h : a.toList = [x]) : a = #[x] := by apply Array.ext'; simpa using h
theorem at2 {α : Type} {a : Array α} {x y : α} (h : a.toList = [x, y]) : a = #[x, y] := by apply Array.ext'; simpa using h

theorem sim_len {c : Call} {t : TypeId} {x : Operand} {k : LenK} (hop : o.op = .call c) (hc : c.callee = .builtin .len) (ht : c.argTypes.toList = [t]) (hx : c.args.toList = [x]) (h : HRel base ng S ρ H w)
    (hk : match k with
      | .str => P.underlying t = some .string
      | .arr n => (∃ e, P.underlying t = some (.array n e)) ∨ ∃ a e, P.underlying t = some (.pointer a) ∧ P.underlying a = some (.array n e)
      | .sl => ∃ e, P.underlying t = some (.slice e)
      | .map => ∃ a b, P.underlying t = some (.map a b))
    (hv : okV S (ev f x)) (he : iop (.len k x) f H = some (v, H')) :
    Sim P base ng S ρ H w (execOp (fun x => trV ρ (ev f x)) o) v H' := by
  have hex : ∀ w, (execOp (fun x => trV ρ (ev f x)) o).run P w = ((Builtin.len_ #[t] o.type #[trV ρ (ev f x)]).run P w).andThen fun a w' => .ok (.value a) w' := by
    intro w
    obtain ⟨cs, hcs⟩ := exec_builtin (P := P) hop hc (fun x => trV ρ (ev f x))
    rw [hcs, at0 ht, at0 hx]
    simp [builtin]
  cases k with
  | str =>
    cases hs : ev f x <;> simp [iop, hs] at he
    obtain ⟨rfl, rfl⟩ := he
    exact Sim.same h (by rw [hex]; simp [hs, trV, Builtin.len_, und hk, goInt]) (by simp [okV])
  | arr n =>
    simp [iop] at he
    obtain ⟨rfl, rfl⟩ := he
    refine Sim.same h (by
      rw [hex]
      rcases hk with ⟨e, hk⟩ | ⟨a, e, hk, hk2⟩
      · simp [trV_int, Builtin.len_, und hk, goInt]
      · simp [trV_int, Builtin.len_, und hk, und hk2, goInt]) (by simp [okV])
  | sl =>
    obtain ⟨e, hk⟩ := hk
    cases hs : ev f x <;> simp [iop, hs] at he
    obtain ⟨rfl, rfl⟩ := he
    rename_i a n c
    refine Sim.same h (by
      rw [hex]
      cases a <;> simp [hs, trV, Builtin.len_, und hk, goInt]) (by simp [okV])
  | map =>
    obtain ⟨a, b, hk⟩ := hk
    cases hs : ev f x <;> try (simp [iop, hs] at he; done)
    rename_i r
    cases r with
    | none =>
      simp [iop, hs] at he
      obtain ⟨rfl, rfl⟩ := he
      exact Sim.same h (by rw [hex]; simp [hs, trV, Builtin.len_, und hk, goInt]) (by simp [okV])
    | some r =>
      rw [hs] at hv; simp only [okV] at hv
      simp only [iop, hs] at he
      split at he
      · rename_i es ck hm
        simp at he
        obtain ⟨rfl, rfl⟩ := he
        unfold Heap.mapAt at hm
        split at hm
        · rename_i es' ck' hc'
          cases hm
          have hmap := (h.maps r es ck hv hc').obj
          refine Sim.same h (by
            rw [hex]
            simp [hs, trV, Builtin.len_, und hk, goInt, getObj, Sem.run, hmap]) (by simp [okV])
        · cases hm
      · cases he

theorem sim_cap {c : Call} {t e : TypeId} {x : Operand} {a : Option Addr} {l k : Nat} (hop : o.op = .call c) (hc : c.callee = .builtin .cap) (ht : c.argTypes.toList = [t]) (hx : c.args.toList = [x]) (h : HRel base ng S ρ H w)
    (hk : P.underlying t = some (.slice e)) (hs : ev f x = .slice a l k) (hev : k % 2 = 0) (hv : okV S (ev f x)) :
    Sim P base ng S ρ H w (execOp (fun x => trV ρ (ev f x)) o) (.int .i64 (k / 2 : Nat)) H := by
  refine Sim.same h ?_ (by simp [okV])
  obtain ⟨cs, hcs⟩ := exec_builtin (P := P) hop hc (fun x => trV ρ (ev f x))
  rw [hcs, at0 ht, at0 hx]
  cases a with
  | none =>
    rw [hs] at hv; simp only [okV] at hv
    simp [builtin, hs, trV, Builtin.cap_, und hk, goInt, hv.2]
  | some a => simp [builtin, hs, trV, Builtin.cap_, und hk, goInt, trCap, hev]

theorem sim_mnx {c : Call} {mx : Bool} {xs : List Operand} (hop : o.op = .call c) (hc : c.callee = .builtin (if mx then .max else .min)) (hx : c.args.toList = xs) (h : HRel base ng S ρ H w)
    (he : iop (.mnx mx xs) f H = some (v, H')) :
    Sim P base ng S ρ H w (execOp (fun x => trV ρ (ev f x)) o) v H' := by
  simp only [iop] at he
  split at he
  · rename_i k a rest hl
    split at he
    · rename_i l hm
      simp only [Option.some.injEq, Prod.mk.injEq] at he
      obtain ⟨rfl, rfl⟩ := he
      refine Sim.same h ?_ (by simp [okV])
      obtain ⟨cs, hcs⟩ := exec_builtin (P := P) hop hc (fun x => trV ρ (ev f x))
      rw [hcs]
      have hargs : (c.args.map fun x => trV ρ (ev f x)).toList = .int k a :: rest.map (trV ρ) := by
        rw [Array.toList_map, hx, show (fun x => trV ρ (ev f x)) = trV ρ ∘ ev f from rfl, ← List.map_map, hl]; simp [trV]
      have hfold : ∀ (rest : List Value) (l : List Int) (a : Int), rest.mapM int? = some l →
          ((rest.map (trV ρ)).foldlM Builtin.max2 (.int k a)).run P w = .ok (.int k (l.foldl (fun m y => if y > m then y else m) a)) w ∧
          ((rest.map (trV ρ)).foldlM Builtin.min2 (.int k a)).run P w = .ok (.int k (l.foldl (fun m y => if y < m then y else m) a)) w := by
        intro rest
        induction rest with
        | nil => intro l a hm; simp at hm; subst hm; simp
        | cons r rest ih =>
          intro l a hm
          simp only [List.mapM_cons, Option.bind_eq_bind, Option.bind_eq_some_iff, Option.pure_def, Option.some.injEq] at hm
          obtain ⟨n, hn, l', hl', rfl⟩ := hm
          obtain ⟨kk, rfl⟩ := int?_some hn
          simp only [List.map_cons, trV_int, List.foldlM_cons, Sem.run_bind, Builtin.max2, Builtin.min2, Sem.run_pure, Result.andThen_ok, List.foldl_cons]
          exact ⟨(ih l' _ hl').1, (ih l' _ hl').2⟩
      obtain ⟨f1, f2⟩ := hfold rest l a hm
      cases mx
      · simp only [builtin, Bool.false_eq_true, if_false, Sem.run_bind, Builtin.min_, hargs, f2, Result.andThen_ok, Sem.run_pure, trV_int]
      · simp only [builtin, if_true, Sem.run_bind, Builtin.max_, hargs, f1, Result.andThen_ok, Sem.run_pure, trV_int]
    · cases he
  · cases he

/-! ## Slicing -/

end Go.IM

set_option linter.unusedSimpArgs false
namespace Go.IM
open Go Go.RowKit
set_option linter.unusedVariables false

variable {P : Program} {base ng : Nat} {S : Nat → Prop} {ρ : Place} {H H' : Heap} {w w1 : World} {f : Fr} {o : Oper} {v : Value}

theorem row_some {b : Nat} {c : List Value} (h : H.row b = some c) : ∃ ro lo, H[b]? = some (.cells c ro lo) := by
  unfold Heap.row at h
  split at h
  · rename_i c' ro lo hc; cases h; exact ⟨ro, lo, hc⟩
  · cases h

theorem wrow_some {b : Nat} {c : List Value} {lo : Nat} (h : H.wrow b = some (c, lo)) : H[b]? = some (.cells c false lo) := by
  unfold Heap.wrow at h
  split at h
  · rename_i c' lo' hc; cases h; exact hc
  · cases h

theorem mapAt_some {b : Nat} {es : List MapEntry} {k : Nat} (h : H.mapAt b = some (es, k)) : H[b]? = some (.map es k) := by
  unfold Heap.mapAt at h
  split at h
  · rename_i c' lo' hc; cases h; exact hc
  · cases h

theorem trA_at {a : Addr} (h : a.spot = none) (ρ : Place) : trA ρ a = at_ (ρ a.block) a.off := by simp [trA, at_, h]

theorem HRel.row_val (h : HRel base ng S ρ H w) {b : Nat} {c : List Value} (hb : S b) (hr : H.row b = some c) (k : Nat) (v : Value) (hk : c[k]? = some v) :
    w.cell? (at_ (ρ b) k) = some (trV ρ v) ∧ okV S v ∧ v.oneCell' = true := by
  obtain ⟨ro, lo, hc⟩ := row_some hr
  exact (h.cells b c ro lo hb hc).val k v hk

theorem sim_ld1 {t : TypeId} {a : Operand} {p : Addr} {c : List Value} (hop : o.op = .load t a) (h : HRel base ng S ρ H w) (ha : agO P t = some false)
    (hx : ev f a = .pointer (some p)) (hv : okV S (ev f a)) (hr : H.row p.block = some c) (hc : c[p.off]? = some v) :
    Sim P base ng S ρ H w (execOp (fun x => trV ρ (ev f x)) o) v H := by
  rw [hx] at hv; simp only [okV] at hv
  obtain ⟨h1, h2, h3⟩ := h.row_val hv.1 hr p.off v hc
  refine Sim.same h ?_ h2
  simp [execOp, hop, hx, trV, Instr.loadAt, Instr.sureAddr, loadVar, agr ha, trA_at hv.2, h1]

theorem sim_ldn {t : TypeId} {a : Operand} {p : Addr} {n : Nat} {c xs : List Value} (hop : o.op = .load t a) (h : HRel base ng S ρ H w) (ha : agO P t = some true) (hn : szO P t = some n)
    (hx : ev f a = .pointer (some p)) (hv : okV S (ev f a)) (hr : H.row p.block = some c) (hc : cut c p.off n = some xs) :
    Sim P base ng S ρ H w (execOp (fun x => trV ρ (ev f x)) o) (.agg xs.toArray) H := by
  rw [hx] at hv; simp only [okV] at hv
  obtain ⟨c1, c2, c3⟩ := cut_some hc
  have hl : (loadCells (at_ (ρ p.block) p.off) n).run P w = .ok (xs.map (trV ρ)).toArray w := by
    have := run_loadAt (P := P) (ρ p.block) p.off w (xs.map (trV ρ)) (fun k v hk => by
      simp only [List.getElem?_map, Option.map_eq_some_iff] at hk
      obtain ⟨u, hu, rfl⟩ := hk
      exact (h.row_val hv.1 hr _ u (c3 k u hu)).1)
    rwa [List.length_map, c2] at this
  refine Sim.same h ?_ ?_
  · simp [execOp, hop, hx, trV_agg, trV, Instr.loadAt, Instr.sureAddr, loadVar, agr ha, szr hn, trA_at hv.2, hl]
  · simp only [okV, one1_eq]
    intro x hx
    obtain ⟨i, hi, rfl⟩ := List.mem_iff_getElem.1 (show x ∈ xs by simpa using hx)
    exact (h.row_val hv.1 hr _ _ (c3 i _ (List.getElem?_eq_getElem hi))).2

/-! ## A new block -/

theorem HRel.adoptNew {H0 : Heap} (h : HRel base ng S ρ H w) (hlen0 : H.length = H0.length) (hfrom : ∀ b, Own S ρ H b → Own S ρ H0 b) {c rc : List Value} {lo e : Nat} (hsz : w1.heap.size = w.heap.size + 1) (hold : ∀ b, b < w.heap.size → w1.heap[b]? = w.heap[b]?)
    (henv : w1.os = w.os ∧ w1.tape = w.tape ∧ w1.output = w.output) (hlen : c.length ≤ rc.length) (he : lo ≠ 0 → e = lo)
    (hcell : ∀ (k : Nat) (v : Value), rc[k]? = some v → w1.cell? ⟨w.heap.size, k, none⟩ = some v) (hfr : ∃ rc' ty lo' hi, w1.heap[w.heap.size]? = some (.cells rc' ty (lo', hi)) ∧ (lo' = hi ∨ rc.length ≤ lo'))
    (hval : ∀ (k : Nat) (v : Value), c[k]? = some v → rc[k]? = some (trV ρ v) ∧ okV S v ∧ v.oneCell' = true) :
    HRel base ng (grow S H0 (H ++ [.cells c false lo])) (upd ρ H.length ⟨w.heap.size, 0, rc.length, e⟩) (H ++ [.cells c false lo]) w1 ∧
      Ext S ρ H0 w (grow S H0 (H ++ [.cells c false lo])) (upd ρ H.length ⟨w.heap.size, 0, rc.length, e⟩) (H ++ [.cells c false lo]) w1 := by
  have hag : ∀ i, S i → upd ρ H.length ⟨w.heap.size, 0, rc.length, e⟩ i = ρ i := fun i hi => upd_ne _ _ (by have := h.vis i hi; omega)
  refine h.adopt hlen0 hfrom (r := ⟨w.heap.size, 0, rc.length, e⟩) (fun j hj hl => ?_) (fun hlt => absurd hlt (Nat.lt_irrefl _)) (fun b _ hb => hold b hb) (by omega) henv ⟨?_, ?_, ?_, ?_, ?_, ?_⟩
  · have := h.lt_of_live hj hl
    show (ρ j).blk ≠ w.heap.size
    omega
  · simpa using hlen
  · simpa using he
  · intro k hk
    simp only [upd_same] at hk ⊢
    refine ⟨rc[k], ?_⟩
    simp only [at_, Nat.zero_add]
    exact hcell k _ (List.getElem?_eq_getElem hk)
  · intro k v hk
    obtain ⟨h1, h2, h3⟩ := hval k v hk
    refine ⟨?_, h2, h3⟩
    simp only [upd_same, at_, Nat.zero_add]
    rw [trV_agree hag v h2]
    exact hcell k _ h1
  · simp only [upd_same]; omega
  · intro _
    obtain ⟨rc', ty, lo', hi, h1, h2⟩ := hfr
    simp only [upd_same]
    exact ⟨h.low, rc', ty, lo', hi, h1, h2.imp id fun h => .inr (by simpa using h)⟩

theorem HRel.fresh (h : HRel base ng S ρ H w) {c rc : List Value} {lo e : Nat} (ty : TypeId) (hlen : c.length ≤ rc.length) (he : lo ≠ 0 → e = lo)
    (hval : ∀ (k : Nat) (v : Value), c[k]? = some v → rc[k]? = some (trV ρ v) ∧ okV S v ∧ v.oneCell' = true) :
    HRel base ng (grow S H (H ++ [.cells c false lo])) (upd ρ H.length ⟨w.heap.size, 0, rc.length, e⟩) (H ++ [.cells c false lo]) (w.alloc (.cells rc.toArray ty)) ∧
      Ext S ρ H w (grow S H (H ++ [.cells c false lo])) (upd ρ H.length ⟨w.heap.size, 0, rc.length, e⟩) (H ++ [.cells c false lo]) (w.alloc (.cells rc.toArray ty)) := by
  refine h.adoptNew rfl (fun _ h => h) (by simp) (fun b hb => ?_) ⟨rfl, rfl, rfl⟩ hlen he (fun k v hk => ?_) ?_ hval
  · simp only [World.alloc]; rw [Array.getElem?_push_lt hb, Array.getElem?_eq_getElem hb]
  · rw [World.cell?_alloc_at _ _ _ _ rfl]; simpa using hk
  · exact ⟨rc.toArray, ty, 0, 0, by unfold World.alloc; exact Array.getElem?_push_size, .inl rfl⟩

/-- The value of a new block. -/
theorem okV_new (x : IObj) : grow S H (H ++ [x]) H.length := (grow_push x _).2 (.inr rfl)

theorem Sim.freshP (h : HRel base ng S ρ H w) {s : Sem Next} {c : List Value} (ty : TypeId)
    (hval : ∀ v ∈ c, okV S v ∧ v.oneCell' = true) (hs : s.run P w = .ok (.value (.pointer (some ⟨w.heap.size, 0, none⟩))) (w.alloc (.cells (c.map (trV ρ)).toArray ty))) :
    Sim P base ng S ρ H w s (.pointer (some ⟨H.length, 0, none⟩)) (H ++ [.cells c false 0]) := by
  obtain ⟨h1, h2⟩ := h.fresh (c := c) (rc := c.map (trV ρ)) (lo := 0) (e := 1) ty (by simp) (by simp) (fun k v hk => by
    refine ⟨by simp [hk], hval v (List.mem_of_getElem? hk)⟩)
  refine ⟨_, _, _, hs, .inl ?_, h1, h2, ?_⟩
  · simp [trV, trA]
  · simp only [okV]; exact ⟨okV_new _, trivial⟩

theorem flatZ {z : Value} (hz : flatV z = true) (hn : notTuple z = true) (ρ : Place) (S : Nat → Prop) : z.cells.toList.map (trV ρ) = z.cells.toList ∧ ∀ v ∈ z.cells.toList, okV S v ∧ v.oneCell' = true := by
  obtain ⟨h1, h2, h3⟩ := flatV_tr hz ρ S
  constructor
  · have := congrArg (fun v => (Value.cells v).toList) h1
    simpa using this
  · intro v hv
    have := okV_cells h2 h3 v (by simpa using hv)
    exact this

theorem zcO_some {t : TypeId} {z : List Value} (h : zcO P t = some z) : ∃ v, zvO P t = some v ∧ flatV v = true ∧ notTuple v = true ∧ z = v.cells.toList := by
  unfold zcO at h
  split at h
  · rename_i v hv
    split at h
    · rename_i hb
      simp at hb
      cases h
      exact ⟨v, hv, hb.1, hb.2, rfl⟩
    · cases h
  · cases h

theorem sim_new {t : TypeId} {z : List Value} (hop : o.op = .alloc t) (h : HRel base ng S ρ H w) (hz : zcO P t = some z) :
    Sim P base ng S ρ H w (execOp (fun x => trV ρ (ev f x)) o) (.pointer (some ⟨H.length, 0, none⟩)) (H ++ [.cells z false 0]) := by
  obtain ⟨v, hv, h1, h2, rfl⟩ := zcO_some hz
  obtain ⟨h3, h4⟩ := flatZ h1 h2 ρ S
  refine Sim.freshP h t h4 ?_
  rw [h3]
  simp [execOp, hop, Instr.alloc, zvr hv, newVar, newRow]

theorem sim_box {t : TypeId} {x : Operand} (hop : o.op = .box t x) (h : HRel base ng S ρ H w) (hv : okV S (ev f x)) (hn : notTuple (ev f x) = true) :
    Sim P base ng S ρ H w (execOp (fun x => trV ρ (ev f x)) o) (.pointer (some ⟨H.length, 0, none⟩)) (H ++ [.cells (ev f x).cells.toList false 0]) := by
  refine Sim.freshP h t (fun v hv' => okV_cells hv hn v (by simpa using hv')) ?_
  have : (List.map (trV ρ) (ev f x).cells.toList).toArray = (ev f x).cells.map (trV ρ) := by apply Array.ext'; simp
  rw [this]
  simp [execOp, hop, Instr.box, newVar, newRow]

/-! ## Filling -/

theorem set_lay (z : List Value) (o : Nat) (x : Value) (xs : List Value) (h : o + (x :: xs).length ≤ z.length) : lay (z.set o x) (o + 1) xs = lay z o (x :: xs) := by
  apply List.ext_getElem?
  intro k
  have h1 : o + 1 + xs.length ≤ (z.set o x).length := by simp at *; omega
  rw [get_lay h1, get_lay h]
  by_cases hk : k < o
  · rw [if_pos (by omega), if_pos hk, List.getElem?_set_ne (by omega)]
  · rw [if_neg hk]
    by_cases hk2 : k = o
    · subst hk2
      rw [if_pos (by omega), if_pos (by simp)]
      rw [List.getElem?_set_self (by simp at h; omega)]; simp
    · rw [if_neg (by omega)]
      by_cases hk3 : k < o + 1 + xs.length
      · rw [if_pos hk3, if_pos (by simp; omega)]
        obtain ⟨m, hm⟩ : ∃ m, k - o = m + 1 := ⟨k - o - 1, by omega⟩
        rw [hm, List.getElem?_cons_succ]; congr 1; omega
      · rw [if_neg hk3, if_neg (by simp; omega), List.getElem?_set_ne (by omega)]

theorem lay_nil (z : List Value) (o : Nat) (h : o ≤ z.length) : lay z o [] = z := by simp [lay]

theorem foldl_lay (o : Nat) : ∀ (xs : List Value) (i : Nat) (z : Array Value), o + i + xs.length ≤ z.size →
    ((xs.zipIdx i).foldl (fun (cs : Array Value) (p : Value × Nat) => cs.setIfInBounds (o + p.2) p.1) z).toList = lay z.toList (o + i) xs
  | [], i, z, h => by simp at h; simp [lay_nil z.toList (o + i) (by simpa using h)]
  | x :: xs, i, z, h => by
    simp only [List.zipIdx_cons, List.foldl_cons]
    rw [foldl_lay o xs (i + 1) _ (by simp at *; omega)]
    rw [Array.toList_setIfInBounds]
    rw [← set_lay z.toList (o + i) x xs (by simpa using h)]
    rfl

theorem map_lay (ρ : Place) (z : List Value) (o : Nat) (xs : List Value) : (lay z o xs).map (trV ρ) = lay (z.map (trV ρ)) o (xs.map (trV ρ)) := by
  simp [lay, List.map_take, List.map_drop]

/-- The real filling, part by part. -/
theorem fill_run (place : Nat → Option (Nat × Nat)) : ∀ (ps : List (Nat × Nat × Nat × Value)) (z z' : List Value), (∀ p ∈ ps, place p.1 = some (p.2.1, p.2.2.1)) → (∀ p ∈ ps, okV S p.2.2.2) →
    ifill z (ps.map fun p => (p.2.1, p.2.2.1, p.2.2.2)) = some z' → (∀ v ∈ z, okV S v ∧ v.oneCell' = true) →
    Instr.fill place (z.map (trV ρ)).toArray (ps.map fun p => (p.1, trV ρ p.2.2.2)) = some (z'.map (trV ρ)).toArray ∧ (∀ v ∈ z', okV S v ∧ v.oneCell' = true)
  | [], z, z', _, _, h, hz => by simp [ifill] at h; subst h; exact ⟨rfl, hz⟩
  | (i, o, n, v) :: ps, z, z', hp, hok, h, hz => by
    simp only [List.map_cons, ifill] at h
    split at h
    · rename_i hc
      obtain ⟨hc1, hc2, hc3⟩ := hc
      have hlen : v.cells.toList.length = n := by simpa using hc1
      have hz' : ∀ u ∈ lay z o v.cells.toList, okV S u ∧ u.oneCell' = true := by
        intro u hu
        simp only [lay, List.mem_append] at hu
        rcases hu with (hu | hu) | hu
        · exact hz u (List.mem_of_mem_take hu)
        · exact okV_cells (hok (i, o, n, v) (by simp)) hc3 u (by simpa using hu)
        · exact hz u (List.mem_of_mem_drop hu)
      obtain ⟨r1, r2⟩ := fill_run place ps (lay z o v.cells.toList) z' (fun p hp' => hp p (by simp [hp'])) (fun p hp' => hok p (by simp [hp'])) h hz'
      refine ⟨?_, r2⟩
      simp only [List.map_cons, Instr.fill, hp (i, o, n, v) (by simp)]
      have hs : (trV ρ v).cells.size = n := by simpa using hc1
      rw [if_neg (by rw [hs]; simp; omega)]
      rw [← r1]
      congr 1
      apply Array.ext'
      have := foldl_lay o (v.cells.toList.map (trV ρ)) 0 (z.map (trV ρ)).toArray (by simp; omega)
      simp only [cells_trV]
      rw [← Array.foldl_toList]
      simp only [Array.toList_zipIdx, Array.toList_map]
      rw [this, map_lay]
      simp
    · cases h

end Go.IM

set_option linter.unusedSimpArgs false
namespace Go.IM
open Go Go.RowKit
set_option linter.unusedVariables false

variable {P : Program} {base ng : Nat} {S : Nat → Prop} {ρ : Place} {H H' : Heap} {w w1 : World} {f : Fr} {o : Oper} {v : Value}

theorem places_all : ∀ (fs : List Field), fs.all (fun f => (szO P f.type).isSome) = true →
    fs.mapM (fun f => (P.info? f.type).map fun i => (f.offset, i.size)) = some (fs.map fun f => (f.offset, (szO P f.type).getD 0))
  | [], _ => rfl
  | f :: fs, h => by
    simp only [List.all_cons, Bool.and_eq_true] at h
    have ih := places_all fs h.2
    have h1 := h.1
    unfold szO at h1 ⊢
    cases hi : P.info? f.type with
    | none => simp [hi] at h1
    | some i =>
      simp only [List.mapM_cons, hi, Option.map_some, Option.bind_eq_bind, Option.bind_some, Option.pure_def, List.map_cons, Option.getD_some]
      rw [ih]; rfl

theorem placesS_some (fs : List Field) : ∀ (ps : List (Nat × Operand)) (ps' : List (Nat × Nat × Operand)), placesS P fs ps = some ps' →
    ∃ L : List (Nat × Nat × Nat × Operand), ps = L.map (fun p => (p.1, p.2.2.2)) ∧ ps' = L.map (fun p => (p.2.1, p.2.2.1, p.2.2.2)) ∧
      ∀ p ∈ L, (fs.map fun f => (f.offset, (szO P f.type).getD 0))[p.1]? = some (p.2.1, p.2.2.1)
  | [], ps', h => by simp [placesS] at h; subst h; exact ⟨[], rfl, rfl, by simp⟩
  | (i, x) :: ps, ps', h => by
    simp only [placesS] at h
    split at h
    · rename_i g hg
      split at h
      · rename_i n l hn hl
        cases h
        obtain ⟨L, e1, e2, e3⟩ := placesS_some fs ps l hl
        refine ⟨(i, g.offset, n, x) :: L, by simp [e1], by simp [e2], ?_⟩
        intro p hp
        simp only [List.mem_cons] at hp
        rcases hp with rfl | hp
        · simp [hg, hn]
        · exact e3 p hp
      · cases h
    · cases h

theorem sim_bldS {t : TypeId} {fs : Array Field} {z c : List Value} {ps : Array (Nat × Operand)} {ps' : List (Nat × Nat × Operand)} (hop : o.op = .build t ps) (h : HRel base ng S ρ H w)
    (ht : P.underlying t = some (.struct fs)) (hz : zcO P t = some z) (hall : fs.toList.all (fun f => (szO P f.type).isSome) = true) (hp : placesS P fs.toList ps.toList = some ps')
    (hv : ∀ p ∈ ps.toList, okV S (ev f p.2)) (he : ifill z (ps'.map fun (o, n, x) => (o, n, ev f x)) = some c) :
    Sim P base ng S ρ H w (execOp (fun x => trV ρ (ev f x)) o) (.agg c.toArray) H := by
  obtain ⟨zv, hzv, z1, z2, rfl⟩ := zcO_some hz
  obtain ⟨z3, z4⟩ := flatZ z1 z2 ρ S
  obtain ⟨L, e1, e2, e3⟩ := placesS_some fs.toList ps.toList ps' hp
  have hfill := fill_run (ρ := ρ) (S := S) (fun i => (fs.toList.map fun f => (f.offset, (szO P f.type).getD 0)).toArray[i]?) (L.map fun p => (p.1, p.2.1, p.2.2.1, ev f p.2.2.2)) zv.cells.toList c
    (by intro p hp'; simp only [List.mem_map] at hp'; obtain ⟨q, hq, rfl⟩ := hp'; simpa using e3 q hq)
    (by intro p hp'; simp only [List.mem_map] at hp'; obtain ⟨q, hq, rfl⟩ := hp'; exact hv (q.1, q.2.2.2) (by rw [e1]; simp only [List.mem_map]; exact ⟨q, hq, rfl⟩))
    (by rw [← he, e2, List.map_map, List.map_map]; rfl) z4
  obtain ⟨i, hi⟩ : ∃ i, P.info? t = some i := by
    cases hi : P.info? t with
    | none => simp [zvO, hi] at hzv
    | some i => exact ⟨i, rfl⟩
  have hzi : i.zero = some zv := by simpa [zvO, hi] using hzv
  have hb : P.built t ((ps.map fun (i, x) => (i, trV ρ (ev f x))).toList) = some (c.map (trV ρ)).toArray := by
    unfold Program.built
    rw [hi, ht]
    simp only [hzi, places_all fs.toList hall]
    rw [← hfill.1, z3]
    simp only [Array.toArray_toList, Array.toList_map, e1, List.map_map]
    rfl
  refine Sim.same h ?_ ?_
  · have := run_build (P := P) w t _ _ hb
    simp [execOp, hop, trV_agg, this]
  · simp only [okV, one1_eq]; intro x hx; exact hfill.2 x (by simpa using hx)

theorem sim_bldA {t e : TypeId} {len n : Nat} {z c : List Value} {ps : Array (Nat × Operand)} (hop : o.op = .build t ps) (h : HRel base ng S ρ H w)
    (ht : P.underlying t = some (.array len e)) (hz : zcO P t = some z) (hn : szO P e = some n)
    (hv : ∀ p ∈ ps.toList, okV S (ev f p.2)) (he : ifill z ((placesA n ps.toList).map fun (o, n, x) => (o, n, ev f x)) = some c) :
    Sim P base ng S ρ H w (execOp (fun x => trV ρ (ev f x)) o) (.agg c.toArray) H := by
  obtain ⟨zv, hzv, z1, z2, rfl⟩ := zcO_some hz
  obtain ⟨z3, z4⟩ := flatZ z1 z2 ρ S
  have hfill := fill_run (ρ := ρ) (S := S) (fun i => some (i * n, n)) (ps.toList.map fun p => (p.1, p.1 * n, n, ev f p.2)) zv.cells.toList c
    (by intro p hp'; simp only [List.mem_map] at hp'; obtain ⟨q, hq, rfl⟩ := hp'; rfl)
    (by intro p hp'; simp only [List.mem_map] at hp'; obtain ⟨q, hq, rfl⟩ := hp'; exact hv q hq)
    (by rw [← he]; unfold placesA; rw [List.map_map, List.map_map]; rfl) z4
  obtain ⟨i, hi⟩ : ∃ i, P.info? t = some i := by
    cases hi : P.info? t with
    | none => simp [zvO, hi] at hzv
    | some i => exact ⟨i, rfl⟩
  have hzi : i.zero = some zv := by simpa [zvO, hi] using hzv
  obtain ⟨ie, hie⟩ : ∃ i, P.info? e = some i := by
    cases hi : P.info? e with
    | none => simp [szO, hi] at hn
    | some i => exact ⟨i, rfl⟩
  have hsz : ie.size = n := by simpa [szO, hie] using hn
  have hb : P.built t ((ps.map fun (i, x) => (i, trV ρ (ev f x))).toList) = some (c.map (trV ρ)).toArray := by
    unfold Program.built
    rw [hi, ht]
    simp only [hzi, hie, hsz]
    rw [← hfill.1, z3]
    simp only [Array.toArray_toList, Array.toList_map, List.map_map]
    rfl
  refine Sim.same h ?_ ?_
  · have := run_build (P := P) w t _ _ hb
    simp [execOp, hop, trV_agg, this]
  · simp only [okV, one1_eq]; intro x hx; exact hfill.2 x (by simpa using hx)

theorem Sim.freshS (h : HRel base ng S ρ H w) {s : Sem Next} {c : List Value} (n : Nat) (ty : TypeId)
    (hval : ∀ v ∈ c, okV S v ∧ v.oneCell' = true) (hs : s.run P w = .ok (.value (.slice (some ⟨w.heap.size, 0, none⟩) n n)) (w.alloc (.cells (c.map (trV ρ)).toArray ty))) :
    Sim P base ng S ρ H w s (.slice (some ⟨H.length, 0, none⟩) n (2 * n)) (H ++ [.cells c false 0]) := by
  obtain ⟨h1, h2⟩ := h.fresh (c := c) (rc := c.map (trV ρ)) (lo := 0) (e := 1) ty (by simp) (by simp) (fun k v hk => by
    refine ⟨by simp [hk], hval v (List.mem_of_getElem? hk)⟩)
  refine ⟨_, _, _, hs, .inl ?_, h1, h2, ?_⟩
  · simp [trV, trA, trCap]
  · simp only [okV]; exact ⟨okV_new _, trivial⟩

theorem Sim.freshM (h : HRel base ng S ρ H w) {s : Sem Next} {c : List Value} (n m : Nat) (ty : TypeId)
    (hval : ∀ v ∈ c, okV S v ∧ v.oneCell' = true) (hs : s.run P w = .ok (.value (.slice (some ⟨w.heap.size, 0, none⟩) n m)) (w.alloc (.cells (c.map (trV ρ)).toArray ty))) :
    Sim P base ng S ρ H w s (.slice (some ⟨H.length, 0, none⟩) n (2 * m)) (H ++ [.cells c false 0]) := by
  obtain ⟨h1, h2⟩ := h.fresh (c := c) (rc := c.map (trV ρ)) (lo := 0) (e := 1) ty (by simp) (by simp) (fun k v hk => by
    refine ⟨by simp [hk], hval v (List.mem_of_getElem? hk)⟩)
  refine ⟨_, _, _, hs, .inl ?_, h1, h2, ?_⟩
  · simp [trV, trA, trCap]
  · simp only [okV]; exact ⟨okV_new _, trivial⟩

theorem flat_rep (len : Nat) (z : List Value) : ∀ v ∈ (List.replicate len z).flatten, v ∈ z := by
  intro v hv
  simp only [List.mem_flatten, List.mem_replicate] at hv
  obtain ⟨l, ⟨_, rfl⟩, hv⟩ := hv
  exact hv

theorem rep_get (len : Nat) (z : List Value) (k : Nat) (hk : k < len * z.length) : (List.replicate len z).flatten[k]? = z[k % z.length]? := by
  induction len generalizing k with
  | zero => simp at hk
  | succ n ih =>
    rw [List.replicate_succ, List.flatten_cons]
    by_cases h1 : k < z.length
    · rw [List.getElem?_append_left h1, Nat.mod_eq_of_lt h1]
    · rw [List.getElem?_append_right (by omega), ih (k - z.length) (by rw [Nat.succ_mul] at hk; omega)]
      congr 1
      rw [Nat.mod_eq_sub_mod (a := k) (by omega)]

theorem len_rep (len : Nat) (z : List Value) : (List.replicate len z).flatten.length = len * z.length := by simp

theorem zero_cells (z : Array Value) (len n : Nat) (hz : z.size = n) : (Array.range (len * n)).map (fun i => z[i % z.size]!) = (List.replicate len z.toList).flatten.toArray := by
  apply Array.ext'
  apply List.ext_getElem?
  intro k
  by_cases hk : k < len * n
  · have hn : 0 < n := by
      rcases Nat.eq_zero_or_pos n with h | h
      · subst h; simp at hk
      · exact h
    have hlt : k % z.size < z.size := Nat.mod_lt _ (by omega)
    simp only [Array.toList_map, Array.toList_range, List.getElem?_map]
    rw [rep_get len z.toList k (by simpa [hz] using hk)]
    rw [List.getElem?_range hk]
    simp only [Option.map_some]
    rw [getElem!_pos z _ hlt]
    simp [Array.length_toList, hlt]
  · rw [List.getElem?_eq_none (by simp; omega), List.getElem?_eq_none (by simp [hz]; omega)]

theorem slO_some {t e : TypeId} (h : slO P t = some e) : P.underlying t = some (.slice e) := by
  unfold slO at h
  split at h
  · rename_i e' he; cases h; exact he
  · cases h

theorem sim_bsl {t e : TypeId} {len n : Nat} {z c : List Value} {ps : Array (Nat × Operand)} (hop : o.op = .buildSlice t len ps) (h : HRel base ng S ρ H w)
    (ht : slO P t = some e) (hz : zcO P e = some z) (hn : szO P e = some n) (hzn : z.length = n) (hbig : len * n ≤ 16777216)
    (hv : ∀ p ∈ ps.toList, okV S (ev f p.2)) (he : ifill (List.replicate len z).flatten ((placesA n ps.toList).map fun (o, n, x) => (o, n, ev f x)) = some c) :
    Sim P base ng S ρ H w (execOp (fun x => trV ρ (ev f x)) o) (.slice (some ⟨H.length, 0, none⟩) len (2 * len)) (H ++ [.cells c false 0]) := by
  obtain ⟨zv, hzv, z1, z2, rfl⟩ := zcO_some hz
  obtain ⟨z3, z4⟩ := flatZ z1 z2 ρ S
  have hfill := fill_run (ρ := ρ) (S := S) (fun i => some (i * n, n)) (ps.toList.map fun p => (p.1, p.1 * n, n, ev f p.2)) (List.replicate len zv.cells.toList).flatten c
    (by intro p hp'; simp only [List.mem_map] at hp'; obtain ⟨q, hq, rfl⟩ := hp'; rfl)
    (by intro p hp'; simp only [List.mem_map] at hp'; obtain ⟨q, hq, rfl⟩ := hp'; exact hv q hq)
    (by rw [← he]; unfold placesA; rw [List.map_map, List.map_map]; rfl) (fun v hv => z4 v (flat_rep _ _ v hv))
  have hzs : zv.cells.size = n := by simpa using hzn
  have hcells : (Array.range (len * n)).map (fun i => (if len * n = 0 then #[] else zv.cells)[i % (if len * n = 0 then (#[] : Array Value) else zv.cells).size]!) = ((List.replicate len zv.cells.toList).flatten.map (trV ρ)).toArray := by
    have hm : (List.replicate len zv.cells.toList).flatten.map (trV ρ) = (List.replicate len zv.cells.toList).flatten := by
      rw [List.map_flatten, List.map_replicate, z3]
    rw [hm]
    split
    · rename_i h0
      apply Array.ext'
      rw [h0]
      rcases Nat.mul_eq_zero.1 h0 with h1 | h1
      · simp [h1]
      · have : zv.cells.toList = [] := List.length_eq_zero_iff.1 (by omega)
        simp [this]
    · exact zero_cells zv.cells len n hzs
  refine Sim.freshS h len e hfill.2 ?_
  have hle : ¬ len * n > 2 ^ 24 := by omega
  simp only [execOp, hop, Instr.buildSlice, Sem.run_bind, und (slO_some ht), Result.andThen_ok, szr hn]
  rw [if_neg hle]
  have hf1 := hfill.1
  simp only [List.map_map] at hf1
  have hps : ((ps.map fun (i, x) => (i, trV ρ (ev f x))).toList) = ps.toList.map ((fun p => (p.1, trV ρ p.2.2.2)) ∘ fun p => (p.1, p.1 * n, n, ev f p.2)) := by
    simp only [Array.toList_map]; rfl
  split
  · rename_i h0
    simp only [h0, if_true] at hcells
    simp only [Sem.run_bind, Sem.run_pure, Result.andThen_ok, h0, hcells, hps, hf1]
    simp [newRow]
  · rename_i h0
    simp only [h0, if_false] at hcells
    simp only [Sem.run_bind, Sem.run_pure, Result.andThen_ok, zvr hzv, hcells, hps, hf1]
    simp [newRow]

end Go.IM
