/- Slices that a function owns, and other lemmas for symbolic runs. For every program. -/
import Derived.Test.YtpffdendgnkpoaaImF
namespace Go.IM
open Go Go.RowKit
set_option linter.unusedVariables false
set_option linter.unusedSimpArgs false

variable {α β : Type} {L : Lay α} {K : Lay β} {H H' H0 H1 : Heap} {v w : Value} {l : List α} {r : List β}

/-! ## Two slices that grow -/

/-- Their blocks differ, unless one has no room and no elements. -/
def Ap (v w : Value) : Prop := ∀ b k c k' c', v = .slice (some ⟨b, 0, none⟩) k c → w = .slice (some ⟨b, 0, none⟩) k' c' → (k = 0 ∧ c = 0) ∨ (k' = 0 ∧ c' = 0)

theorem Ap.symm (h : Ap v w) : Ap w v := fun b k c k' c' h1 h2 => (h b k' c' k c h2 h1).symm
theorem Ap.nil (w : Value) : Ap (.slice none 0 0) w := fun _ _ _ _ _ h => by simp at h
theorem Ap.nil' (v : Value) : Ap v (.slice none 0 0) := (Ap.nil v).symm

/-- One of two grows. -/
theorem Ow.app2 {l2 : List α} {n bytes : Nat} {xs : List Value} (h : Ow L H0 H v l) (k : Ow K H0 H w r) (ap : Ap v w) (hn : n = l2.length) (hx : xs = l2.flatMap L.c)
    (hb : (l.length + l2.length) * bytes < 1099511627776) (hc : l.length + l2.length < 1099511627776) :
    ∃ v' H', iapp L.m bytes v n xs H = some (v', H') ∧ Ow L H0 H' v' (l ++ l2) ∧ Ow K H0 H' w r ∧ Ap v' w ∧ (∀ b, b < H0.length → H'[b]? = H[b]?) ∧ H.length ≤ H'.length := by
  subst hn; subst hx
  have hxl : (l2.flatMap L.c).length = l2.length * L.m := flatMap_len L l2
  have hpre := h.pre
  have lowb : ∀ b, b < H0.length → ∀ k c, l ≠ [] ∨ c = 1 → v ≠ .slice (some ⟨b, 0, none⟩) k c := by
    intro b hb k c hlc hv
    obtain ⟨_, ⟨h1, _⟩ | ⟨b', h1, h2, _⟩ | ⟨b', o, h1, h2⟩⟩ := h
    · rw [hv] at h1; simp at h1
    · rw [hv] at h1; simp at h1; omega
    · rw [hv] at h1; simp at h1
      rcases hlc with hlc | hlc
      · exact hlc h2
      · omega
  by_cases e : l2 = []
  · subst e
    obtain ⟨v', H', e1, e2, e3⟩ := h.app (l2 := []) (n := 0) (bytes := bytes) (xs := []) rfl rfl (by simpa using hb) (by simpa using hc)
    have : (v', H') = (v, H) ∨ ((v', H') = (.slice none 0 0, H) ∧ v = .slice none 0 0) := by
      obtain ⟨_, ⟨rfl, rfl⟩ | ⟨b, rfl, h1, h2⟩ | ⟨b, o, rfl, rfl⟩⟩ := h
      · simp [iapp, L.pos] at e1; exact .inr ⟨by simp [e1], rfl⟩
      · simp [iapp, L.pos, wrow_of h2, cut_full _ (flatMap_len L l).symm] at e1; exact .inl (by simp [e1])
      · simp [iapp, L.pos] at e1; exact .inl (by simp [e1])
    refine ⟨v', H', by simpa using e1, by simpa using e2, ?_⟩
    rcases this with he | ⟨he, hv⟩
    · cases he; exact ⟨k, ap, fun _ _ => rfl, Nat.le_refl _⟩
    · cases he; subst hv; exact ⟨k, ap, fun _ _ => rfl, Nat.le_refl _⟩
  · have epos : ¬ l2.length = 0 := fun he => e (List.eq_nil_of_length_eq_zero he)
    have apn : Ap (.slice (some ⟨H.length, 0, none⟩) (l.length + l2.length) 1) w := by
      intro b k1 c1 k2 c2 h1 h2
      simp at h1
      obtain ⟨rfl, _, _⟩ := h1
      obtain ⟨_, ⟨g1, _⟩ | ⟨b', g1, g2, g3⟩ | ⟨b', o, g1, g2⟩⟩ := k
      · rw [h2] at g1; simp at g1
      · rw [h2] at g1; simp at g1
        have := (List.getElem?_eq_some_iff.1 g3).1
        omega
      · rw [h2] at g1; simp at g1; exact .inr ⟨g1.2.1, g1.2.2⟩
    obtain ⟨_, ⟨rfl, rfl⟩ | ⟨b, rfl, h1, h2⟩ | ⟨b, o, rfl, rfl⟩⟩ := h
    · refine ⟨_, _, by simp only [iapp]; rw [if_pos ⟨hxl, L.pos⟩]; simp only [epos, if_false]; rw [if_pos (by simpa using And.intro hb hc)], ⟨hpre.push rfl, .inr (.inl ⟨H.length, by simp, hpre.len, by simp⟩)⟩, k.mono ((Pre.refl H).push rfl), by simpa using apn, fun b hb => List.getElem?_append_left (Nat.lt_of_lt_of_le hb hpre.len), by simp⟩
    · have hlt := (List.getElem?_eq_some_iff.1 h2).1
      have hkeep : Ow K H0 (H.set b .dead ++ [.cells (l.flatMap L.c ++ l2.flatMap L.c) false L.m]) w r := by
        obtain ⟨q0, q⟩ := k
        refine ⟨(hpre.set h1 rfl).push rfl, ?_⟩
        rcases q with q | ⟨b', q1, q2, q3⟩ | q
        · exact .inl q
        · refine .inr (.inl ⟨b', q1, q2, ?_⟩)
          have hlt' := (List.getElem?_eq_some_iff.1 q3).1
          have hne : b ≠ b' := by
            rintro rfl
            have := ap b _ _ _ _ rfl q1
            omega
          rw [List.getElem?_append_left (by simpa using hlt'), List.getElem?_set_ne hne]; exact q3
        · exact .inr (.inr q)
      refine ⟨_, _, by
        simp only [iapp]; rw [if_pos ⟨hxl, L.pos⟩]
        simp only [Nat.one_mod, Nat.one_ne_zero, if_false, wrow_of h2, if_true, cut_full _ (flatMap_len L l).symm, epos]
        rw [if_pos ⟨hb, hc⟩], ⟨(hpre.set h1 rfl).push rfl, .inr (.inl ⟨H.length, by simp, hpre.len, ?_⟩)⟩, hkeep, by simpa using apn, fun b' hb' => ?_, by simp⟩
      · rw [List.getElem?_append_right (by simp)]; simp
      · rw [List.getElem?_append_left (by simp; exact Nat.lt_of_lt_of_le hb' hpre.len), List.getElem?_set_ne (by omega)]
    · have e2 : ¬ l2.length ≤ 0 := by omega
      refine ⟨.slice (some ⟨H.length, 0, none⟩) l2.length 1, H ++ [.cells (l2.flatMap L.c) false L.m], ?_, ⟨hpre.push rfl, .inr (.inl ⟨H.length, by simp, hpre.len, by simp⟩)⟩, k.mono ((Pre.refl H).push rfl), by simpa using apn, fun b hb => List.getElem?_append_left (Nat.lt_of_lt_of_le hb hpre.len), by simp⟩
      simp only [List.length_nil, Nat.zero_add] at hb hc
      simp [iapp, IM.elems, e2, hb, hc, L.pos, hxl]

/-! ## A slice whose block is its own -/

structure Mine (L : Lay α) (lo : Nat) (H : Heap) (v : Value) (l : List α) (b : Nat) : Prop where
  is : 0 < l.length → v = .slice (some ⟨b, 0, none⟩) l.length 1 ∧ lo ≤ b ∧ H.wrow b = some (l.flatMap L.c, L.m)
  nil : l = [] → ∀ H, Sl L H v []

theorem Mine.sl {lo b : Nat} (h : Mine L lo H v l b) : Sl L H v l := by
  by_cases e : 0 < l.length
  · obtain ⟨h1, _, h3⟩ := h.is e
    exact ⟨.inr ⟨b, 0, 1, h1, .inr ⟨_, row_wrow h3, [], [], by simp, rfl⟩⟩⟩
  · have : l = [] := List.eq_nil_of_length_eq_zero (by omega)
    subst this; exact h.nil rfl H

theorem Mine.of (h : Ow L H0 H v l) : ∃ b, Mine L H0.length H v l b ∧ (0 < l.length → b < H.length) := by
  have hs := h.sl
  by_cases e : 0 < l.length
  · obtain ⟨b, h1, h2, h3, h4⟩ := h.into e
    exact ⟨b, ⟨fun _ => ⟨h1, h2, h4⟩, fun e2 => by subst e2; simp at e⟩, fun _ => h3⟩
  · have : l = [] := List.eq_nil_of_length_eq_zero (by omega)
    subst this
    refine ⟨0, ⟨fun h => absurd h e, fun _ H' => ?_⟩, fun h => absurd h e⟩
    obtain ⟨h | ⟨b, o, c, h1, h2⟩⟩ := hs
    · exact ⟨.inl h⟩
    · exact ⟨.inr ⟨b, o, c, h1, .inl rfl⟩⟩

theorem Mine.lt {lo b : Nat} (h : Mine L lo H v l b) (e : 0 < l.length) : b < H.length := wrow_lt (h.is e).2.2

theorem Mine.mono {lo lo' b : Nat} (h : Mine L lo H v l b) (hp : Pre H H') (hl : lo' ≤ lo) : Mine L lo' H' v l b :=
  ⟨fun e => by obtain ⟨h1, h2, h3⟩ := h.is e; exact ⟨h1, by omega, wrow_pfx' hp h3⟩, h.nil⟩

theorem Mine.app {lo b : Nat} (h : Mine L lo H v l b) {G : Heap} : Mine L lo (H ++ G) v l b :=
  ⟨fun e => by obtain ⟨h1, h2, h3⟩ := h.is e; exact ⟨h1, h2, by rw [wrow_app (wrow_lt h3)]; exact h3⟩, h.nil⟩

/-- Another block was written. -/
theorem Mine.other {lo b b' : Nat} {x : IObj} (h : Mine L lo H v l b) (hb : 0 < l.length → b' ≠ b) : Mine L lo (H.set b' x) v l b :=
  ⟨fun e => by obtain ⟨h1, h2, h3⟩ := h.is e; exact ⟨h1, h2, by rw [wrow_set_ne (hb e)]; exact h3⟩, h.nil⟩

/-- An element was written. -/
theorem Mine.set {lo b i : Nat} (h : Mine L lo H v l b) (hi : i < l.length) (x : α) :
    Mine L lo (H.set b (.cells (lay (l.flatMap L.c) (i * L.m) (L.c x)) false L.m)) v (l.set i x) b := by
  obtain ⟨h1, h2, h3⟩ := h.is (by omega)
  refine ⟨fun _ => ⟨by rw [List.length_set]; exact h1, h2, ?_⟩, fun e => ?_⟩
  · rw [wrow_set_same (wrow_lt h3), lay_flatMap l i x hi]
  · have : (l.set i x).length = 0 := by rw [e]; rfl
    rw [List.length_set] at this; omega

/-- What lies where. -/
theorem Mine.at {lo b : Nat} (h : Mine L lo H v l b) (e : 0 < l.length) : v = .slice (some ⟨b, 0, none⟩) l.length 1 ∧ lo ≤ b ∧ b < H.length ∧ H.wrow b = some (l.flatMap L.c, L.m) ∧ SlIn L H b 0 l (l.flatMap L.c) := by
  obtain ⟨h1, h2, h3⟩ := h.is e
  exact ⟨h1, h2, wrow_lt h3, h3, SlIn.of (row_wrow h3) (pre := []) (post := []) (by simp) rfl⟩

theorem Mine.pre {lo b : Nat} {c : List Value} {k : Nat} (h : Mine L lo H v l b) (e : 0 < l.length) (hp : Pre H0 H) (hl : H0.length ≤ lo) : Pre H0 (H.set b (.cells c false k)) :=
  hp.set (Nat.le_trans hl (h.is e).2.1) rfl

/-- `append([]T{}, s...)`. -/
theorem clone_app {n bytes : Nat} (hs : Sl L H w l) (hp : Pre H0 H) (hn : n = l.length) (hb : l.length * bytes < 1099511627776) (hc : l.length < 1099511627776) :
    ∃ v' G, iapp L.m bytes (.slice (some ⟨H.length, 0, none⟩) 0 0) n (l.flatMap L.c) (H ++ [.cells [] false 0]) = some (v', H ++ [.cells [] false 0] ++ G) ∧ NR G ∧ Ow L H0 (H ++ [.cells [] false 0] ++ G) v' l := by
  have ow : Ow L H0 (H ++ [.cells [] false 0]) (.slice (some ⟨H.length, 0, none⟩) 0 0) [] := ⟨hp.push rfl, .inr (.inr ⟨_, _, rfl, rfl⟩)⟩
  by_cases e : l = []
  · subst e; subst hn
    exact ⟨.slice (some ⟨H.length, 0, none⟩) 0 0, [], by simp [iapp, L.pos], by simp [NR], by simpa using ow⟩
  · have epos : ¬ l.length = 0 := fun he => e (List.eq_nil_of_length_eq_zero he)
    have e2 : ¬ l.length ≤ 0 := by omega
    subst hn
    refine ⟨.slice (some ⟨(H ++ [IObj.cells [] false 0]).length, 0, none⟩) l.length 1, [.cells (l.flatMap L.c) false L.m], ?_, by simp [NR, nro], ⟨((hp.push rfl).push rfl), .inr (.inl ⟨(H ++ [IObj.cells [] false 0]).length, by simp, (hp.push (x := .cells [] false 0) rfl).len, ?_⟩)⟩⟩
    · have hfl := flatMap_len L l
      unfold iapp
      rw [if_pos ⟨hfl, L.pos⟩]
      simp [IM.elems, e2, hb, hc]
    · simp

/-! ## A slice that grows, whatever its room -/

structure Gr (L : Lay α) (H0 H : Heap) (v : Value) (l : List α) : Prop where
  pre : Pre H0 H
  is : (v = .slice none 0 0 ∧ l = []) ∨ (∃ b, v = .slice (some ⟨b, 0, none⟩) l.length 1 ∧ H0.length ≤ b ∧ H[b]? = some (.cells (l.flatMap L.c) false L.m)) ∨
    (∃ b k rest lo, v = .slice (some ⟨b, 0, none⟩) l.length (2 * k) ∧ H0.length ≤ b ∧ H[b]? = some (.cells (l.flatMap L.c ++ rest) false lo) ∧ l.length * L.m + rest.length = k * L.m)

theorem Gr.nil (h : Pre H0 H) : Gr L H0 H (.slice none 0 0) [] := ⟨h, .inl ⟨rfl, rfl⟩⟩
theorem Gr.of_ow (h : Ow L H0 H v l) (hne : l ≠ []) : Gr L H0 H v l := by
  obtain ⟨hp, h | ⟨b, h⟩ | ⟨b, o, _, h⟩⟩ := h
  · exact ⟨hp, .inl h⟩
  · exact ⟨hp, .inr (.inl ⟨b, h⟩)⟩
  · exact absurd h hne

/-- A literal. -/
theorem Gr.lit {c : List Value} {lo : Nat} (hp : Pre H0 H) (hc : c = l.flatMap L.c) : Gr L H0 (H ++ [.cells c false lo]) (.slice (some ⟨H.length, 0, none⟩) l.length (2 * l.length)) l :=
  ⟨hp.push rfl, .inr (.inr ⟨H.length, l.length, [], lo, rfl, hp.len, by simp [hc], by simp⟩)⟩

/-- `make([]T, 0, k)`. -/
theorem Gr.make {c : List Value} {k lo : Nat} (hp : Pre H0 H) (hc : c.length = k * L.m) : Gr L H0 (H ++ [.cells c false lo]) (.slice (some ⟨H.length, 0, none⟩) 0 (2 * k)) ([] : List α) :=
  ⟨hp.push rfl, .inr (.inr ⟨H.length, k, c, lo, rfl, hp.len, by simp, by simpa using hc⟩)⟩

theorem Gr.sl (h : Gr L H0 H v l) : Sl L H v l := by
  obtain ⟨_, ⟨h1, h2⟩ | ⟨b, h1, _, h2⟩ | ⟨b, k, rest, lo, h1, _, h2, _⟩⟩ := h
  · exact ⟨.inl ⟨h1, h2⟩⟩
  · exact ⟨.inr ⟨b, 0, 1, h1, .inr ⟨_, row_of h2, [], [], by simp, rfl⟩⟩⟩
  · exact ⟨.inr ⟨b, 0, 2 * k, h1, .inr ⟨_, row_of h2, [], rest, by simp, rfl⟩⟩⟩

theorem Gr.mono (h : Gr L H0 H v l) (hp : Pre H H') : Gr L H0 H' v l := by
  obtain ⟨h0, h⟩ := h
  refine ⟨h0.trans hp, ?_⟩
  rcases h with h | ⟨b, h1, h2, h3⟩ | ⟨b, k, rest, lo, h1, h2, h3, h4⟩
  · exact .inl h
  · exact .inr (.inl ⟨b, h1, h2, by rw [hp.get (List.getElem?_eq_some_iff.1 h3).1]; exact h3⟩)
  · exact .inr (.inr ⟨b, k, rest, lo, h1, h2, by rw [hp.get (List.getElem?_eq_some_iff.1 h3).1]; exact h3, h4⟩)

theorem Gr.low (h : Gr L H0 H v l) {Hb : Heap} (hp : Pre Hb H0) : Gr L Hb H v l := by
  obtain ⟨h0, h⟩ := h
  have hl := hp.len
  refine ⟨hp.trans h0, ?_⟩
  rcases h with h | ⟨b, h1, h2, h3⟩ | ⟨b, k, rest, lo, h1, h2, h3, h4⟩
  · exact .inl h
  · exact .inr (.inl ⟨b, h1, by omega, h3⟩)
  · exact .inr (.inr ⟨b, k, rest, lo, h1, by omega, h3, h4⟩)

/-- Its block is another. -/
def Off (v : Value) (b : Nat) : Prop := ∀ k c, v ≠ .slice (some ⟨b, 0, none⟩) k c

theorem Off.ge {b b' k c : Nat} (h : b ≠ b') : Off (.slice (some ⟨b', 0, none⟩) k c) b := fun k c e => by simp at e; exact h e.1.symm

/-- A slice whose block was left. -/
theorem Sl.keep (h : Sl L H v l) (hk : ∀ b o k c, v = .slice (some ⟨b, o, none⟩) k c → H'[b]? = H[b]?) : Sl L H' v l := by
  obtain ⟨h | ⟨b, o, c, h1, h2⟩⟩ := h
  · exact ⟨.inl h⟩
  · refine ⟨.inr ⟨b, o, c, h1, ?_⟩⟩
    rcases h2 with h2 | ⟨row, h3, h4⟩
    · exact .inl h2
    · exact .inr ⟨row, by have := hk b o _ _ h1; unfold Heap.row at *; rw [this]; exact h3, h4⟩

theorem lay_mid (a x r : List Value) (h : x.length ≤ r.length) : lay (a ++ r) a.length x = a ++ x ++ r.drop x.length := by
  unfold lay
  rw [List.take_left' rfl, ← List.drop_drop, List.drop_left' rfl]

theorem Gr.app {l2 : List α} {n bytes : Nat} {xs : List Value} (h : Gr L H0 H v l) (hn : n = l2.length) (hx : xs = l2.flatMap L.c)
    (hb : (l.length + l2.length) * bytes < 1099511627776) (hc : l.length + l2.length < 1099511627776) :
    ∃ v' H', iapp L.m bytes v n xs H = some (v', H') ∧ Gr L H0 H' v' (l ++ l2) ∧ (∀ b, b < H.length → Off v b → H'[b]? = H[b]? ∧ Off v' b) ∧ H.length ≤ H'.length := by
  subst hn; subst hx
  have hxl : (l2.flatMap L.c).length = l2.length * L.m := flatMap_len L l2
  have hs := h.sl
  obtain ⟨h0, ⟨rfl, rfl⟩ | ⟨b, rfl, h1, h2⟩ | ⟨b, k, rest, lo, rfl, h1, h2, h3⟩⟩ := h
  · unfold iapp
    rw [if_pos ⟨hxl, L.pos⟩]
    simp only [List.length_nil, Nat.zero_add] at hb hc
    by_cases e : l2.length = 0
    · have : l2 = [] := List.eq_nil_of_length_eq_zero e
      subst this
      exact ⟨_, _, by simp only [List.length_nil, if_true], Gr.nil h0, fun _ _ h => ⟨rfl, h⟩, Nat.le_refl _⟩
    · exact ⟨_, _, by simp only [e, if_false]; rw [if_pos ⟨hb, hc⟩], ⟨h0.push rfl, .inr (.inl ⟨H.length, by simp, h0.len, by simp⟩)⟩, fun b hb _ => ⟨List.getElem?_append_left hb, Off.ge (by omega)⟩, by simp⟩
  · unfold iapp
    rw [if_pos ⟨hxl, L.pos⟩]
    simp only [Nat.one_mod, Nat.one_ne_zero, if_false, wrow_of h2, if_true]
    rw [cut_full _ (by rw [flatMap_len])]
    by_cases e : l2.length = 0
    · have : l2 = [] := List.eq_nil_of_length_eq_zero e
      subst this
      exact ⟨.slice (some ⟨b, 0, none⟩) l.length 1, H, by simp only [List.length_nil, if_true], ⟨h0, .inr (.inl ⟨b, by simp, h1, by simpa using h2⟩)⟩, fun _ _ h => ⟨rfl, h⟩, Nat.le_refl _⟩
    · refine ⟨_, _, by simp only [e, if_false]; rw [if_pos ⟨hb, hc⟩], ⟨(h0.set h1 rfl).push rfl, .inr (.inl ⟨H.length, by simp, h0.len, ?_⟩)⟩, fun b' hb' hoff => ⟨?_, Off.ge (by omega)⟩, by simp⟩
      · rw [List.getElem?_append_right (by simp)]; simp
      · rw [List.getElem?_append_left (by simpa using hb'), List.getElem?_set_ne (by rintro rfl; exact hoff _ _ rfl)]
  · have hlt := (List.getElem?_eq_some_iff.1 h2).1
    have hk : l.length ≤ k := Nat.le_of_mul_le_mul_right (by omega) L.pos
    have hfl : (l.flatMap L.c).length = l.length * L.m := flatMap_len L l
    unfold iapp
    rw [if_pos ⟨hxl, L.pos⟩]
    simp only [Nat.mul_mod_right, if_true, Nat.mul_div_cancel_left k (show 0 < 2 by decide)]
    by_cases hfit : l.length + l2.length ≤ k
    · simp only [hfit, if_true]
      have hroom : l2.length * L.m ≤ rest.length := by
        have := Nat.mul_le_mul_right L.m hfit
        rw [Nat.add_mul] at this; omega
      by_cases e : l2.length = 0
      · have : l2 = [] := List.eq_nil_of_length_eq_zero e
        subst this
        exact ⟨.slice (some ⟨b, 0, none⟩) l.length (2 * k), H, by simp, ⟨h0, .inr (.inr ⟨b, k, rest, lo, by simp, h1, by simpa using h2, by simpa using h3⟩)⟩, fun _ _ h => ⟨rfl, h⟩, Nat.le_refl _⟩
      · simp only [e, if_false, wrow_of h2]
        rw [if_pos (by simp only [List.length_append, hfl, Nat.zero_add, Nat.add_mul]; omega)]
        refine ⟨_, _, rfl, ⟨h0.set h1 rfl, .inr (.inr ⟨b, k, rest.drop (l2.flatMap L.c).length, lo, by simp, h1, ?_, ?_⟩)⟩, fun b' hb' hoff => ⟨List.getElem?_set_ne (by rintro rfl; exact hoff _ _ rfl), fun k2 c2 e => hoff l.length (2 * k) (by simp at e ⊢; exact e.1)⟩, by simp⟩
        · rw [List.getElem?_set_self hlt]
          have := lay_mid (l.flatMap L.c) (l2.flatMap L.c) rest (by omega)
          rw [hfl] at this
          simp only [Nat.zero_add, this, List.flatMap_append]
        · simp only [List.length_append, List.length_drop, hxl, Nat.add_mul]; omega
    · simp only [hfit, if_false]
      rw [if_pos ⟨hb, hc⟩]
      have hel := hs.elems
      simp only [hel]
      exact ⟨_, _, rfl, ⟨h0.push rfl, .inr (.inl ⟨H.length, by simp, h0.len, by simp⟩)⟩, fun b' hb' _ => ⟨List.getElem?_append_left hb', Off.ge (by omega)⟩, by simp⟩

/-! ## Maps -/

section
variable {κ : Type} [DecidableEq κ]

def mget (m : List (κ × Value)) (x : κ) : Option Value := (m.find? fun p => p.1 = x).map (·.2)
def mput : List (κ × Value) → κ → Value → List (κ × Value)
  | [], x, v => [(x, v)]
  | p :: m, x, v => if p.1 = x then (x, v) :: m else p :: mput m x v

theorem mget_put (m : List (κ × Value)) (x y : κ) (v : Value) : mget (mput m x v) y = if y = x then some v else mget m y := by
  induction m with
  | nil =>
    by_cases h : y = x
    · subst h; simp [mput, mget]
    · simp [mput, mget, h, Ne.symm h]
  | cons p m ih =>
    unfold mput
    by_cases hp : p.1 = x
    · rw [if_pos hp]
      by_cases h : y = x
      · subst h; simp [mget]
      · have : ¬ p.1 = y := fun e => h (by rw [← e, hp])
        simp [mget, h, Ne.symm h, this]
    · rw [if_neg hp]
      by_cases h : p.1 = y
      · have : ¬ y = x := fun e => hp (by rw [h, e])
        simp [mget, h, this]
      · have ih' := ih
        simp only [mget] at ih' ⊢
        simp only [List.find?_cons, h, decide_false]
        exact ih'

/-- A map's object holds the pairs `m`, whose keys are written by `kv`. -/
def MapH (kv : κ → Value) (H : Heap) (b : Nat) (m : List (κ × Value)) : Prop :=
  ∃ es ck, H.mapAt b = some (es, ck) ∧ es.map (fun (e : MapEntry) => (e.key, e.val)) = m.map fun p => (kv p.1, p.2)

omit [DecidableEq κ] in
theorem MapH.mono {kv : κ → Value} {b : Nat} {m : List (κ × Value)} (h : MapH kv H b m) (hp : Pre H H') : MapH kv H' b m := by
  obtain ⟨es, ck, h1, h2⟩ := h; exact ⟨es, ck, mapAt_pfx' hp h1, h2⟩
omit [DecidableEq κ] in
theorem MapH.app {kv : κ → Value} {b : Nat} {m : List (κ × Value)} {G : Heap} (h : MapH kv H b m) : MapH kv (H ++ G) b m := by
  obtain ⟨es, ck, h1, h2⟩ := h; exact ⟨es, ck, by rw [mapAt_app (mapAt_lt h1)]; exact h1, h2⟩
omit [DecidableEq κ] in
theorem MapH.other {kv : κ → Value} {b b' : Nat} {m : List (κ × Value)} {x : IObj} (h : MapH kv H b m) (hb : b' ≠ b) : MapH kv (H.set b' x) b m := by
  obtain ⟨es, ck, h1, h2⟩ := h; exact ⟨es, ck, by rw [mapAt_set_ne hb]; exact h1, h2⟩
omit [DecidableEq κ] in
theorem MapH.new {kv : κ → Value} : MapH kv (H ++ [.map [] 0]) H.length ([] : List (κ × Value)) := ⟨[], 0, mapAt_new' rfl, rfl⟩

theorem find_kv {kk : KeyK} {kv : κ → Value} (hk : ∀ a b, keyEq kk (kv a) (kv b) = some (decide (a = b))) (x : κ) : ∀ (es : List MapEntry) (m : List (κ × Value)), es.map (fun (e : MapEntry) => (e.key, e.val)) = m.map (fun p => (kv p.1, p.2)) →
    (∃ i e, mget m x = some e.val ∧ find kk es (kv x) = some (some i) ∧ es[i]? = some e ∧ ∀ v, (es.modify i fun (e : MapEntry) => { e with val := v }).map (fun (e : MapEntry) => (e.key, e.val)) = (mput m x v).map fun p => (kv p.1, p.2)) ∨
    (mget m x = none ∧ find kk es (kv x) = some none ∧ ∀ v ck, (es ++ [({ key := kv x, val := v, born := ck } : MapEntry)]).map (fun (e : MapEntry) => (e.key, e.val)) = (mput m x v).map fun p => (kv p.1, p.2))
  | [], [], _ => .inr ⟨rfl, rfl, fun v ck => by simp [mput]⟩
  | [], _ :: _, h => by simp at h
  | _ :: _, [], h => by simp at h
  | e :: es, p :: m, h => by
    simp only [List.map_cons, List.cons.injEq, Prod.mk.injEq] at h
    obtain ⟨⟨h1, h2⟩, h3⟩ := h
    have hq : keyEq kk (kv x) e.key = some (decide (x = p.1)) := by rw [h1]; exact hk x p.1
    by_cases hx : p.1 = x
    · refine .inl ⟨0, e, by simp [mget, hx, h2], by simp [find, hq, hx], rfl, fun v => ?_⟩
      simp only [List.modify_zero_cons, List.map_cons, mput, hx, if_true, h1, h3]
    · have hx' : ¬ x = p.1 := fun e => hx e.symm
      rcases find_kv hk x es m h3 with ⟨i, e', a1, a2, a3, a4⟩ | ⟨a1, a2, a3⟩
      · refine .inl ⟨i + 1, e', ?_, by simp [find, hq, hx', a2], by simpa using a3, fun v => ?_⟩
        · simp only [mget] at a1 ⊢; simp only [List.find?_cons, hx, decide_false]; exact a1
        · simp only [List.modify_succ_cons, List.map_cons, mput, hx, if_false, a4, h1, h2]
      · refine .inr ⟨?_, by simp [find, hq, hx', a2], fun v ck => ?_⟩
        · simp only [mget] at a1 ⊢; simp only [List.find?_cons, hx, decide_false]; exact a1
        · have := a3 v ck
          simp only [List.cons_append, List.map_cons, mput, hx, if_false, h1, h2, this]

/-- What a look at a map's key finds, and what the map is behind a write there. -/
theorem MapH.look {kk : KeyK} {kv : κ → Value} {b : Nat} {m : List (κ × Value)} (h : MapH kv H b m) (hk : ∀ a b, keyEq kk (kv a) (kv b) = some (decide (a = b))) (x : κ) : ∃ es ck, H.mapAt b = some (es, ck) ∧ b < H.length ∧
    ((∃ i e, mget m x = some e.val ∧ look kk es (kv x) = some (some i) ∧ es[i]? = some e ∧ ∀ v, MapH kv (H.set b (.map (es.modify i fun (e : MapEntry) => { e with val := v }) ck)) b (mput m x v)) ∨
     (mget m x = none ∧ look kk es (kv x) = some none ∧ ∀ v, MapH kv (H.set b (.map (es ++ [({ key := kv x, val := v, born := ck } : MapEntry)]) (ck + 1))) b (mput m x v))) := by
  obtain ⟨es, ck, h1, h2⟩ := h
  have hok : keyOk kk (kv x) = true := by simp [keyOk, hk]
  have hlt := mapAt_lt h1
  refine ⟨es, ck, h1, hlt, ?_⟩
  unfold IM.look
  rw [if_pos hok]
  rcases find_kv hk x es m h2 with ⟨i, e, a1, a2, a3, a4⟩ | ⟨a1, a2, a3⟩
  · exact .inl ⟨i, e, a1, a2, a3, fun v => ⟨_, _, mapAt_set_same hlt, a4 v⟩⟩
  · exact .inr ⟨a1, a2, fun v => ⟨_, _, mapAt_set_same hlt, a3 v ck⟩⟩

theorem keyEq_int (a b : Int) : keyEq ⟨false, [.i]⟩ (.int .i64 a) (.int .i64 b) = some (decide (a = b)) := by
  simp [keyEq, seq1]; exact Bool.beq_eq_decide_eq a b |>.symm ▸ rfl
end

theorem pre_app {G : Heap} (h : Pre H H') (hG : NR G) : Pre H (H' ++ G) = True := eq_true (h.app hG)
theorem pre_of (h : Pre H H') : Pre H H' = True := eq_true h
theorem ow_pre {v : Value} {l : List α} (h : Ow L H0 H v l) : Pre H0 H := h.pre

attribute [go_sem] pre_app

end Go.IM
