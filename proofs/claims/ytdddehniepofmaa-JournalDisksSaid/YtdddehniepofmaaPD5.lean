/-
  Joined texts, 5 of 6. A part of the claim that the last text states.
-/
import Derived.ProofKit
import Derived.Deep.Slices
import Derived.OpenShut
import Derived.Test.YtdddehniepofmaaPD4
set_option linter.unusedVariables false
set_option linter.unusedSimpArgs false
namespace Go.AM
open Go.ChangeShapes Go.WideShapes Go.ChangeAt Go.RowKit

/-- The types of data: a struct is a row of pairs. -/
inductive Ty where
  | int (k : IntKind) | bool | str | slice (t : Ty) | arr (n : Nat) (t : Ty) | nil | pair (a b : Ty)

def Ty.size : Ty → Nat
  | .nil => 0
  | .arr n t => n * t.size
  | .pair a b => a.size + b.size
  | _ => 1

/-- The data of a type. -/
abbrev Ty.den : Ty → Type
  | .int _ => Int
  | .bool => Bool
  | .str => ByteArray
  | .slice t => List t.den
  | .arr _ t => List t.den
  | .nil => Unit
  | .pair a b => a.den × b.den

/-- How data lie in cells. -/
def Rep : (t : Ty) → Heap → t.den → List Value → Prop
  | .int k, _, n, cs => cs = [.int k n] ∧ k.min ≤ n ∧ n ≤ k.max
  | .bool, _, b, cs => cs = [.bool b]
  | .str, _, s, cs => cs = [.string s] ∧ s.size ≤ maxLen
  | .slice t, H, l, cs => l.length ≤ maxLen ∧ ∃ p cap, cs = [.slice p l.length cap] ∧ (p = none → l = [] ∧ cap = 0) ∧
      ∀ a, p = some a → a.spot = none ∧ a.off = 0 ∧ cap = loose t.size ∧ (l ≠ [] → ∃ es : List (List Value), hget H a.block = .cells true es.flatten ∧ es.length = l.length ∧ ∀ (i : Nat) x e, l[i]? = some x → es[i]? = some e → Rep t H x e)
  | .arr n t, H, l, cs => ∃ es : List (List Value), cs = es.flatten ∧ es.length = n ∧ l.length = n ∧ ∀ (i : Nat) x e, l[i]? = some x → es[i]? = some e → Rep t H x e
  | .nil, _, _, cs => cs = []
  | .pair a b, H, x, cs => ∃ c1 c2, cs = c1 ++ c2 ∧ Rep a H x.1 c1 ∧ Rep b H x.2 c2

theorem Rep.app : ∀ {t : Ty} {H : Heap} {x : t.den} {cs : List Value} (_ : Rep t H x cs) (X : Heap), Rep t (H ++ X) x cs
  | .int _, _, _, _, h, _ => h
  | .bool, _, _, _, h, _ => h
  | .str, _, _, _, h, _ => h
  | .nil, _, _, _, h, _ => h
  | .pair a b, _, _, _, ⟨c1, c2, e, h1, h2⟩, X => ⟨c1, c2, e, h1.app X, h2.app X⟩
  | .arr n t, H, l, cs, ⟨es, e, h1, h2, h3⟩, X => ⟨es, e, h1, h2, fun i x c hx hc => (h3 i x c hx hc).app X⟩
  | .slice t, H, l, cs, ⟨h0, p, cap, e, h1, h2⟩, X => by
    refine ⟨h0, p, cap, e, h1, fun a ha => ?_⟩
    obtain ⟨k1, k2, k3, k4⟩ := h2 a ha
    refine ⟨k1, k2, k3, fun hl => ?_⟩
    obtain ⟨es, m1, m2, m3⟩ := k4 hl
    exact ⟨es, by rw [hget_old (hget_alive m1)]; exact m1, m2, fun i x e hx he => (m3 i x e hx he).app X⟩

theorem flatten_len {k : Nat} : ∀ {es : List (List Value)}, (∀ e ∈ es, e.length = k) → es.flatten.length = es.length * k
  | [], _ => by simp
  | e :: es, h => by
    rw [List.flatten_cons, List.length_append, h e (by simp), flatten_len (fun x hx => h x (by simp [hx])), List.length_cons, Nat.succ_mul]; omega
theorem Rep.len : ∀ {t : Ty} {H : Heap} {x : t.den} {cs : List Value} (_ : Rep t H x cs), cs.length = t.size
  | .int _, _, _, _, h => by rw [h.1]; rfl
  | .bool, _, _, _, h => by simp only [Rep] at h; rw [h]; rfl
  | .str, _, _, _, h => by rw [h.1]; rfl
  | .nil, _, _, _, h => by simp only [Rep] at h; rw [h]; rfl
  | .pair a b, _, _, _, ⟨c1, c2, e, h1, h2⟩ => by rw [e, List.length_append, h1.len, h2.len]; rfl
  | .slice t, H, l, cs, ⟨h0, p, cap, e, h1, h2⟩ => by rw [e]; rfl
  | .arr n t, H, l, cs, ⟨es, e, h1, h2, h3⟩ => by
    rw [e, flatten_len (k := t.size), h1]; · rfl
    intro c hc
    obtain ⟨i, hi, rfl⟩ := List.mem_iff_getElem.1 hc
    exact (h3 i _ _ (List.getElem?_eq_getElem (by omega)) (List.getElem?_eq_getElem hi)).len

section
variable {w : World} {Pg : Prg} {W : Nat → Prop} {lim : Nat}

def NoOwn (H : Heap) : Prop := ∀ (i : Nat) b, H[i]? = some b → owned b = false
theorem NoOwn.snoc {H : Heap} (h : NoOwn H) {b : Blk} (hb : owned b = false) : NoOwn (H ++ [b]) := by
  intro i x hx
  by_cases hi : i < H.length
  · rw [List.getElem?_append_left hi] at hx; exact h i x hx
  · rw [List.getElem?_append_right (by omega)] at hx
    have := (List.getElem?_eq_some_iff.1 hx).1
    have e : i - H.length = 0 := by simp at this; omega
    rw [e] at hx; simp at hx; subst hx; exact hb

/-- Cells of the model that can be opened. -/
def Opens (Pg : Prg) (W : Nat → Prop) (lim : Nat) (w : World) (t : Ty) (cs : List Value) : Prop :=
  ∀ σ H, Inv Pg W lim σ H w → NoOwn H → ∃ X σ' as x, Inv Pg W lim σ' (H ++ X) w ∧ NoOwn (H ++ X) ∧ Sig.le σ σ' ∧ LRel σ' as cs ∧ Rep t (H ++ X) x as ∧ ∀ v ∈ cs, v.oneCell' = true

theorem Opens.atom1 {t : Ty} {v : Value} {x : t.den} (hv : atom v = true) (ho : v.oneCell' = true) (hr : ∀ H, Rep t H x [v]) : Opens Pg W lim w t [v] := fun σ H h hn =>
  ⟨[], σ, [v], x, by simpa using h, by simpa using hn, Sig.le_refl _, LRel.cons (.atom hv) LRel.nil, hr _, fun u hu => by simp at hu; subst hu; exact ho⟩
theorem Opens.int {k : IntKind} {n : Int} (h : (Lit.int k n).wf = true) : Opens Pg W lim w (.int k) [.int k n] := by
  refine Opens.atom1 (x := n) rfl rfl fun H => ⟨rfl, ?_⟩
  simpa [Lit.wf] using h
theorem Opens.bool {b : Bool} : Opens Pg W lim w .bool [.bool b] := Opens.atom1 (t := .bool) (x := b) rfl rfl fun H => rfl
theorem Opens.str {s : ByteArray} (h : s.size ≤ maxLen) : Opens Pg W lim w .str [.string s] := Opens.atom1 (t := .str) (x := s) rfl rfl fun H => ⟨rfl, h⟩
theorem Opens.nil : Opens Pg W lim w .nil [] := fun σ H h hn => ⟨[], σ, [], (), by simpa using h, by simpa using hn, Sig.le_refl _, LRel.nil, rfl, fun u hu => by simp at hu⟩
theorem Opens.pair {a b : Ty} {c1 c2 : List Value} (h1 : Opens Pg W lim w a c1) (h2 : Opens Pg W lim w b c2) : Opens Pg W lim w (.pair a b) (c1 ++ c2) := by
  intro σ H h hn
  obtain ⟨X, σ1, as, x, k1, k1', k2, k3, k4, k5⟩ := h1 σ H h hn
  obtain ⟨Y, σ2, bs, y, m1, m1', m2, m3, m4, m5⟩ := h2 σ1 _ k1 k1'
  refine ⟨X ++ Y, σ2, as ++ bs, (x, y), by rw [← List.append_assoc]; exact m1, by rw [← List.append_assoc]; exact m1', Sig.le_trans k2 m2, LRel.append (k3.mono m2) m3, ⟨as, bs, rfl, ?_, ?_⟩, fun v hv => ?_⟩
  · rw [← List.append_assoc]; exact k4.app Y
  · rw [← List.append_assoc]; exact m4
  · rcases List.mem_append.1 hv with hv | hv
    · exact k5 v hv
    · exact m5 v hv

def sigAt (σ : Sig) (n : Nat) (L : Loc) : Sig := fun i => if i = n then some L else σ i
theorem sigAt_same {σ : Sig} {n : Nat} {L : Loc} : sigAt σ n L n = some L := if_pos rfl
theorem sigAt_ne {σ : Sig} {n i : Nat} {L : Loc} (h : i ≠ n) : sigAt σ n L i = σ i := if_neg h
/-- One block more, that is not written. -/
theorem Inv.snoc {σ : Sig} {H : Heap} (h : Inv Pg W lim σ H w) (hn : NoOwn H) (L : Loc) (b : Blk) (hb : owned b = false) (hr : BlkRel Pg (sigAt σ H.length L) w L b) :
    Inv Pg W lim (sigAt σ H.length L) (H ++ [b]) w ∧ Sig.le σ (sigAt σ H.length L) := by
  have hle : Sig.le σ (sigAt σ H.length L) := by
    intro i K hi
    have := h.lt hi
    rw [sigAt_ne (by omega)]; exact hi
  have hno := hn.snoc hb
  refine ⟨⟨?_, fun i j bi bj Li Lj hi hj hne ho => ?_, fun i x K hx ho => ?_, h.fresh, fun i hi => ?_⟩, hle⟩
  · intro i x hx ha
    by_cases hi : i < H.length
    · rw [List.getElem?_append_left hi] at hx
      obtain ⟨K, h1, h2⟩ := h.blk i x hx ha
      exact ⟨K, hle i K h1, h2.mono hle fun _ => rfl⟩
    · rw [List.getElem?_append_right (by omega)] at hx
      have := (List.getElem?_eq_some_iff.1 hx).1
      have e : i = H.length := by simp at this; omega
      subst e
      rw [Nat.sub_self] at hx; simp at hx; subst hx
      exact ⟨L, sigAt_same, hr⟩
  · rw [hno i bi hi] at ho; cases ho
  · rw [hno i x hx] at ho; cases ho
  · simp at hi
    rw [sigAt_ne (by omega)]
    exact h.dom i (by omega)

/-- The elements of a slice, one after the other. -/
theorem opens_elems {t : Ty} {n : Nat} {cs : Nat → List Value} (hel : ∀ i, i < n → Opens Pg W lim w t (cs i)) {σ : Sig} {H : Heap} (h : Inv Pg W lim σ H w) (hn : NoOwn H) :
    ∃ X σ', ∃ es : List (List Value), ∃ xs : List t.den, Inv Pg W lim σ' (H ++ X) w ∧ NoOwn (H ++ X) ∧ Sig.le σ σ' ∧ es.length = n ∧ xs.length = n ∧
      ∀ (i : Nat) x e, xs[i]? = some x → es[i]? = some e → Rep t (H ++ X) x e ∧ LRel σ' e (cs i) ∧ ∀ v ∈ cs i, v.oneCell' = true := by
  induction n with
  | zero => exact ⟨[], σ, [], [], by simpa using h, by simpa using hn, Sig.le_refl _, rfl, rfl, fun i x e hx => by simp at hx⟩
  | succ n ih =>
    obtain ⟨X, σ1, es, xs, k1, k2, k3, k4, k5, k6⟩ := ih fun i hi => hel i (by omega)
    obtain ⟨Y, σ2, as, x, m1, m2, m3, m4, m5, m6⟩ := hel n (by omega) σ1 _ k1 k2
    refine ⟨X ++ Y, σ2, es ++ [as], xs ++ [x], by rw [← List.append_assoc]; exact m1, by rw [← List.append_assoc]; exact m2, Sig.le_trans k3 m3, by simp [k4], by simp [k5], fun i y e hy he => ?_⟩
    rw [← List.append_assoc]
    by_cases hi : i < n
    · rw [List.getElem?_append_left (by omega)] at hy he
      obtain ⟨q1, q2, q3⟩ := k6 i y e hy he
      exact ⟨q1.app Y, q2.mono m3, q3⟩
    · have hi' : i = n := by
        have := (List.getElem?_eq_some_iff.1 hy).1
        simp at this; omega
      subst hi'
      rw [List.getElem?_append_right (by omega), k5] at hy
      rw [List.getElem?_append_right (by omega), k4] at he
      simp at hy he
      subst hy he
      exact ⟨m5, m4, m6⟩

theorem flatten_at {e : Nat} : ∀ (es : List (List Value)), (∀ x ∈ es, x.length = e) → ∀ (j : Nat) v, es.flatten[j]? = some v → ∃ x, es[j / e]? = some x ∧ x[j % e]? = some v
  | [], _, j, v, h => by simp at h
  | x :: es, he, j, v, h => by
    have hx := he x (by simp)
    rw [List.flatten_cons] at h
    by_cases hj : j < x.length
    · rw [List.getElem?_append_left hj] at h
      rw [hx] at hj
      rw [Nat.div_eq_of_lt hj, Nat.mod_eq_of_lt hj]
      exact ⟨x, rfl, h⟩
    · rw [List.getElem?_append_right (by omega), hx] at h
      rw [hx] at hj
      obtain ⟨y, h1, h2⟩ := flatten_at es (fun z hz => he z (by simp [hz])) _ _ h
      have hpos : 0 < e := by
        rcases Nat.eq_zero_or_pos e with h0 | h0
        · subst h0
          have hz : y.length = 0 := he y (by have := List.mem_of_getElem? h1; simp [this])
          rw [List.length_eq_zero_iff.1 hz] at h2; simp at h2
        · exact h0
      have e1 : j / e = (j - e) / e + 1 := by rw [← Nat.add_div_right _ hpos]; congr 1; omega
      have e2 : j % e = (j - e) % e := by rw [Nat.mod_eq_sub_mod (by omega)]
      rw [e1, e2]
      exact ⟨y, by simpa using h1, h2⟩

theorem Opens.arr {t : Ty} {n : Nat} {cs : List Value} (hl : cs.length = n * t.size) (hel : ∀ i, i < n → Opens Pg W lim w t ((cs.drop (i * t.size)).take t.size)) : Opens Pg W lim w (.arr n t) cs := by
  intro σ H h hn
  obtain ⟨X, σ1, es, xs, k1, k2, k3, k4, k5, k6⟩ := opens_elems (n := n) (cs := fun i => (cs.drop (i * t.size)).take t.size) hel h hn
  have hes : ∀ e ∈ es, e.length = t.size := by
    intro e he
    obtain ⟨i, hi, rfl⟩ := List.mem_iff_getElem.1 he
    exact (k6 i _ _ (List.getElem?_eq_getElem (by omega)) (List.getElem?_eq_getElem hi)).1.len
  have hat : ∀ (j : Nat) v, cs[j]? = some v → j / t.size < n ∧ j % t.size < t.size ∧ ((cs.drop (j / t.size * t.size)).take t.size)[j % t.size]? = some v := by
    intro j v hj
    have hjl : j < n * t.size := by rw [← hl]; exact (List.getElem?_eq_some_iff.1 hj).1
    have hpos : 0 < t.size := by
      rcases Nat.eq_zero_or_pos t.size with h0 | h0
      · rw [h0] at hjl; simp at hjl
      · exact h0
    have hm := Nat.mod_lt j hpos
    refine ⟨(Nat.div_lt_iff_lt_mul hpos).2 hjl, hm, ?_⟩
    rw [List.getElem?_take, if_pos hm, List.getElem?_drop, Nat.div_add_mod' j t.size]
    exact hj
  refine ⟨X, σ1, es.flatten, xs, k1, k2, k3, ⟨by rw [flatten_len hes, k4, hl], fun j a v ha hv => ?_⟩, ⟨es, rfl, k4, k5, fun i x e hx he => (k6 i x e hx he).1⟩, fun v hv => ?_⟩
  · obtain ⟨h1, h2, h3⟩ := hat j v hv
    obtain ⟨e, e1, e2⟩ := flatten_at es hes j a ha
    exact (k6 _ _ e (List.getElem?_eq_getElem (by omega)) e1).2.1.2 _ _ _ e2 h3
  · obtain ⟨j, hj⟩ := List.mem_iff_getElem?.1 hv
    obtain ⟨h1, h2, h3⟩ := hat j v hj
    exact (k6 (j / t.size) _ _ (List.getElem?_eq_getElem (by omega)) (List.getElem?_eq_getElem (by omega))).2.2 v (List.mem_of_getElem? h3)

theorem Opens.nilslice {t : Ty} : Opens Pg W lim w (.slice t) [.slice none 0 0] := by
  refine Opens.atom1 (t := .slice t) (x := ([] : List t.den)) rfl rfl fun H => ⟨Nat.zero_le _, none, 0, rfl, fun _ => ⟨rfl, rfl⟩, fun a ha => by cases ha⟩

theorem Opens.slice {t : Ty} {a : Addr} {len cap : Nat} {cs : Nat → List Value} (hl : len ≤ cap) (hc : cap ≤ maxLen) (hsz : t.size ≠ 0)
    (hel : ∀ i, i < cap → w.cells? 0 (a.add (i * t.size)) t.size = some (cs i) ∧ Opens Pg W lim w t (cs i)) : Opens Pg W lim w (.slice t) [.slice (some a) len cap] := by
  intro σ H h hn
  by_cases h0 : len = 0
  · subst h0
    obtain ⟨m1, m2⟩ := h.snoc hn ⟨a.block, a.off, cap * t.size⟩ .dead rfl trivial
    refine ⟨[.dead], _, [.slice (some ⟨H.length, 0, none⟩) 0 (loose t.size)], [], m1, hn.snoc rfl, m2, LRel.cons ?_ LRel.nil, ⟨Nat.zero_le _, some ⟨H.length, 0, none⟩, loose t.size, rfl, fun h => (by cases h), fun b hb => ?_⟩, fun v hv => by simp at hv; subst hv; rfl⟩
    · by_cases hcap : cap = 0
      · subst hcap
        exact .eslice sigAt_same (.inr ⟨_, rfl⟩)
      · have hsp : a.spot = none := by
          obtain ⟨h1, h2⟩ := hel 0 (by omega)
          obtain ⟨_, h3, h4⟩ := World.cells?_some h1
          have h5 := h4 0 (by omega)
          rw [List.getElem?_eq_getElem (by omega)] at h5
          have := World.cell?_spot h5
          simpa [Addr.add] using this
        obtain ⟨b, o, s⟩ := a
        simp only at hsp; subst hsp
        exact .lslice (L := ⟨b, o, cap * t.size⟩) (k := 0) sigAt_same hl (by simp)
    · cases hb
      exact ⟨rfl, rfl, rfl, fun h => absurd rfl h⟩
  · obtain ⟨X, σ1, es, xs, k1, k2, k3, k4, k5, k6⟩ := opens_elems (n := len) (cs := cs) (fun i hi => (hel i (by omega)).2) h hn
    have hsp : a.spot = none := by
      obtain ⟨h1, h2⟩ := hel 0 (by omega)
      obtain ⟨_, h3, h4⟩ := World.cells?_some h1
      have h5 := h4 0 (by omega)
      rw [List.getElem?_eq_getElem (by omega)] at h5
      have := World.cell?_spot h5
      simpa [Addr.add] using this
    have hcell : ∀ i, i < len → ∀ j, j < t.size → ∃ v, (cs i)[j]? = some v ∧ w.cell? ⟨a.block, a.off + (i * t.size + j), none⟩ = some v := by
      intro i hi j hj
      obtain ⟨_, h3, h4⟩ := World.cells?_some (hel i (by omega)).1
      have h5 := h4 j hj
      have hg : (cs i)[j]? = some ((cs i)[j]'(by omega)) := List.getElem?_eq_getElem _
      rw [hg, Go.Deep.add_add] at h5
      refine ⟨_, hg, ?_⟩
      rw [← h5]
      congr 1
      obtain ⟨b, o, s⟩ := a
      simp only at hsp; subst hsp
      exact (addr_add (b := b) (o := o)).symm
    obtain ⟨v0, _, hv0⟩ := hcell 0 (by omega) 0 (by omega)
    have hheap : ∃ cells el fz, w.heap[a.block]? = some (.cells cells el fz) := by
      unfold World.cell? at hv0
      split at hv0
      · rename_i c el fz hh; exact ⟨c, el, fz, hh⟩
      · cases hv0
    obtain ⟨cells, el, fz, hh⟩ := hheap
    have hes : ∀ e ∈ es, e.length = t.size := by
      intro e he
      obtain ⟨i, hi, rfl⟩ := List.mem_iff_getElem.1 he
      exact (k6 i _ _ (List.getElem?_eq_getElem (by omega)) (List.getElem?_eq_getElem hi)).1.len
    have hblk : BlkRel Pg (sigAt σ1 (H ++ X).length ⟨a.block, a.off, cap * t.size⟩) w ⟨a.block, a.off, cap * t.size⟩ (.cells true es.flatten) := by
      refine ⟨cells, el, fz, hh, fun j v hv => ?_, fun h => by cases h⟩
      obtain ⟨e, h1, h2⟩ := flatten_at es hes j v hv
      have hi : j / t.size < len := by have := (List.getElem?_eq_some_iff.1 h1).1; omega
      have hj : j % t.size < t.size := Nat.mod_lt _ (by omega)
      obtain ⟨q1, q2, q3⟩ := k6 _ _ e (List.getElem?_eq_getElem (by omega)) h1
      obtain ⟨u, r1, r2⟩ := hcell _ hi _ hj
      refine ⟨u, ?_, (q2.2 _ _ _ h2 r1).mono ?_, q3 u (List.mem_of_getElem? r1)⟩
      · rw [Nat.div_add_mod' j t.size] at r2
        simpa [World.cell?, hh] using r2
      · intro i K hi
        have := k1.lt hi
        rw [sigAt_ne (by omega)]; exact hi
    obtain ⟨m1, m2⟩ := k1.snoc k2 _ _ rfl hblk
    refine ⟨X ++ [.cells true es.flatten], _, [.slice (some ⟨(H ++ X).length, 0, none⟩) len (loose t.size)], xs, by rw [← List.append_assoc]; exact m1, by rw [← List.append_assoc]; exact k2.snoc rfl, Sig.le_trans k3 m2, LRel.cons ?_ LRel.nil, ?_, fun v hv => by simp at hv; subst hv; rfl⟩
    · obtain ⟨b, o, s⟩ := a
      simp only at hsp; subst hsp
      exact .lslice (L := ⟨b, o, cap * t.size⟩) (k := 0) sigAt_same hl (by simp)
    · refine ⟨by rw [k5]; omega, some ⟨(H ++ X).length, 0, none⟩, loose t.size, by rw [k5], (fun h => (by cases h)), fun b hb => ?_⟩
      cases hb
      refine ⟨rfl, rfl, rfl, fun _ => ⟨es, ?_, by omega, fun i x e hx he => ?_⟩⟩
      · rw [← List.append_assoc]; exact hget_new0
      · rw [← List.append_assoc]; exact (k6 i x e hx he).1.app _

/-! ### Types of the model -/
section
variable (P : Program)
def tyFields (f : TypeId → Option Ty) : List Field → Nat → Option Ty
  | [], _ => some .nil
  | fd :: fs, off => if fd.offset = off then match f fd.type with
    | some ty => if ty.size = P.cellsOf fd.type then match tyFields f fs (off + ty.size) with
      | some r => some (.pair ty r)
      | none => none
      else none
    | none => none
    else none
def tyOf : Nat → TypeId → Option Ty
  | 0, _ => none
  | n + 1, t => match P.underlying t with
    | some .bool => some .bool
    | some (.int k) => some (.int k)
    | some .string => some .str
    | some (.slice e) => match tyOf n e with
      | some ty => if ty.size = P.cellsOf e ∧ ty.size ≠ 0 then some (.slice ty) else none
      | none => none
    | some (.array k e) => match tyOf n e with
      | some ty => if ty.size = P.cellsOf e ∧ k * ty.size = P.cellsOf t then some (.arr k ty) else none
      | none => none
    | some (.struct fs) => match tyFields P (tyOf n) fs.toList 0 with
      | some ty => if ty.size = P.cellsOf t then some ty else none
      | none => none
    | _ => none
end

variable {P : Program} {H : Type} {enc : TypeId × Value → H} {held : Bool}
theorem opens_fields {n m : Nat} {cs : List Value} (ih : ∀ t ty cs x, tyOf P n t = some ty → DataW.trod enc P w 0 (fun _ => true) held m t cs = some x → Opens Pg W lim w ty cs) :
    ∀ (fs : List Field) (off : Nat) (xs : List (DataW H × List MemPlace)) (ty : Ty), tyFields P (tyOf P n) fs off = some ty → off + ty.size = cs.length → (∀ (i : Nat) f, fs[i]? = some f → DataW.trod enc P w 0 (fun _ => true) held m f.type ((cs.drop f.offset).take (P.cellsOf f.type)) = xs[i]?) → xs.length = fs.length → Opens Pg W lim w ty (cs.drop off)
  | [], off, xs, ty, ht, hl, hx, hxl => by
    simp only [tyFields, Option.some.injEq] at ht
    subst ht
    rw [List.drop_eq_nil_of_le (by simp [Ty.size] at hl; omega)]
    exact Opens.nil
  | fd :: fs, off, xs, ty, ht, hl, hx, hxl => by
    simp only [tyFields] at ht
    split at ht
    case isFalse => cases ht
    rename_i ho
    split at ht
    case h_2 => cases ht
    rename_i ty1 h1
    split at ht
    case isFalse => cases ht
    rename_i hs
    split at ht
    case h_2 => cases ht
    rename_i r hr
    cases ht
    simp only [Ty.size] at hl
    match xs, hxl with
    | x0 :: xs, hxl =>
      have h2 := hx 0 fd rfl
      simp only [List.getElem?_cons_zero] at h2
      have h3 := ih _ _ _ _ h1 h2
      have h4 := opens_fields (cs := cs) ih fs (off + ty1.size) xs r hr (by omega) (fun i f hf => by simpa using hx (i + 1) f (by simpa using hf)) (by simpa using hxl)
      rw [ho, ← hs] at h3
      have := Opens.pair h3 h4
      rw [← List.drop_drop, List.take_append_drop] at this
      exact this

theorem opens_trod : ∀ (n m : Nat) {t : TypeId} {ty : Ty} {cs : List Value} {x : DataW H × List MemPlace}, tyOf P n t = some ty → DataW.trod enc P w 0 (fun _ => true) held m t cs = some x → Opens Pg W lim w ty cs
  | 0, _, t, ty, cs, x, ht, _ => by simp [tyOf] at ht
  | n + 1, m, t, ty, cs, x, ht, h => by
    simp only [tyOf] at ht
    split at ht
    · rename_i hu; cases ht
      obtain ⟨b, rfl, _⟩ := DataW.trod_bool hu h
      exact Opens.bool
    · rename_i k hu; cases ht
      obtain ⟨b, rfl, _, hw⟩ := DataW.trod_int hu h
      exact Opens.int hw
    · rename_i hu; cases ht
      obtain ⟨b, rfl, _, hw⟩ := DataW.trod_string hu h
      exact Opens.str hw
    · rename_i e hu
      split at ht
      case h_2 => cases ht
      rename_i ty' he
      split at ht
      case isFalse => cases ht
      rename_i hs
      cases ht
      rcases Go.Deep.open_slice hu h with ⟨rfl, _⟩ | ⟨a, len, cap, mm, m', D, Pl, rfl, hb, hl, hm, hmm, hx, hi⟩
      · exact Opens.nilslice
      · simp only [if_true] at hmm
        subst hmm
        have hel : ∀ i, ∃ cs', i < mm → w.cells? 0 (a.add (i * ty'.size)) ty'.size = some cs' ∧ Opens Pg W lim w ty' cs' := by
          intro i
          by_cases him : i < mm
          · obtain ⟨cs', h1, h2⟩ := hi i him
            exact ⟨cs', fun _ => ⟨by rw [hs.1]; exact h1, opens_trod n m' he h2⟩⟩
          · exact ⟨[], fun h => absurd h him⟩
        exact Opens.slice (cs := fun i => Classical.choose (hel i)) hl hm hs.2 fun i hi => Classical.choose_spec (hel i) hi
    · rename_i k e hu
      split at ht
      case h_2 => cases ht
      rename_i ty' he
      split at ht
      case isFalse => cases ht
      rename_i hs
      cases ht
      obtain ⟨xs, m', _, _, hcl, hxl, hf⟩ := DataW.trod_array hu h
      refine Opens.arr (by rw [hcl, hs.2]) fun i hi => ?_
      have h1 := hf i hi
      rw [List.getElem?_eq_getElem (by omega)] at h1
      rw [hs.1]
      exact opens_trod n m' he h1
    · rename_i fs hu
      split at ht
      case h_2 => cases ht
      rename_i ty' he
      split at ht
      case isFalse => cases ht
      rename_i hs
      cases ht
      obtain ⟨xs, m', _, _, hcl, hxl, hf⟩ := DataW.trod_struct hu h
      have := opens_fields (cs := cs) (fun t ty cs x h1 h2 => opens_trod n m' h1 h2) fs.toList 0 xs ty he (by omega) (fun i f hf' => hf i f (by simpa using hf')) (by simpa using hxl)
      simpa using this
    · cases ht
end
end Go.AM
set_option linter.unusedVariables false
set_option linter.unusedSimpArgs false
namespace Go.AM
open Go.ChangeShapes Go.WideShapes Go.ChangeAt Go.RowKit

def isRow : Ty → Bool
  | .nil => true
  | .pair _ _ => true
  | .arr _ _ => true
  | _ => false
/-- How data lie in a value. -/
def RepV (t : Ty) (H : Heap) (x : t.den) (v : Value) : Prop := if isRow t = true then ∃ as, v = .agg as.toArray ∧ Rep t H x as else Rep t H x [v]
abbrev dens : List Ty → Type
  | [] => Unit
  | t :: ts => t.den × dens ts
def RepAll : (ts : List Ty) → Heap → dens ts → List Value → Prop
  | [], _, _, vs => vs = []
  | t :: ts, H, x, vs => ∃ v r, vs = v :: r ∧ RepV t H x.1 v ∧ RepAll ts H x.2 r
theorem RepV.app {t : Ty} {H : Heap} {x : t.den} {v : Value} (h : RepV t H x v) (X : Heap) : RepV t (H ++ X) x v := by
  unfold RepV at *
  split
  · rename_i hr
    rw [if_pos hr] at h
    obtain ⟨as, e, k⟩ := h
    exact ⟨as, e, k.app X⟩
  · rename_i hr
    rw [if_neg hr] at h
    exact h.app X

section
variable {P : Program} {H : Type} {enc : TypeId × Value → H} {w : World} {Pg : Prg} {W : Nat → Prop} {lim : Nat}

theorem tyFields_row {f : TypeId → Option Ty} : ∀ {fs : List Field} {off : Nat} {ty : Ty}, tyFields P f fs off = some ty → isRow ty = true
  | [], off, ty, h => by simp only [tyFields, Option.some.injEq] at h; subst h; rfl
  | fd :: fs, off, ty, h => by
    simp only [tyFields] at h
    split at h
    · split at h
      · split at h
        · split at h
          · cases h; rfl
          · cases h
        · cases h
      · cases h
    · cases h

/-- The cells of an argument. -/
theorem arg_cells {n : Nat} {t : TypeId} {ty : Ty} {v : Value} {r : Reach} {base : Nat} (ht : tyOf P n t = some ty) (hv : Value.okWide P w r base t v) : if isRow ty = true then ∃ cs, v = .agg cs else v.cells.toList = [v] := by
  cases n with
  | zero => simp [tyOf] at ht
  | succ n =>
    simp only [tyOf] at ht
    split at ht
    · rename_i hu; cases ht
      obtain ⟨b, rfl⟩ := okWide_bool hu hv
      rfl
    · rename_i k hu; cases ht
      obtain ⟨b, rfl⟩ := okWide_int hu hv
      rfl
    · rename_i hu; cases ht
      obtain ⟨b, rfl⟩ := okWide_string hu hv
      rfl
    · rename_i e hu
      split at ht
      case h_2 => cases ht
      split at ht
      case isFalse => cases ht
      cases ht
      obtain ⟨a, l, c, rfl⟩ := okWide_slice hu hv
      rfl
    · rename_i k e hu
      split at ht
      case h_2 => cases ht
      rename_i ty' he
      split at ht
      case isFalse => cases ht
      cases ht
      have hv2 := hv
      simp only [Value.okWide, hu] at hv2
      obtain ⟨cs, rfl, _⟩ := hv2
      exact ⟨cs, rfl⟩
    · rename_i fs hu
      split at ht
      case h_2 => cases ht
      rename_i ty' he
      split at ht
      case isFalse => cases ht
      cases ht
      obtain ⟨cs, rfl, _⟩ := okWide_struct hu hv
      rw [if_pos (tyFields_row he)]
      exact ⟨cs, rfl⟩
    · cases ht

theorem opens_args {n : Nat} {r : Reach} {base : Nat} : ∀ {ts : List TypeId} {vs : List Value} {ds : List (DataW H)} {ps : List MemPlace} {tys : List Ty}, DataW.TrodAll enc P w 0 (fun _ => true) true ts vs ds ps → ts.mapM (tyOf P n) = some tys →
    (∀ (j : Nat) t v, ts[j]? = some t → vs[j]? = some v → Value.okWide P w r base t v) → ∀ σ H, Inv Pg W lim σ H w → NoOwn H →
    ∃ X σ' as x, Inv Pg W lim σ' (H ++ X) w ∧ NoOwn (H ++ X) ∧ Sig.le σ σ' ∧ LRel σ' as vs ∧ RepAll tys (H ++ X) x as
  | [], [], [], ps, tys, _, ht, _, σ, Hp, hi, hn => by
    simp at ht; subst ht
    exact ⟨[], σ, [], (), by simpa using hi, by simpa using hn, Sig.le_refl _, LRel.nil, rfl⟩
  | t :: ts, v :: vs, d :: ds, ps, tys, hA, ht, hv, σ, Hp, hi, hn => by
    obtain ⟨p, q, h1, h2, rfl⟩ := hA
    rw [List.mapM_cons] at ht
    obtain ⟨ty, hty, ht⟩ := opt_bind ht
    obtain ⟨tr, htr, ht⟩ := opt_bind ht
    cases ht
    obtain ⟨m, hm⟩ := h1
    have hc := arg_cells hty (hv 0 t v rfl rfl)
    obtain ⟨X, σ1, as, x, k1, k2, k3, k4, k5, k6⟩ := opens_trod n m hty hm σ Hp hi hn
    obtain ⟨Y, σ2, bs, y, m1, m2, m3, m4, m5⟩ := opens_args h2 htr (fun j t' v' e1 e2 => hv (j + 1) t' v' (by simpa using e1) (by simpa using e2)) σ1 _ k1 k2
    have key : ∃ av, VRel σ1 av v ∧ RepV ty (Hp ++ X) x av := by
      split at hc
      · rename_i hr
        obtain ⟨cs, rfl⟩ := hc
        refine ⟨.agg as.toArray, VRel.agg_iff.2 ⟨by simpa [Value.cells] using k4, by simpa [Value.cells] using k6⟩, ?_⟩
        unfold RepV; rw [if_pos hr]
        exact ⟨as, rfl, k5⟩
      · rename_i hr
        rw [hc] at k4
        have hl := k4.1
        match as, hl, k4, k5 with
        | [a], _, k4, k5 =>
          refine ⟨a, k4.head, ?_⟩
          unfold RepV; rw [if_neg hr]
          exact k5
    obtain ⟨av, q1, q2⟩ := key
    refine ⟨X ++ Y, σ2, av :: bs, (x, y), by rw [← List.append_assoc]; exact m1, by rw [← List.append_assoc]; exact m2, Sig.le_trans k3 m3, LRel.cons (q1.mono m3) m4, av, bs, rfl, ?_, ?_⟩
    · rw [← List.append_assoc]; exact q2.app Y
    · rw [← List.append_assoc]; exact m5
  | [], [], _ :: _, _, _, hA, _, _, _, _, _, _ => hA.elim
  | [], _ :: _, _, _, _, hA, _, _, _, _, _, _ => hA.elim
  | _ :: _, [], _, _, _, hA, _, _, _, _, _, _ => hA.elim
  | _ :: _, _ :: _, [], _, _, hA, _, _, _, _, _, _ => hA.elim

theorem trodAll_stays (hl : laidOutB P = true) {w' : World} (hb : Below w.heap.size w w') : ∀ {ts : List TypeId} {vs : List Value} {ds : List (DataW H)} {ps : List MemPlace}, (∀ t ∈ ts, P.readableRec t = true ∧ t < P.types.size) → DataW.TrodAll enc P w 0 (fun _ => true) true ts vs ds ps →
    (∀ x ∈ ps, x.block < w.heap.size) → DataW.TrodAll enc P w' 0 (fun b => decide (b < w.heap.size)) true ts vs ds ps
  | [], [], [], ps, _, h, _ => h
  | t :: ts, v :: vs, d :: ds, ps, hr, h, hlt => by
    obtain ⟨p, q, h1, h2, rfl⟩ := h
    exact ⟨p, q, Below.trod hl (hr t (by simp)).1 (hr t (by simp)).2 h1 hb fun x hx => hlt x (by simp [hx]), trodAll_stays hl hb (fun t' ht' => hr t' (by simp [ht'])) h2 fun x hx => hlt x (by simp [hx]), rfl⟩
  | [], [], _ :: _, _, _, hA, _ => hA.elim
  | [], _ :: _, _, _, _, hA, _ => hA.elim
  | _ :: _, [], _, _, _, hA, _ => hA.elim
  | _ :: _, _ :: _, [], _, _, hA, _ => hA.elim
theorem trodAll_length : ∀ {ts : List TypeId} {vs : List Value} {ds : List (DataW H)} {ps : List MemPlace}, DataW.TrodAll enc P w 0 (fun _ => true) true ts vs ds ps → ds.length = ts.length
  | [], [], [], ps, _ => rfl
  | t :: ts, v :: vs, d :: ds, ps, h => by
    obtain ⟨p, q, h1, h2, rfl⟩ := h
    simp [trodAll_length h2]
  | [], [], _ :: _, _, hA => hA.elim
  | [], _ :: _, _, _, hA => hA.elim
  | _ :: _, [], _, _, hA => hA.elim
  | _ :: _, _ :: _, [], _, hA => hA.elim
end

/-- THE LAW: its run comes to true on whatever the arguments hold. -/
theorem law_returns {C : Checked} {os : Os} {g : FuncId} {fn : Func} {s : ChangeSpec} {E : Env} {tys : List Ty} {tb : TypeId} {conds : List PathCond} {H : Type} {enc : TypeId × Value → H}
    (own : ownKnob C.prog.godebug = none) (started : os.Started) (noInit : C.prog.inits.idxOf? g = none) (hfn : C.prog.funcs[g]? = some fn) (hvars : s.vars = [])
    (hspec : ∀ ds : List (DataW H), ds.length = fn.params.size → s.fn H ds = { results := [.lit (.bool true)], args := ds })
    (hres : fn.resultTypes = #[tb]) (hb : C.prog.underlying tb = some .bool) (htys : fn.params.toList.mapM (tyOf C.prog 9) = some tys)
    (hread : ∀ t ∈ fn.params.toList, C.prog.readableRec t = true ∧ t < C.prog.types.size) (hlaid : laidOutB C.prog = true) (hE : EnvOk C.prog E)
    (witness : ∃ (w : World) (tape : Tape) (i : Input), w.os = os ∧ (w.forCall tape i).Shaped C.prog ∧ i.vars = [] ∧ Input.okWide C.prog (w.forCall tape i) .any w.heap.size g i ∧
      s.pre6 enc C.prog fn conds false (w.forCall tape i).memory i.args ∧ ({} : Assume).holds C.prog (lone (Frame.enter C.prog g i.args .normal) [] (w.forCall tape i)))
    (run : ∀ H vs x, RepAll tys H x vs → CallR E false H.length g vs H fun v _ => v = .bool true) :
    ReturnsInHanded {} C os g .any (s.pre6 enc C.prog fn conds false) (s.post enc C.prog fn false true false false) := by
  refine returnsInHanded_of_change own started noInit hfn witness ?_
  intro w base args ds gs before hval hW hcnd hholds
  have hW' := hW
  obtain ⟨p, q, hA, hV, rfl, hfz, hnd⟩ := hW
  rw [hvars] at hV
  obtain ⟨rfl, rfl⟩ := trodVars_none hV
  obtain ⟨X, σ, as, x, k1, k2, k3, k4, k5⟩ := opens_args hA htys (fun j t v h1 h2 => hval j t v (by simpa using h1) (by simpa using h2)) (fun _ => none) [] (Inv.nil (P := C.prog) (E := E) w) (fun i b hb => by simp at hb)
  rw [List.nil_append] at k1 k2 k5
  have k1' : Inv (Prg.mk C.prog E.pure) (fun k => w.heap.size ≤ k) X.length σ X w := ⟨k1.blk, k1.inj, (fun i b L hb ho => by rw [k2 i b hb] at ho; cases ho), k1.fresh, k1.dom⟩
  obtain ⟨n, v, H', hx, rfl⟩ := run X as x k5
  have hcall := (callOk hE n).calls _ _ _ _ _ _ _ hx (Nat.le_refl _) _ _ _ _ k1' k4
  rw [show args.toList.toArray = args by simp] at hcall
  refine hcall.mono fun e w' hp => ?_
  obtain ⟨v', σ', rfl, hv, hinv, hst, _⟩ := hp
  rw [hv.bool_left]
  have hbel : Below w.heap.size w w' := ⟨hst.os, hst.tape, hst.output, hst.size, fun k hk => hst.block k (by omega)⟩
  have hlt : ∀ x ∈ p, x.block < w.heap.size := fun x hx => by
    have := hW'.lt x (by simpa using hx)
    simpa using this
  have hs := hspec ds (by simpa using trodAll_length hA)
  refine ⟨_, rfl, _, _, _, [], p, [], hW', ?_, ?_, ?_, hbel.frame _, fun h => by cases h⟩
  · rw [List.append_nil, hs, hres]
    exact trodAll_mk1 (shut_bool hb true)
  · rw [List.append_nil, hs]
    exact trodAll_stays hlaid hbel hread hA hlt
  · rw [List.append_nil, hs, hvars]
    rfl

/-- A slice of flat data. -/
theorem Rep.sl {t : Ty} {H : Heap} {l : List t.den} {cs : List Value} {α : Type} (f : t.den → α) (enc : α → List Value) (he : ∀ H x c, Rep t H x c → c = enc (f x)) (h : Rep (.slice t) H l cs) :
    ∃ p cap, cs = [.slice p (l.map f).length cap] ∧ Sl H enc t.size p (l.map f) ∧ l.length < 2 ^ 63 := by
  obtain ⟨h0, p, cap, e, h1, h2⟩ := h
  have hlen : l.length < 2 ^ 63 := by unfold maxLen at h0; omega
  refine ⟨p, cap, by rw [e, List.length_map], ?_, hlen⟩
  cases p with
  | none => simp only [Sl]; rw [(h1 rfl).1]; rfl
  | some a =>
    obtain ⟨k1, k2, k3, k4⟩ := h2 a rfl
    refine ⟨k1, fun hn => ?_⟩
    obtain ⟨es, m1, m2, m3⟩ := k4 (by rintro rfl; exact hn rfl)
    have key : es.flatten = (l.map f).flatMap enc := by
      have : es = l.map fun x => enc (f x) := by
        apply List.ext_getElem (by simpa using m2)
        intro i i1 i2
        have i3 : i < l.length := by simpa using i2
        have := he _ _ _ (m3 i l[i] es[i] (List.getElem?_eq_getElem _) (List.getElem?_eq_getElem _))
        rw [this]; simp
      rw [this, List.flatMap_def, List.map_map]
      rfl
    have hfl : es.flatten.length = l.length * t.size := by
      have : ∀ (es : List (List Value)), (∀ x ∈ es, x.length = t.size) → es.flatten.length = es.length * t.size := by
        intro es
        induction es with
        | nil => simp
        | cons x es ih => intro h; simp [ih fun y hy => h y (by simp [hy]), h x (by simp), Nat.add_mul, Nat.add_comm]
      rw [this es, m2]
      intro x hx
      obtain ⟨i, hi, rfl⟩ := List.mem_iff_getElem.1 hx
      exact (m3 i _ _ (List.getElem?_eq_getElem (by omega)) (List.getElem?_eq_getElem hi)).len
    refine ⟨true, _, m1, ?_, ?_⟩
    · rw [k2, hfl, List.length_map]; omega
    · rw [k2, List.drop_zero, key, List.take_of_length_le]
      rw [← key, hfl, List.length_map]
      exact Nat.le_refl _
theorem Rep.slice_mem {t : Ty} {H : Heap} {l : List t.den} {cs : List Value} (h : Rep (.slice t) H l cs) : ∀ x ∈ l, ∃ c, Rep t H x c := by
  intro x hx
  obtain ⟨h0, p, cap, e, h1, h2⟩ := h
  cases p with
  | none => rw [(h1 rfl).1] at hx; simp at hx
  | some a =>
    obtain ⟨k1, k2, k3, k4⟩ := h2 a rfl
    obtain ⟨es, m1, m2, m3⟩ := k4 (by rintro rfl; simp at hx)
    obtain ⟨i, hi, rfl⟩ := List.mem_iff_getElem.1 hx
    exact ⟨_, m3 i _ _ (List.getElem?_eq_getElem hi) (List.getElem?_eq_getElem (by omega))⟩
theorem Rep.pair_of {a b : Ty} {H : Heap} {x : (Ty.pair a b).den} {cs : List Value} (h : Rep (.pair a b) H x cs) : ∃ c1 c2, cs = c1 ++ c2 ∧ Rep a H x.1 c1 ∧ Rep b H x.2 c2 := h
theorem Rep.nil_of {H : Heap} {x : Ty.nil.den} {cs : List Value} (h : Rep .nil H x cs) : cs = [] := h
theorem Rep.int_of {k : IntKind} {H : Heap} {x : (Ty.int k).den} {cs : List Value} (h : Rep (.int k) H x cs) : cs = [.int k x] ∧ k.min ≤ x ∧ x ≤ k.max := h
theorem Rep.str_of {H : Heap} {x : Ty.str.den} {cs : List Value} (h : Rep .str H x cs) : cs = [.string x] ∧ x.size ≤ maxLen := h
theorem Rep.bool_of {H : Heap} {x : Ty.bool.den} {cs : List Value} (h : Rep .bool H x cs) : cs = [.bool x] := h
theorem Rep.arr_of {n : Nat} {t : Ty} {H : Heap} {x : (Ty.arr n t).den} {cs : List Value} (h : Rep (.arr n t) H x cs) : ∃ es : List (List Value), cs = es.flatten ∧ es.length = n ∧ x.length = n ∧ ∀ (i : Nat) y e, x[i]? = some y → es[i]? = some e → Rep t H y e := h
theorem RepV.row {t : Ty} {H : Heap} {x : t.den} {v : Value} (hr : isRow t = true) (h : RepV t H x v) : ∃ cs, v = .agg cs.toArray ∧ Rep t H x cs := by
  unfold RepV at h
  rw [if_pos hr] at h
  exact h
theorem RepV.one {t : Ty} {H : Heap} {x : t.den} {v : Value} (hr : isRow t = false) (h : RepV t H x v) : Rep t H x [v] := by
  unfold RepV at h
  rw [if_neg (by rw [hr]; decide)] at h
  exact h
end Go.AM
