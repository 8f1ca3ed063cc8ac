/-
  Joined texts, 5 of 9. A part of the claim that the last text states.
-/
import Derived.ProofKit
import Derived.Deep.Slices
import Derived.OpenShut
import Derived.Laws.Strings
import Derived.Test.YtdddehniepofmaaSN4
set_option linter.unusedVariables false
set_option linter.unusedSimpArgs false
namespace Go.AM
open Go.ChangeShapes Go.WideShapes Go.ChangeAt Go.RowKit

/-- The types of data: a struct is a row of pairs. -/
inductive Ty where
  | int (k : IntKind) | bool | str | slice (t : Ty) | arr (n : Nat) (t : Ty) | nil | pair (a b : Ty)

def Ty.size : Ty → Nat
  | .nil => 0
  | .arr n t => n * t.size
  | .pair a b => a.size + b.size
  | _ => 1

/-- The data of a type. -/
abbrev Ty.den : Ty → Type
  | .int _ => Int
  | .bool => Bool
  | .str => ByteArray
  | .slice t => List t.den
  | .arr _ t => List t.den
  | .nil => Unit
  | .pair a b => a.den × b.den

/-- How data lie in cells. -/
def Rep : (t : Ty) → Heap → t.den → List Value → Prop
  | .int k, _, n, cs => cs = [.int k n] ∧ k.min ≤ n ∧ n ≤ k.max
  | .bool, _, b, cs => cs = [.bool b]
  | .str, _, s, cs => cs = [.string s] ∧ s.size ≤ maxLen
  | .slice t, H, l, cs => l.length ≤ maxLen ∧ ∃ p cap, cs = [.slice p l.length cap] ∧ (p = none → l = [] ∧ cap = 0) ∧
      ∀ a, p = some a → a.spot = none ∧ a.off = 0 ∧ cap = loose t.size ∧ (l ≠ [] → ∃ es : List (List Value), hget H a.block = .cells true es.flatten ∧ es.length = l.length ∧ ∀ (i : Nat) x e, l[i]? = some x → es[i]? = some e → Rep t H x e)
  | .arr n t, H, l, cs => ∃ es : List (List Value), cs = es.flatten ∧ es.length = n ∧ l.length = n ∧ ∀ (i : Nat) x e, l[i]? = some x → es[i]? = some e → Rep t H x e
  | .nil, _, _, cs => cs = []
  | .pair a b, H, x, cs => ∃ c1 c2, cs = c1 ++ c2 ∧ Rep a H x.1 c1 ∧ Rep b H x.2 c2

theorem Rep.app : ∀ {t : Ty} {H : Heap} {x : t.den} {cs : List Value} (_ : Rep t H x cs) (X : Heap), Rep t (H ++ X) x cs
  | .int _, _, _, _, h, _ => h
  | .bool, _, _, _, h, _ => h
  | .str, _, _, _, h, _ => h
  | .nil, _, _, _, h, _ => h
  | .pair a b, _, _, _, ⟨c1, c2, e, h1, h2⟩, X => ⟨c1, c2, e, h1.app X, h2.app X⟩
  | .arr n t, H, l, cs, ⟨es, e, h1, h2, h3⟩, X => ⟨es, e, h1, h2, fun i x c hx hc => (h3 i x c hx hc).app X⟩
  | .slice t, H, l, cs, ⟨h0, p, cap, e, h1, h2⟩, X => by
    refine ⟨h0, p, cap, e, h1, fun a ha => ?_⟩
    obtain ⟨k1, k2, k3, k4⟩ := h2 a ha
    refine ⟨k1, k2, k3, fun hl => ?_⟩
    obtain ⟨es, m1, m2, m3⟩ := k4 hl
    exact ⟨es, by rw [hget_old (hget_alive m1)]; exact m1, m2, fun i x e hx he => (m3 i x e hx he).app X⟩

theorem flatten_len {k : Nat} : ∀ {es : List (List Value)}, (∀ e ∈ es, e.length = k) → es.flatten.length = es.length * k
  | [], _ => by simp
  | e :: es, h => by
    rw [List.flatten_cons, List.length_append, h e (by simp), flatten_len (fun x hx => h x (by simp [hx])), List.length_cons, Nat.succ_mul]; omega
theorem Rep.len : ∀ {t : Ty} {H : Heap} {x : t.den} {cs : List Value} (_ : Rep t H x cs), cs.length = t.size
  | .int _, _, _, _, h => by rw [h.1]; rfl
  | .bool, _, _, _, h => by simp only [Rep] at h; rw [h]; rfl
  | .str, _, _, _, h => by rw [h.1]; rfl
  | .nil, _, _, _, h => by simp only [Rep] at h; rw [h]; rfl
  | .pair a b, _, _, _, ⟨c1, c2, e, h1, h2⟩ => by rw [e, List.length_append, h1.len, h2.len]; rfl
  | .slice t, H, l, cs, ⟨h0, p, cap, e, h1, h2⟩ => by rw [e]; rfl
  | .arr n t, H, l, cs, ⟨es, e, h1, h2, h3⟩ => by
    rw [e, flatten_len (k := t.size), h1]; · rfl
    intro c hc
    obtain ⟨i, hi, rfl⟩ := List.mem_iff_getElem.1 hc
    exact (h3 i _ _ (List.getElem?_eq_getElem (by omega)) (List.getElem?_eq_getElem hi)).len

section
variable {w : World} {Pg : Prg} {W : Nat → Prop} {lim : Nat}

def NoOwn (H : Heap) : Prop := ∀ (i : Nat) b, H[i]? = some b → owned b = false
theorem NoOwn.snoc {H : Heap} (h : NoOwn H) {b : Blk} (hb : owned b = false) : NoOwn (H ++ [b]) := by
  intro i x hx
  by_cases hi : i < H.length
  · rw [List.getElem?_append_left hi] at hx; exact h i x hx
  · rw [List.getElem?_append_right (by omega)] at hx
    have := (List.getElem?_eq_some_iff.1 hx).1
    have e : i - H.length = 0 := by simp at this; omega
    rw [e] at hx; simp at hx; subst hx; exact hb

/-- Cells of the model that can be opened. -/
def Opens (Pg : Prg) (W : Nat → Prop) (lim : Nat) (w : World) (t : Ty) (cs : List Value) : Prop :=
  ∀ σ H, Inv Pg W lim σ H w → NoOwn H → ∃ X σ' as x, Inv Pg W lim σ' (H ++ X) w ∧ NoOwn (H ++ X) ∧ Sig.le σ σ' ∧ LRel σ' as cs ∧ Rep t (H ++ X) x as ∧ ∀ v ∈ cs, v.oneCell' = true

theorem Opens.atom1 {t : Ty} {v : Value} {x : t.den} (hv : atom v = true) (ho : v.oneCell' = true) (hr : ∀ H, Rep t H x [v]) : Opens Pg W lim w t [v] := fun σ H h hn =>
  ⟨[], σ, [v], x, by simpa using h, by simpa using hn, Sig.le_refl _, LRel.cons (.atom hv) LRel.nil, hr _, fun u hu => by simp at hu; subst hu; exact ho⟩
theorem Opens.int {k : IntKind} {n : Int} (h : (Lit.int k n).wf = true) : Opens Pg W lim w (.int k) [.int k n] := by
  refine Opens.atom1 (x := n) rfl rfl fun H => ⟨rfl, ?_⟩
  simpa [Lit.wf] using h
theorem Opens.bool {b : Bool} : Opens Pg W lim w .bool [.bool b] := Opens.atom1 (t := .bool) (x := b) rfl rfl fun H => rfl
theorem Opens.str {s : ByteArray} (h : s.size ≤ maxLen) : Opens Pg W lim w .str [.string s] := Opens.atom1 (t := .str) (x := s) rfl rfl fun H => ⟨rfl, h⟩
theorem Opens.nil : Opens Pg W lim w .nil [] := fun σ H h hn => ⟨[], σ, [], (), by simpa using h, by simpa using hn, Sig.le_refl _, LRel.nil, rfl, fun u hu => by simp at hu⟩
theorem Opens.pair {a b : Ty} {c1 c2 : List Value} (h1 : Opens Pg W lim w a c1) (h2 : Opens Pg W lim w b c2) : Opens Pg W lim w (.pair a b) (c1 ++ c2) := by
  intro σ H h hn
  obtain ⟨X, σ1, as, x, k1, k1', k2, k3, k4, k5⟩ := h1 σ H h hn
  obtain ⟨Y, σ2, bs, y, m1, m1', m2, m3, m4, m5⟩ := h2 σ1 _ k1 k1'
  refine ⟨X ++ Y, σ2, as ++ bs, (x, y), by rw [← List.append_assoc]; exact m1, by rw [← List.append_assoc]; exact m1', Sig.le_trans k2 m2, LRel.append (k3.mono m2) m3, ⟨as, bs, rfl, ?_, ?_⟩, fun v hv => ?_⟩
  · rw [← List.append_assoc]; exact k4.app Y
  · rw [← List.append_assoc]; exact m4
  · rcases List.mem_append.1 hv with hv | hv
    · exact k5 v hv
    · exact m5 v hv

def sigAt (σ : Sig) (n : Nat) (L : Loc) : Sig := fun i => if i = n then some L else σ i
theorem sigAt_same {σ : Sig} {n : Nat} {L : Loc} : sigAt σ n L n = some L := if_pos rfl
theorem sigAt_ne {σ : Sig} {n i : Nat} {L : Loc} (h : i ≠ n) : sigAt σ n L i = σ i := if_neg h
/-- One block more, that is not written. -/
theorem Inv.snoc {σ : Sig} {H : Heap} (h : Inv Pg W lim σ H w) (hn : NoOwn H) (L : Loc) (b : Blk) (hb : owned b = false) (hr : BlkRel Pg (sigAt σ H.length L) w L b) :
    Inv Pg W lim (sigAt σ H.length L) (H ++ [b]) w ∧ Sig.le σ (sigAt σ H.length L) := by
  have hle : Sig.le σ (sigAt σ H.length L) := by
    intro i K hi
    have := h.lt hi
    rw [sigAt_ne (by omega)]; exact hi
  have hno := hn.snoc hb
  refine ⟨⟨?_, fun i j bi bj Li Lj hi hj hne ho => ?_, fun i x K hx ho => ?_, h.fresh, fun i hi => ?_⟩, hle⟩
  · intro i x hx ha
    by_cases hi : i < H.length
    · rw [List.getElem?_append_left hi] at hx
      obtain ⟨K, h1, h2⟩ := h.blk i x hx ha
      exact ⟨K, hle i K h1, h2.mono hle fun _ => rfl⟩
    · rw [List.getElem?_append_right (by omega)] at hx
      have := (List.getElem?_eq_some_iff.1 hx).1
      have e : i = H.length := by simp at this; omega
      subst e
      rw [Nat.sub_self] at hx; simp at hx; subst hx
      exact ⟨L, sigAt_same, hr⟩
  · rw [hno i bi hi] at ho; cases ho
  · rw [hno i x hx] at ho; cases ho
  · simp at hi
    rw [sigAt_ne (by omega)]
    exact h.dom i (by omega)

/-- The elements of a slice, one after the other. -/
theorem opens_elems {t : Ty} {n : Nat} {cs : Nat → List Value} (hel : ∀ i, i < n → Opens Pg W lim w t (cs i)) {σ : Sig} {H : Heap} (h : Inv Pg W lim σ H w) (hn : NoOwn H) :
    ∃ X σ', ∃ es : List (List Value), ∃ xs : List t.den, Inv Pg W lim σ' (H ++ X) w ∧ NoOwn (H ++ X) ∧ Sig.le σ σ' ∧ es.length = n ∧ xs.length = n ∧
      ∀ (i : Nat) x e, xs[i]? = some x → es[i]? = some e → Rep t (H ++ X) x e ∧ LRel σ' e (cs i) ∧ ∀ v ∈ cs i, v.oneCell' = true := by
  induction n with
  | zero => exact ⟨[], σ, [], [], by simpa using h, by simpa using hn, Sig.le_refl _, rfl, rfl, fun i x e hx => by simp at hx⟩
  | succ n ih =>
    obtain ⟨X, σ1, es, xs, k1, k2, k3, k4, k5, k6⟩ := ih fun i hi => hel i (by omega)
    obtain ⟨Y, σ2, as, x, m1, m2, m3, m4, m5, m6⟩ := hel n (by omega) σ1 _ k1 k2
    refine ⟨X ++ Y, σ2, es ++ [as], xs ++ [x], by rw [← List.append_assoc]; exact m1, by rw [← List.append_assoc]; exact m2, Sig.le_trans k3 m3, by simp [k4], by simp [k5], fun i y e hy he => ?_⟩
    rw [← List.append_assoc]
    by_cases hi : i < n
    · rw [List.getElem?_append_left (by omega)] at hy he
      obtain ⟨q1, q2, q3⟩ := k6 i y e hy he
      exact ⟨q1.app Y, q2.mono m3, q3⟩
    · have hi' : i = n := by
        have := (List.getElem?_eq_some_iff.1 hy).1
        simp at this; omega
      subst hi'
      rw [List.getElem?_append_right (by omega), k5] at hy
      rw [List.getElem?_append_right (by omega), k4] at he
      simp at hy he
      subst hy he
      exact ⟨m5, m4, m6⟩

theorem flatten_at {e : Nat} : ∀ (es : List (List Value)), (∀ x ∈ es, x.length = e) → ∀ (j : Nat) v, es.flatten[j]? = some v → ∃ x, es[j / e]? = some x ∧ x[j % e]? = some v
  | [], _, j, v, h => by simp at h
  | x :: es, he, j, v, h => by
    have hx := he x (by simp)
    rw [List.flatten_cons] at h
    by_cases hj : j < x.length
    · rw [List.getElem?_append_left hj] at h
      rw [hx] at hj
      rw [Nat.div_eq_of_lt hj, Nat.mod_eq_of_lt hj]
      exact ⟨x, rfl, h⟩
    · rw [List.getElem?_append_right (by omega), hx] at h
      rw [hx] at hj
      obtain ⟨y, h1, h2⟩ := flatten_at es (fun z hz => he z (by simp [hz])) _ _ h
      have hpos : 0 < e := by
        rcases Nat.eq_zero_or_pos e with h0 | h0
        · subst h0
          have hz : y.length = 0 := he y (by have := List.mem_of_getElem? h1; simp [this])
          rw [List.length_eq_zero_iff.1 hz] at h2; simp at h2
        · exact h0
      have e1 : j / e = (j - e) / e + 1 := by rw [← Nat.add_div_right _ hpos]; congr 1; omega
      have e2 : j % e = (j - e) % e := by rw [Nat.mod_eq_sub_mod (by omega)]
      rw [e1, e2]
      exact ⟨y, by simpa using h1, h2⟩

theorem Opens.arr {t : Ty} {n : Nat} {cs : List Value} (hl : cs.length = n * t.size) (hel : ∀ i, i < n → Opens Pg W lim w t ((cs.drop (i * t.size)).take t.size)) : Opens Pg W lim w (.arr n t) cs := by
  intro σ H h hn
  obtain ⟨X, σ1, es, xs, k1, k2, k3, k4, k5, k6⟩ := opens_elems (n := n) (cs := fun i => (cs.drop (i * t.size)).take t.size) hel h hn
  have hes : ∀ e ∈ es, e.length = t.size := by
    intro e he
    obtain ⟨i, hi, rfl⟩ := List.mem_iff_getElem.1 he
    exact (k6 i _ _ (List.getElem?_eq_getElem (by omega)) (List.getElem?_eq_getElem hi)).1.len
  have hat : ∀ (j : Nat) v, cs[j]? = some v → j / t.size < n ∧ j % t.size < t.size ∧ ((cs.drop (j / t.size * t.size)).take t.size)[j % t.size]? = some v := by
    intro j v hj
    have hjl : j < n * t.size := by rw [← hl]; exact (List.getElem?_eq_some_iff.1 hj).1
    have hpos : 0 < t.size := by
      rcases Nat.eq_zero_or_pos t.size with h0 | h0
      · rw [h0] at hjl; simp at hjl
      · exact h0
    have hm := Nat.mod_lt j hpos
    refine ⟨(Nat.div_lt_iff_lt_mul hpos).2 hjl, hm, ?_⟩
    rw [List.getElem?_take, if_pos hm, List.getElem?_drop, Nat.div_add_mod' j t.size]
    exact hj
  refine ⟨X, σ1, es.flatten, xs, k1, k2, k3, ⟨by rw [flatten_len hes, k4, hl], fun j a v ha hv => ?_⟩, ⟨es, rfl, k4, k5, fun i x e hx he => (k6 i x e hx he).1⟩, fun v hv => ?_⟩
  · obtain ⟨h1, h2, h3⟩ := hat j v hv
    obtain ⟨e, e1, e2⟩ := flatten_at es hes j a ha
    exact (k6 _ _ e (List.getElem?_eq_getElem (by omega)) e1).2.1.2 _ _ _ e2 h3
  · obtain ⟨j, hj⟩ := List.mem_iff_getElem?.1 hv
    obtain ⟨h1, h2, h3⟩ := hat j v hj
    exact (k6 (j / t.size) _ _ (List.getElem?_eq_getElem (by omega)) (List.getElem?_eq_getElem (by omega))).2.2 v (List.mem_of_getElem? h3)

theorem Opens.nilslice {t : Ty} : Opens Pg W lim w (.slice t) [.slice none 0 0] := by
  refine Opens.atom1 (t := .slice t) (x := ([] : List t.den)) rfl rfl fun H => ⟨Nat.zero_le _, none, 0, rfl, fun _ => ⟨rfl, rfl⟩, fun a ha => by cases ha⟩

theorem Opens.slice {t : Ty} {a : Addr} {len cap : Nat} {cs : Nat → List Value} (hl : len ≤ cap) (hc : cap ≤ maxLen) (hsz : t.size ≠ 0)
    (hel : ∀ i, i < cap → w.cells? 0 (a.add (i * t.size)) t.size = some (cs i) ∧ Opens Pg W lim w t (cs i)) : Opens Pg W lim w (.slice t) [.slice (some a) len cap] := by
  intro σ H h hn
  by_cases h0 : len = 0
  · subst h0
    obtain ⟨m1, m2⟩ := h.snoc hn ⟨a.block, a.off, cap * t.size⟩ .dead rfl trivial
    refine ⟨[.dead], _, [.slice (some ⟨H.length, 0, none⟩) 0 (loose t.size)], [], m1, hn.snoc rfl, m2, LRel.cons ?_ LRel.nil, ⟨Nat.zero_le _, some ⟨H.length, 0, none⟩, loose t.size, rfl, fun h => (by cases h), fun b hb => ?_⟩, fun v hv => by simp at hv; subst hv; rfl⟩
    · by_cases hcap : cap = 0
      · subst hcap
        exact .eslice sigAt_same (.inr ⟨_, rfl⟩)
      · have hsp : a.spot = none := by
          obtain ⟨h1, h2⟩ := hel 0 (by omega)
          obtain ⟨_, h3, h4⟩ := World.cells?_some h1
          have h5 := h4 0 (by omega)
          rw [List.getElem?_eq_getElem (by omega)] at h5
          have := World.cell?_spot h5
          simpa [Addr.add] using this
        obtain ⟨b, o, s⟩ := a
        simp only at hsp; subst hsp
        exact .lslice (L := ⟨b, o, cap * t.size⟩) (k := 0) sigAt_same hl (by simp)
    · cases hb
      exact ⟨rfl, rfl, rfl, fun h => absurd rfl h⟩
  · obtain ⟨X, σ1, es, xs, k1, k2, k3, k4, k5, k6⟩ := opens_elems (n := len) (cs := cs) (fun i hi => (hel i (by omega)).2) h hn
    have hsp : a.spot = none := by
      obtain ⟨h1, h2⟩ := hel 0 (by omega)
      obtain ⟨_, h3, h4⟩ := World.cells?_some h1
      have h5 := h4 0 (by omega)
      rw [List.getElem?_eq_getElem (by omega)] at h5
      have := World.cell?_spot h5
      simpa [Addr.add] using this
    have hcell : ∀ i, i < len → ∀ j, j < t.size → ∃ v, (cs i)[j]? = some v ∧ w.cell? ⟨a.block, a.off + (i * t.size + j), none⟩ = some v := by
      intro i hi j hj
      obtain ⟨_, h3, h4⟩ := World.cells?_some (hel i (by omega)).1
      have h5 := h4 j hj
      have hg : (cs i)[j]? = some ((cs i)[j]'(by omega)) := List.getElem?_eq_getElem _
      rw [hg, Go.Deep.add_add] at h5
      refine ⟨_, hg, ?_⟩
      rw [← h5]
      congr 1
      obtain ⟨b, o, s⟩ := a
      simp only at hsp; subst hsp
      exact (addr_add (b := b) (o := o)).symm
    obtain ⟨v0, _, hv0⟩ := hcell 0 (by omega) 0 (by omega)
    have hheap : ∃ cells el fz, w.heap[a.block]? = some (.cells cells el fz) := by
      unfold World.cell? at hv0
      split at hv0
      · rename_i c el fz hh; exact ⟨c, el, fz, hh⟩
      · cases hv0
    obtain ⟨cells, el, fz, hh⟩ := hheap
    have hes : ∀ e ∈ es, e.length = t.size := by
      intro e he
      obtain ⟨i, hi, rfl⟩ := List.mem_iff_getElem.1 he
      exact (k6 i _ _ (List.getElem?_eq_getElem (by omega)) (List.getElem?_eq_getElem hi)).1.len
    have hblk : BlkRel Pg (sigAt σ1 (H ++ X).length ⟨a.block, a.off, cap * t.size⟩) w ⟨a.block, a.off, cap * t.size⟩ (.cells true es.flatten) := by
      refine ⟨cells, el, fz, hh, fun j v hv => ?_, fun h => by cases h⟩
      obtain ⟨e, h1, h2⟩ := flatten_at es hes j v hv
      have hi : j / t.size < len := by have := (List.getElem?_eq_some_iff.1 h1).1; omega
      have hj : j % t.size < t.size := Nat.mod_lt _ (by omega)
      obtain ⟨q1, q2, q3⟩ := k6 _ _ e (List.getElem?_eq_getElem (by omega)) h1
      obtain ⟨u, r1, r2⟩ := hcell _ hi _ hj
      refine ⟨u, ?_, (q2.2 _ _ _ h2 r1).mono ?_, q3 u (List.mem_of_getElem? r1)⟩
      · rw [Nat.div_add_mod' j t.size] at r2
        simpa [World.cell?, hh] using r2
      · intro i K hi
        have := k1.lt hi
        rw [sigAt_ne (by omega)]; exact hi
    obtain ⟨m1, m2⟩ := k1.snoc k2 _ _ rfl hblk
    refine ⟨X ++ [.cells true es.flatten], _, [.slice (some ⟨(H ++ X).length, 0, none⟩) len (loose t.size)], xs, by rw [← List.append_assoc]; exact m1, by rw [← List.append_assoc]; exact k2.snoc rfl, Sig.le_trans k3 m2, LRel.cons ?_ LRel.nil, ?_, fun v hv => by simp at hv; subst hv; rfl⟩
    · obtain ⟨b, o, s⟩ := a
      simp only at hsp; subst hsp
      exact .lslice (L := ⟨b, o, cap * t.size⟩) (k := 0) sigAt_same hl (by simp)
    · refine ⟨by rw [k5]; omega, some ⟨(H ++ X).length, 0, none⟩, loose t.size, by rw [k5], (fun h => (by cases h)), fun b hb => ?_⟩
      cases hb
      refine ⟨rfl, rfl, rfl, fun _ => ⟨es, ?_, by omega, fun i x e hx he => ?_⟩⟩
      · rw [← List.append_assoc]; exact hget_new0
      · rw [← List.append_assoc]; exact (k6 i x e hx he).1.app _

/-! ### Types of the model -/
section
variable (P : Program)
def tyFields (f : TypeId → Option Ty) : List Field → Nat → Option Ty
  | [], _ => some .nil
  | fd :: fs, off => if fd.offset = off then match f fd.type with
    | some ty => if ty.size = P.cellsOf fd.type then match tyFields f fs (off + ty.size) with
      | some r => some (.pair ty r)
      | none => none
      else none
    | none => none
    else none
def tyOf : Nat → TypeId → Option Ty
  | 0, _ => none
  | n + 1, t => match P.underlying t with
    | some .bool => some .bool
    | some (.int k) => some (.int k)
    | some .string => some .str
    | some (.slice e) => match tyOf n e with
      | some ty => if ty.size = P.cellsOf e ∧ ty.size ≠ 0 then some (.slice ty) else none
      | none => none
    | some (.array k e) => match tyOf n e with
      | some ty => if ty.size = P.cellsOf e ∧ k * ty.size = P.cellsOf t then some (.arr k ty) else none
      | none => none
    | some (.struct fs) => match tyFields P (tyOf n) fs.toList 0 with
      | some ty => if ty.size = P.cellsOf t then some ty else none
      | none => none
    | _ => none
end

variable {P : Program} {H : Type} {enc : TypeId × Value → H} {held : Bool}
theorem opens_fields {n m : Nat} {cs : List Value} (ih : ∀ t ty cs x, tyOf P n t = some ty → DataW.trod enc P w 0 (fun _ => true) held m t cs = some x → Opens Pg W lim w ty cs) :
    ∀ (fs : List Field) (off : Nat) (xs : List (DataW H × List MemPlace)) (ty : Ty), tyFields P (tyOf P n) fs off = some ty → off + ty.size = cs.length → (∀ (i : Nat) f, fs[i]? = some f → DataW.trod enc P w 0 (fun _ => true) held m f.type ((cs.drop f.offset).take (P.cellsOf f.type)) = xs[i]?) → xs.length = fs.length → Opens Pg W lim w ty (cs.drop off)
  | [], off, xs, ty, ht, hl, hx, hxl => by
    simp only [tyFields, Option.some.injEq] at ht
    subst ht
    rw [List.drop_eq_nil_of_le (by simp [Ty.size] at hl; omega)]
    exact Opens.nil
  | fd :: fs, off, xs, ty, ht, hl, hx, hxl => by
    simp only [tyFields] at ht
    split at ht
    case isFalse => cases ht
    rename_i ho
    split at ht
    case h_2 => cases ht
    rename_i ty1 h1
    split at ht
    case isFalse => cases ht
    rename_i hs
    split at ht
    case h_2 => cases ht
    rename_i r hr
    cases ht
    simp only [Ty.size] at hl
    match xs, hxl with
    | x0 :: xs, hxl =>
      have h2 := hx 0 fd rfl
      simp only [List.getElem?_cons_zero] at h2
      have h3 := ih _ _ _ _ h1 h2
      have h4 := opens_fields (cs := cs) ih fs (off + ty1.size) xs r hr (by omega) (fun i f hf => by simpa using hx (i + 1) f (by simpa using hf)) (by simpa using hxl)
      rw [ho, ← hs] at h3
      have := Opens.pair h3 h4
      rw [← List.drop_drop, List.take_append_drop] at this
      exact this

theorem opens_trod : ∀ (n m : Nat) {t : TypeId} {ty : Ty} {cs : List Value} {x : DataW H × List MemPlace}, tyOf P n t = some ty → DataW.trod enc P w 0 (fun _ => true) held m t cs = some x → Opens Pg W lim w ty cs
  | 0, _, t, ty, cs, x, ht, _ => by simp [tyOf] at ht
  | n + 1, m, t, ty, cs, x, ht, h => by
    simp only [tyOf] at ht
    split at ht
    · rename_i hu; cases ht
      obtain ⟨b, rfl, _⟩ := DataW.trod_bool hu h
      exact Opens.bool
    · rename_i k hu; cases ht
      obtain ⟨b, rfl, _, hw⟩ := DataW.trod_int hu h
      exact Opens.int hw
    · rename_i hu; cases ht
      obtain ⟨b, rfl, _, hw⟩ := DataW.trod_string hu h
      exact Opens.str hw
    · rename_i e hu
      split at ht
      case h_2 => cases ht
      rename_i ty' he
      split at ht
      case isFalse => cases ht
      rename_i hs
      cases ht
      rcases Go.Deep.open_slice hu h with ⟨rfl, _⟩ | ⟨a, len, cap, mm, m', D, Pl, rfl, hb, hl, hm, hmm, hx, hi⟩
      · exact Opens.nilslice
      · simp only [if_true] at hmm
        subst hmm
        have hel : ∀ i, ∃ cs', i < mm → w.cells? 0 (a.add (i * ty'.size)) ty'.size = some cs' ∧ Opens Pg W lim w ty' cs' := by
          intro i
          by_cases him : i < mm
          · obtain ⟨cs', h1, h2⟩ := hi i him
            exact ⟨cs', fun _ => ⟨by rw [hs.1]; exact h1, opens_trod n m' he h2⟩⟩
          · exact ⟨[], fun h => absurd h him⟩
        exact Opens.slice (cs := fun i => Classical.choose (hel i)) hl hm hs.2 fun i hi => Classical.choose_spec (hel i) hi
    · rename_i k e hu
      split at ht
      case h_2 => cases ht
      rename_i ty' he
      split at ht
      case isFalse => cases ht
      rename_i hs
      cases ht
      obtain ⟨xs, m', _, _, hcl, hxl, hf⟩ := DataW.trod_array hu h
      refine Opens.arr (by rw [hcl, hs.2]) fun i hi => ?_
      have h1 := hf i hi
      rw [List.getElem?_eq_getElem (by omega)] at h1
      rw [hs.1]
      exact opens_trod n m' he h1
    · rename_i fs hu
      split at ht
      case h_2 => cases ht
      rename_i ty' he
      split at ht
      case isFalse => cases ht
      rename_i hs
      cases ht
      obtain ⟨xs, m', _, _, hcl, hxl, hf⟩ := DataW.trod_struct hu h
      have := opens_fields (cs := cs) (fun t ty cs x h1 h2 => opens_trod n m' h1 h2) fs.toList 0 xs ty he (by omega) (fun i f hf' => hf i f (by simpa using hf')) (by simpa using hxl)
      simpa using this
    · cases ht
end
end Go.AM
set_option linter.unusedVariables false
set_option linter.unusedSimpArgs false
namespace Go.AM
open Go.ChangeShapes Go.WideShapes Go.ChangeAt Go.RowKit

def isRow : Ty → Bool
  | .nil => true
  | .pair _ _ => true
  | .arr _ _ => true
  | _ => false
/-- How data lie in a value. -/
def RepV (t : Ty) (H : Heap) (x : t.den) (v : Value) : Prop := if isRow t = true then ∃ as, v = .agg as.toArray ∧ Rep t H x as else Rep t H x [v]
abbrev dens : List Ty → Type
  | [] => Unit
  | t :: ts => t.den × dens ts
def RepAll : (ts : List Ty) → Heap → dens ts → List Value → Prop
  | [], _, _, vs => vs = []
  | t :: ts, H, x, vs => ∃ v r, vs = v :: r ∧ RepV t H x.1 v ∧ RepAll ts H x.2 r
theorem RepV.app {t : Ty} {H : Heap} {x : t.den} {v : Value} (h : RepV t H x v) (X : Heap) : RepV t (H ++ X) x v := by
  unfold RepV at *
  split
  · rename_i hr
    rw [if_pos hr] at h
    obtain ⟨as, e, k⟩ := h
    exact ⟨as, e, k.app X⟩
  · rename_i hr
    rw [if_neg hr] at h
    exact h.app X

section
variable {P : Program} {H : Type} {enc : TypeId × Value → H} {w : World} {Pg : Prg} {W : Nat → Prop} {lim : Nat}

theorem tyFields_row {f : TypeId → Option Ty} : ∀ {fs : List Field} {off : Nat} {ty : Ty}, tyFields P f fs off = some ty → isRow ty = true
  | [], off, ty, h => by simp only [tyFields, Option.some.injEq] at h; subst h; rfl
  | fd :: fs, off, ty, h => by
    simp only [tyFields] at h
    split at h
    · split at h
      · split at h
        · split at h
          · cases h; rfl
          · cases h
        · cases h
      · cases h
    · cases h

/-- The cells of an argument. -/
theorem arg_cells {n : Nat} {t : TypeId} {ty : Ty} {v : Value} {r : Reach} {base : Nat} (ht : tyOf P n t = some ty) (hv : Value.okWide P w r base t v) : if isRow ty = true then ∃ cs, v = .agg cs else v.cells.toList = [v] := by
  cases n with
  | zero => simp [tyOf] at ht
  | succ n =>
    simp only [tyOf] at ht
    split at ht
    · rename_i hu; cases ht
      obtain ⟨b, rfl⟩ := okWide_bool hu hv
      rfl
    · rename_i k hu; cases ht
      obtain ⟨b, rfl⟩ := okWide_int hu hv
      rfl
    · rename_i hu; cases ht
      obtain ⟨b, rfl⟩ := okWide_string hu hv
      rfl
    · rename_i e hu
      split at ht
      case h_2 => cases ht
      split at ht
      case isFalse => cases ht
      cases ht
      obtain ⟨a, l, c, rfl⟩ := okWide_slice hu hv
      rfl
    · rename_i k e hu
      split at ht
      case h_2 => cases ht
      rename_i ty' he
      split at ht
      case isFalse => cases ht
      cases ht
      have hv2 := hv
      simp only [Value.okWide, hu] at hv2
      obtain ⟨cs, rfl, _⟩ := hv2
      exact ⟨cs, rfl⟩
    · rename_i fs hu
      split at ht
      case h_2 => cases ht
      rename_i ty' he
      split at ht
      case isFalse => cases ht
      cases ht
      obtain ⟨cs, rfl, _⟩ := okWide_struct hu hv
      rw [if_pos (tyFields_row he)]
      exact ⟨cs, rfl⟩
    · cases ht

theorem opens_args {n : Nat} {r : Reach} {base : Nat} : ∀ {ts : List TypeId} {vs : List Value} {ds : List (DataW H)} {ps : List MemPlace} {tys : List Ty}, DataW.TrodAll enc P w 0 (fun _ => true) true ts vs ds ps → ts.mapM (tyOf P n) = some tys →
    (∀ (j : Nat) t v, ts[j]? = some t → vs[j]? = some v → Value.okWide P w r base t v) → ∀ σ H, Inv Pg W lim σ H w → NoOwn H →
    ∃ X σ' as x, Inv Pg W lim σ' (H ++ X) w ∧ NoOwn (H ++ X) ∧ Sig.le σ σ' ∧ LRel σ' as vs ∧ RepAll tys (H ++ X) x as
  | [], [], [], ps, tys, _, ht, _, σ, Hp, hi, hn => by
    simp at ht; subst ht
    exact ⟨[], σ, [], (), by simpa using hi, by simpa using hn, Sig.le_refl _, LRel.nil, rfl⟩
  | t :: ts, v :: vs, d :: ds, ps, tys, hA, ht, hv, σ, Hp, hi, hn => by
    obtain ⟨p, q, h1, h2, rfl⟩ := hA
    rw [List.mapM_cons] at ht
    obtain ⟨ty, hty, ht⟩ := opt_bind ht
    obtain ⟨tr, htr, ht⟩ := opt_bind ht
    cases ht
    obtain ⟨m, hm⟩ := h1
    have hc := arg_cells hty (hv 0 t v rfl rfl)
    obtain ⟨X, σ1, as, x, k1, k2, k3, k4, k5, k6⟩ := opens_trod n m hty hm σ Hp hi hn
    obtain ⟨Y, σ2, bs, y, m1, m2, m3, m4, m5⟩ := opens_args h2 htr (fun j t' v' e1 e2 => hv (j + 1) t' v' (by simpa using e1) (by simpa using e2)) σ1 _ k1 k2
    have key : ∃ av, VRel σ1 av v ∧ RepV ty (Hp ++ X) x av := by
      split at hc
      · rename_i hr
        obtain ⟨cs, rfl⟩ := hc
        refine ⟨.agg as.toArray, VRel.agg_iff.2 ⟨by simpa [Value.cells] using k4, by simpa [Value.cells] using k6⟩, ?_⟩
        unfold RepV; rw [if_pos hr]
        exact ⟨as, rfl, k5⟩
      · rename_i hr
        rw [hc] at k4
        have hl := k4.1
        match as, hl, k4, k5 with
        | [a], _, k4, k5 =>
          refine ⟨a, k4.head, ?_⟩
          unfold RepV; rw [if_neg hr]
          exact k5
    obtain ⟨av, q1, q2⟩ := key
    refine ⟨X ++ Y, σ2, av :: bs, (x, y), by rw [← List.append_assoc]; exact m1, by rw [← List.append_assoc]; exact m2, Sig.le_trans k3 m3, LRel.cons (q1.mono m3) m4, av, bs, rfl, ?_, ?_⟩
    · rw [← List.append_assoc]; exact q2.app Y
    · rw [← List.append_assoc]; exact m5
  | [], [], _ :: _, _, _, hA, _, _, _, _, _, _ => hA.elim
  | [], _ :: _, _, _, _, hA, _, _, _, _, _, _ => hA.elim
  | _ :: _, [], _, _, _, hA, _, _, _, _, _, _ => hA.elim
  | _ :: _, _ :: _, [], _, _, hA, _, _, _, _, _, _ => hA.elim

theorem trodAll_stays (hl : laidOutB P = true) {w' : World} (hb : Below w.heap.size w w') : ∀ {ts : List TypeId} {vs : List Value} {ds : List (DataW H)} {ps : List MemPlace}, (∀ t ∈ ts, P.readableRec t = true ∧ t < P.types.size) → DataW.TrodAll enc P w 0 (fun _ => true) true ts vs ds ps →
    (∀ x ∈ ps, x.block < w.heap.size) → DataW.TrodAll enc P w' 0 (fun b => decide (b < w.heap.size)) true ts vs ds ps
  | [], [], [], ps, _, h, _ => h
  | t :: ts, v :: vs, d :: ds, ps, hr, h, hlt => by
    obtain ⟨p, q, h1, h2, rfl⟩ := h
    exact ⟨p, q, Below.trod hl (hr t (by simp)).1 (hr t (by simp)).2 h1 hb fun x hx => hlt x (by simp [hx]), trodAll_stays hl hb (fun t' ht' => hr t' (by simp [ht'])) h2 fun x hx => hlt x (by simp [hx]), rfl⟩
  | [], [], _ :: _, _, _, hA, _ => hA.elim
  | [], _ :: _, _, _, _, hA, _ => hA.elim
  | _ :: _, [], _, _, _, hA, _ => hA.elim
  | _ :: _, _ :: _, [], _, _, hA, _ => hA.elim
theorem trodAll_length : ∀ {ts : List TypeId} {vs : List Value} {ds : List (DataW H)} {ps : List MemPlace}, DataW.TrodAll enc P w 0 (fun _ => true) true ts vs ds ps → ds.length = ts.length
  | [], [], [], ps, _ => rfl
  | t :: ts, v :: vs, d :: ds, ps, h => by
    obtain ⟨p, q, h1, h2, rfl⟩ := h
    simp [trodAll_length h2]
  | [], [], _ :: _, _, hA => hA.elim
  | [], _ :: _, _, _, hA => hA.elim
  | _ :: _, [], _, _, hA => hA.elim
  | _ :: _, _ :: _, [], _, hA => hA.elim
end

/-- THE LAW: its run comes to true on whatever the arguments hold. -/
theorem law_returns {C : Checked} {os : Os} {g : FuncId} {fn : Func} {s : ChangeSpec} {E : Env} {tys : List Ty} {tb : TypeId} {conds : List PathCond} {H : Type} {enc : TypeId × Value → H}
    (own : ownKnob C.prog.godebug = none) (started : os.Started) (noInit : C.prog.inits.idxOf? g = none) (hfn : C.prog.funcs[g]? = some fn) (hvars : s.vars = [])
    (hspec : ∀ ds : List (DataW H), ds.length = fn.params.size → s.fn H ds = { results := [.lit (.bool true)], args := ds })
    (hres : fn.resultTypes = #[tb]) (hb : C.prog.underlying tb = some .bool) (htys : fn.params.toList.mapM (tyOf C.prog 9) = some tys)
    (hread : ∀ t ∈ fn.params.toList, C.prog.readableRec t = true ∧ t < C.prog.types.size) (hlaid : laidOutB C.prog = true) (hE : EnvOk C.prog E)
    (witness : ∃ (w : World) (tape : Tape) (i : Input), w.os = os ∧ (w.forCall tape i).Shaped C.prog ∧ i.vars = [] ∧ Input.okWide C.prog (w.forCall tape i) .any w.heap.size g i ∧
      s.pre6 enc C.prog fn conds false (w.forCall tape i).memory i.args ∧ ({} : Assume).holds C.prog (lone (Frame.enter C.prog g i.args .normal) [] (w.forCall tape i)))
    (run : ∀ H vs x, RepAll tys H x vs → CallR E false H.length g vs H fun v _ => v = .bool true) :
    ReturnsInHanded {} C os g .any (s.pre6 enc C.prog fn conds false) (s.post enc C.prog fn false true false false) := by
  refine returnsInHanded_of_change own started noInit hfn witness ?_
  intro w base args ds gs before hval hW hcnd hholds
  have hW' := hW
  obtain ⟨p, q, hA, hV, rfl, hfz, hnd⟩ := hW
  rw [hvars] at hV
  obtain ⟨rfl, rfl⟩ := trodVars_none hV
  obtain ⟨X, σ, as, x, k1, k2, k3, k4, k5⟩ := opens_args hA htys (fun j t v h1 h2 => hval j t v (by simpa using h1) (by simpa using h2)) (fun _ => none) [] (Inv.nil (P := C.prog) (E := E) w) (fun i b hb => by simp at hb)
  rw [List.nil_append] at k1 k2 k5
  have k1' : Inv (Prg.mk C.prog E.pure) (fun k => w.heap.size ≤ k) X.length σ X w := ⟨k1.blk, k1.inj, (fun i b L hb ho => by rw [k2 i b hb] at ho; cases ho), k1.fresh, k1.dom⟩
  obtain ⟨n, v, H', hx, rfl⟩ := run X as x k5
  have hcall := (callOk hE n).calls _ _ _ _ _ _ _ hx (Nat.le_refl _) _ _ _ _ k1' k4
  rw [show args.toList.toArray = args by simp] at hcall
  refine hcall.mono fun e w' hp => ?_
  obtain ⟨v', σ', rfl, hv, hinv, hst, _⟩ := hp
  rw [hv.bool_left]
  have hbel : Below w.heap.size w w' := ⟨hst.os, hst.tape, hst.output, hst.size, fun k hk => hst.block k (by omega)⟩
  have hlt : ∀ x ∈ p, x.block < w.heap.size := fun x hx => by
    have := hW'.lt x (by simpa using hx)
    simpa using this
  have hs := hspec ds (by simpa using trodAll_length hA)
  refine ⟨_, rfl, _, _, _, [], p, [], hW', ?_, ?_, ?_, hbel.frame _, fun h => by cases h⟩
  · rw [List.append_nil, hs, hres]
    exact trodAll_mk1 (shut_bool hb true)
  · rw [List.append_nil, hs]
    exact trodAll_stays hlaid hbel hread hA hlt
  · rw [List.append_nil, hs, hvars]
    rfl

/-- A slice of flat data. -/
theorem Rep.sl {t : Ty} {H : Heap} {l : List t.den} {cs : List Value} {α : Type} (f : t.den → α) (enc : α → List Value) (he : ∀ H x c, Rep t H x c → c = enc (f x)) (h : Rep (.slice t) H l cs) :
    ∃ p cap, cs = [.slice p (l.map f).length cap] ∧ Sl H enc t.size p (l.map f) ∧ l.length < 2 ^ 63 := by
  obtain ⟨h0, p, cap, e, h1, h2⟩ := h
  have hlen : l.length < 2 ^ 63 := by unfold maxLen at h0; omega
  refine ⟨p, cap, by rw [e, List.length_map], ?_, hlen⟩
  cases p with
  | none => simp only [Sl]; rw [(h1 rfl).1]; rfl
  | some a =>
    obtain ⟨k1, k2, k3, k4⟩ := h2 a rfl
    refine ⟨k1, fun hn => ?_⟩
    obtain ⟨es, m1, m2, m3⟩ := k4 (by rintro rfl; exact hn rfl)
    have key : es.flatten = (l.map f).flatMap enc := by
      have : es = l.map fun x => enc (f x) := by
        apply List.ext_getElem (by simpa using m2)
        intro i i1 i2
        have i3 : i < l.length := by simpa using i2
        have := he _ _ _ (m3 i l[i] es[i] (List.getElem?_eq_getElem _) (List.getElem?_eq_getElem _))
        rw [this]; simp
      rw [this, List.flatMap_def, List.map_map]
      rfl
    have hfl : es.flatten.length = l.length * t.size := by
      have : ∀ (es : List (List Value)), (∀ x ∈ es, x.length = t.size) → es.flatten.length = es.length * t.size := by
        intro es
        induction es with
        | nil => simp
        | cons x es ih => intro h; simp [ih fun y hy => h y (by simp [hy]), h x (by simp), Nat.add_mul, Nat.add_comm]
      rw [this es, m2]
      intro x hx
      obtain ⟨i, hi, rfl⟩ := List.mem_iff_getElem.1 hx
      exact (m3 i _ _ (List.getElem?_eq_getElem (by omega)) (List.getElem?_eq_getElem hi)).len
    refine ⟨true, _, m1, ?_, ?_⟩
    · rw [k2, hfl, List.length_map]; omega
    · rw [k2, List.drop_zero, key, List.take_of_length_le]
      rw [← key, hfl, List.length_map]
      exact Nat.le_refl _
theorem Rep.slice_mem {t : Ty} {H : Heap} {l : List t.den} {cs : List Value} (h : Rep (.slice t) H l cs) : ∀ x ∈ l, ∃ c, Rep t H x c := by
  intro x hx
  obtain ⟨h0, p, cap, e, h1, h2⟩ := h
  cases p with
  | none => rw [(h1 rfl).1] at hx; simp at hx
  | some a =>
    obtain ⟨k1, k2, k3, k4⟩ := h2 a rfl
    obtain ⟨es, m1, m2, m3⟩ := k4 (by rintro rfl; simp at hx)
    obtain ⟨i, hi, rfl⟩ := List.mem_iff_getElem.1 hx
    exact ⟨_, m3 i _ _ (List.getElem?_eq_getElem hi) (List.getElem?_eq_getElem (by omega))⟩
theorem Rep.pair_of {a b : Ty} {H : Heap} {x : (Ty.pair a b).den} {cs : List Value} (h : Rep (.pair a b) H x cs) : ∃ c1 c2, cs = c1 ++ c2 ∧ Rep a H x.1 c1 ∧ Rep b H x.2 c2 := h
theorem Rep.nil_of {H : Heap} {x : Ty.nil.den} {cs : List Value} (h : Rep .nil H x cs) : cs = [] := h
theorem Rep.int_of {k : IntKind} {H : Heap} {x : (Ty.int k).den} {cs : List Value} (h : Rep (.int k) H x cs) : cs = [.int k x] ∧ k.min ≤ x ∧ x ≤ k.max := h
theorem Rep.str_of {H : Heap} {x : Ty.str.den} {cs : List Value} (h : Rep .str H x cs) : cs = [.string x] ∧ x.size ≤ maxLen := h
theorem Rep.bool_of {H : Heap} {x : Ty.bool.den} {cs : List Value} (h : Rep .bool H x cs) : cs = [.bool x] := h
theorem Rep.arr_of {n : Nat} {t : Ty} {H : Heap} {x : (Ty.arr n t).den} {cs : List Value} (h : Rep (.arr n t) H x cs) : ∃ es : List (List Value), cs = es.flatten ∧ es.length = n ∧ x.length = n ∧ ∀ (i : Nat) y e, x[i]? = some y → es[i]? = some e → Rep t H y e := h
theorem RepV.row {t : Ty} {H : Heap} {x : t.den} {v : Value} (hr : isRow t = true) (h : RepV t H x v) : ∃ cs, v = .agg cs.toArray ∧ Rep t H x cs := by
  unfold RepV at h
  rw [if_pos hr] at h
  exact h
theorem RepV.one {t : Ty} {H : Heap} {x : t.den} {v : Value} (hr : isRow t = false) (h : RepV t H x v) : Rep t H x [v] := by
  unfold RepV at h
  rw [if_neg (by rw [hr]; decide)] at h
  exact h
end Go.AM
set_option linter.unusedVariables false
set_option linter.unusedSimpArgs false
namespace Go.AM
/-- H' is H, but for the blocks A, and what is new. -/
structure Chg (A : List Nat) (H H' : Heap) : Prop where
  len : H.length ≤ H'.length
  other : ∀ j, j < H.length → j ∉ A → hget H' j = hget H j
section
variable {A B : List Nat} {H H' K : Heap}
theorem Chg.refl : Chg A H H := ⟨Nat.le_refl _, fun _ _ _ => rfl⟩
theorem Chg.trans (h : Chg A H H') (k : Chg A H' K) : Chg A H K := ⟨Nat.le_trans h.len k.len, fun j hj hA => (k.other j (by have := h.len; omega) hA).trans (h.other j hj hA)⟩
theorem Chg.trans' (h : Chg A H H') (k : Chg B H' K) (hB : ∀ j, j ∈ B → j < H.length → j ∈ A) : Chg A H K := ⟨Nat.le_trans h.len k.len, fun j hj hA => (k.other j (by have := h.len; omega) fun hb => hA (hB j hb hj)).trans (h.other j hj hA)⟩
theorem Chg.mono (h : Chg A H H') (hs : ∀ j, j < H.length → j ∈ A → j ∈ B) : Chg B H H' := ⟨h.len, fun j hj hB => h.other j hj fun hA => hB (hs j hj hA)⟩
theorem Chg.app (h : Chg A H H') {X : Heap} : Chg A H (H' ++ X) := ⟨by have := h.len; simp; omega, fun j hj hA => by rw [hget_old (by have := h.len; omega)]; exact h.other j hj hA⟩
theorem Chg.pre (h : Chg A (H ++ K) H') : Chg A H H' := ⟨by have := h.len; simp at this; omega, fun j hj hA => by rw [h.other j (by simp; omega) hA, hget_old hj]⟩
theorem Chg.mut {R : Nat} (h : Chg A H H') (m : Mut H' K R) (hR : R ∈ A ∨ H.length ≤ R) : Chg A H K := ⟨by rw [m.len]; exact h.len, fun j hj hA => by
  rw [m.other j (by rintro rfl; rcases hR with h1 | h1; exact hA h1; omega)]; exact h.other j hj hA⟩
theorem Chg.set {R : Nat} {b : Blk} (h : Chg A H H') (hR : R ∈ A ∨ H.length ≤ R) : Chg A H (H'.set R b) := h.mut (R := R) ⟨by simp, fun j hj => hget_set_ne hj⟩ hR
theorem Chg.get (h : Chg A H H') {j : Nat} {b : Blk} (hj : hget H j = b) (hl : j < H.length) (hA : j ∉ A) : hget H' j = b := by rw [h.other j hl hA]; exact hj
theorem Chg.cells (h : Chg A H H') {j : Nat} {ro : Bool} {c : List Value} (hj : hget H j = .cells ro c) (hA : j ∉ A) : hget H' j = .cells ro c := h.get hj (hget_alive hj) hA
theorem Chg.sl {α : Type} {enc : α → List Value} {e : Nat} {p : Option Addr} {l : List α} (h : Chg A H H') (hs : Sl H enc e p l) (hp : ∀ a, p = some a → l ≠ [] → a.block ∉ A) : Sl H' enc e p l := by
  cases p with
  | none => exact hs
  | some a =>
    refine ⟨hs.1, fun hn => ?_⟩
    obtain ⟨ro, c, h2, h3⟩ := hs.2 hn
    exact ⟨ro, c, h.cells h2 (hp a rfl hn), h3⟩
theorem Ext.chg (h : Ext H H') : Chg A H H' := by obtain ⟨X, rfl⟩ := h; exact Chg.refl.app
theorem Chg.ext (h : Chg [] H H') : Ext H H' := by
  refine ⟨H'.drop H.length, ?_⟩
  apply List.ext_getElem
  · have := h.len; simp; omega
  intro i h1 h2
  by_cases hi : i < H.length
  · rw [List.getElem_append_left hi]
    have := h.other i hi (by simp)
    unfold hget at this
    rw [List.getD_eq_getElem?_getD, List.getD_eq_getElem?_getD, List.getElem?_eq_getElem h1, List.getElem?_eq_getElem hi] at this
    exact this
  · rw [List.getElem_append_right (by omega), List.getElem_drop]
    congr 1
    omega
end
/-- A block of a slice with elements is there. -/
theorem Sl.lt {α : Type} {H : Heap} {enc : α → List Value} {e : Nat} {a : Addr} {l : List α} (h : Sl H enc e (some a) l) (hn : l ≠ []) : a.block < H.length := by
  obtain ⟨ro, c, h2, _⟩ := h.2 hn
  exact hget_alive h2
theorem Sl.some {α : Type} {H : Heap} {enc : α → List Value} {e : Nat} {p : Option Addr} {l : List α} (h : Sl H enc e p l) (hn : l ≠ []) : ∃ a, p = some a := by
  cases p with
  | none => exact absurd h hn
  | some a => exact ⟨a, rfl⟩
section
variable {α : Type} [Inhabited α] {H : Heap} {enc : α → List Value} {e : Nat} {p : Option Addr} {l : List α}
/-- Some cells of an element. -/
theorem Sl.loadSub (h : Sl H enc e p l) (he : ∀ x, (enc x).length = e) {i j n : Nat} (hi : i < l.length) (hj : j + n ≤ e) : AM.loadCells H ((elt p e i).add j) n = Option.some (((enc (gt l i)).drop j).take n) := by
  have h0 := h.loadCells he hi
  cases p with
  | none => simp only [Sl] at h; subst h; simp at hi
  | some a =>
    obtain ⟨b, o, s⟩ := a
    obtain ⟨ro, c, h2, h4, h3⟩ := h.2 (by rintro rfl; simp at hi)
    have h1 := h.1
    simp only at h1 h2 h3 h4; subst h1
    have hie : i * e + e ≤ l.length * e := by
      have := Nat.mul_le_mul_right e (Nat.succ_le_of_lt hi)
      rw [Nat.succ_mul] at this; exact this
    simp only [elt, addrOf, Option.getD_some, addr_add, AM.loadCells, h2] at h0 ⊢
    split at h0
    · simp only [Option.some.injEq] at h0
      rw [if_pos (by omega), ← h0, List.drop_take, List.take_take, List.drop_drop, Nat.min_eq_left (by omega), Nat.add_assoc]
    · cases h0
omit [Inhabited α] in
/-- An element is set. -/
theorem store_elt {lim S : Nat} (he : ∀ x, (enc x).length = e) (hp : p = Option.some ⟨S, 0, none⟩) (hS : hget H S = .cells false (l.flatMap enc)) (hl : lim ≤ S) {i : Nat} (hi : i < l.length) (y : α) : AM.storeAt lim H (elt p e i) (enc y) = Option.some (H.set S (.cells false ((l.set i y).flatMap enc))) := by
  subst hp
  have h1 : i * e + e ≤ l.length * e := by
    have := Nat.mul_le_mul_right e (Nat.succ_le_of_lt hi)
    rw [Nat.succ_mul] at this; exact this
  simp only [elt, addrOf, Option.getD_some, addr_add, storeAt_lit, hS, Nat.zero_add]
  rw [if_pos ⟨hl, by rw [he, flat_len he]; exact h1⟩, flat_set he y _ _ hi]
end
/-- An element is set, whatever lies behind. -/
theorem store_mut {α : Type} {G : Heap} {enc : α → List Value} {e : Nat} {p : Option Addr} {l : List α} {lim S : Nat} (he : ∀ x, (enc x).length = e) (hp : p = some ⟨S, 0, none⟩) (hS : hget G S = .cells false (l.flatMap enc)) (hl : lim ≤ S) {i : Nat} (hi : i < l.length) (y : α) :
    ∃ G', (∀ X, AM.storeAt lim (G ++ X) (elt p e i) (enc y) = some (G' ++ X)) ∧ hget G' S = .cells false ((l.set i y).flatMap enc) ∧ Mut G G' S := by
  obtain ⟨G', h1, h2, h3⟩ := mut_set (hget_alive hS) (.cells false ((l.set i y).flatMap enc))
  exact ⟨G', fun X => by rw [store_elt he hp (by rw [hget_old (hget_alive hS)]; exact hS) hl hi, h1], h2, h3⟩
/-- One element behind: what is there then. -/
theorem Own.step {α : Type} {lim lim' e bytes cap : Nat} {G : Heap} {enc : α → List Value} {p : Option Addr} {l : List α} (h : Own lim G enc e p cap l) (hll : lim' ≤ lim) (he : ∀ x, (enc x).length = e) (he0 : e ≠ 0) (x : α) (hb : (l.length + 1) * bytes ≤ maxBytes) (hn : l.length + 1 < 2 ^ 61) (hlG : lim ≤ G.length)
    (X : Heap) (b k : Nat) (hx : hget (G ++ X) b = .cells false (enc x)) :
    ∃ G2, aAppend lim' none e bytes false (.slice p l.length cap) (.slice (some ⟨b, 0, none⟩) 1 k) (G ++ X) = some (.slice (some ⟨G.length + X.length, 0, none⟩) (l.length + 1) (loose e), G2 ++ []) ∧
      Own lim (G2 ++ []) enc e (some ⟨G.length + X.length, 0, none⟩) (loose e) (l ++ [x]) ∧ (∀ A H0, H0.length ≤ lim → Chg A H0 G → Chg A H0 (G2 ++ [])) ∧ (∀ j, j < G.length → (∀ a, p = some a → j ≠ a.block) → hget (G2 ++ []) j = hget G j) ∧ G2.length = G.length + X.length + 1 ∧
      (∀ j, j < X.length → hget (G2 ++ []) (G.length + j) = X.getD j .dead) := by
  obtain ⟨G', R, hR1, hR2, hm, _, hp⟩ := h.push1 (lim' := lim') (bytes := bytes) hll he he0 x hb hn
  have hRl : lim ≤ R := by
    rcases Option.eq_none_or_eq_some p with h1 | ⟨a, h1⟩
    · rw [hR1 h1]; exact hlG
    · rw [hR2 a h1]; exact (h.block h1).1
  refine ⟨G' ++ (X ++ [.cells false ((l ++ [x]).flatMap enc)]), by rw [List.append_nil]; exact hp X b k hx, ?_, fun A H0 h1 h2 => ?_, fun j hj hp => ?_, by simp [hm.len]; omega, fun j hj => ?_⟩
  · rw [List.append_nil]
    refine Own.new ?_ (by omega)
    rw [← List.append_assoc, ← hm.len, ← List.length_append]
    exact hget_new0
  · rw [List.append_nil]
    exact (h2.mut hm (.inr (by omega))).app
  · rw [List.append_nil, hget_old (by rw [hm.len]; exact hj)]
    refine hm.other j ?_
    rcases Option.eq_none_or_eq_some p with h1 | ⟨a, h1⟩
    · rw [hR1 h1]; omega
    · rw [hR2 a h1]; exact hp a h1
  · rw [List.append_nil, ← hm.len, hget_new, List.getD_eq_getElem?_getD, List.getElem?_append_left hj, List.getD_eq_getElem?_getD]
/-- What an append behind a new empty slice makes. -/
theorem append_new {α : Type} {lim b d e bytes c : Nat} {H : Heap} {enc : α → List Value} {p : Option Addr} {l : List α} (hb : hget H b = .cells false []) (hs : Sl H enc e p l) (h1 : e ≠ 0) (h2 : l.length * bytes ≤ maxBytes) (h3 : l.length < 2 ^ 62) (hn : l ≠ []) :
    aAppend lim (some d) e bytes false (.slice (some ⟨b, 0, none⟩) 0 0) (.slice p l.length c) H = some (.slice (some ⟨d, 0, none⟩) l.length (loose e), H.set d (.cells false (l.flatMap enc))) := by
  obtain ⟨a, rfl⟩ := hs.some hn
  have h0 : l.length ≠ 0 := fun h => hn (List.length_eq_zero_iff.1 h)
  obtain ⟨k1, k2⟩ := hs
  obtain ⟨ro, cs, k3, k4, k5⟩ := k2 hn
  have hl : AM.loadCells H a (l.length * e) = some (l.flatMap enc) := by
    obtain ⟨ab, ao, as'⟩ := a
    simp only [loadCells_lit]
    simp only at k3 k4 k5
    simp only [k3]
    rw [if_pos k4, k5]
  have h0' : AM.loadCells H ⟨b, 0, none⟩ (0 * e) = some [] := by simp [loadCells_lit, hb]
  simp only [aAppend, firstCells, lenOf, hl, h0', h0, Nat.zero_add, Nat.not_lt_zero, or_false, h1, false_or, Bool.false_eq_true, if_false]
  rw [if_neg (by omega), if_neg (by unfold loose; omega), if_pos (by decide), if_neg (by omega)]
  simp [place]
theorem append_newN {α : Type} {lim b e bytes c : Nat} {H : Heap} {enc : α → List Value} {p : Option Addr} {l : List α} (hb : hget H b = .cells false []) (hs : Sl H enc e p l) (h1 : e ≠ 0) (h2 : l.length * bytes ≤ maxBytes) (h3 : l.length < 2 ^ 62) (hn : l ≠ []) :
    aAppend lim none e bytes false (.slice (some ⟨b, 0, none⟩) 0 0) (.slice p l.length c) H = some (.slice (some ⟨H.length, 0, none⟩) l.length (loose e), H ++ [.cells false (l.flatMap enc)]) := by
  obtain ⟨a, rfl⟩ := hs.some hn
  have h0 : l.length ≠ 0 := fun h => hn (List.length_eq_zero_iff.1 h)
  obtain ⟨k1, k2⟩ := hs
  obtain ⟨ro, cs, k3, k4, k5⟩ := k2 hn
  have hl : AM.loadCells H a (l.length * e) = some (l.flatMap enc) := by
    obtain ⟨ab, ao, as'⟩ := a
    simp only [loadCells_lit]
    simp only at k3 k4 k5
    simp only [k3]
    rw [if_pos k4, k5]
  have h0' : AM.loadCells H ⟨b, 0, none⟩ (0 * e) = some [] := by simp [loadCells_lit, hb]
  simp only [aAppend, firstCells, lenOf, hl, h0', h0, Nat.zero_add, Nat.not_lt_zero, or_false, h1, false_or, Bool.false_eq_true, if_false]
  rw [if_neg (by omega), if_neg (by unfold loose; omega), if_pos (by decide), if_neg (by omega)]
  simp [place]
theorem append_new0 {lim b c e bytes : Nat} {dest : Option Nat} {H : Heap} {p : Option Addr} (h1 : e ≠ 0) : aAppend lim dest e bytes false (.slice (some ⟨b, 0, none⟩) 0 0) (.slice p 0 c) H = some (.slice (some ⟨b, 0, none⟩) 0 0, H) := by
  have : firstCells H e false (.slice p 0 c) = some [] := by cases p <;> simp [firstCells]
  simp [aAppend, this, lenOf, h1]
/-- The model's booleans. -/
theorem cellsEq_dec : ∀ (k : KK) (n : Nat) (a b : List Value), a.length = n → b.length = n → (∀ x ∈ a, ∀ y ∈ b, ∃ t, cellEq k x y = some t ∧ (t = true ↔ x = y)) → ∃ t, cellsEq (List.replicate n k) a b = some t ∧ (t = true ↔ a = b)
  | k, 0, a, b, ha, hb, _ => by
    have := List.length_eq_zero_iff.1 ha; have := List.length_eq_zero_iff.1 hb
    subst_vars
    exact ⟨true, rfl, by simp⟩
  | k, n + 1, a, b, ha, hb, h => by
    match a, b, ha, hb with
    | x :: a, y :: b, ha, hb =>
      obtain ⟨t, h1, h2⟩ := h x (by simp) y (by simp)
      obtain ⟨u, h3, h4⟩ := cellsEq_dec k n a b (by simpa using ha) (by simpa using hb) fun x hx y hy => h x (by simp [hx]) y (by simp [hy])
      refine ⟨t && u, ?_, ?_⟩
      · rw [List.replicate_succ]
        simp only [cellsEq, h1, h3]
      · rw [Bool.and_eq_true, h2, h4]; simp
theorem gt_ext {α : Type} [Inhabited α] {a b : List α} (hl : a.length = b.length) (h : ∀ i, i < a.length → gt a i = gt b i) : a = b := by
  apply List.ext_getElem hl
  intro i h1 h2
  have := h i h1
  rwa [gt_lt h1, gt_lt h2] at this
theorem take_snoc {α : Type} [Inhabited α] {l : List α} {i : Nat} (h : i < l.length) : l.take (i + 1) = l.take i ++ [gt l i] := by
  rw [List.take_succ_eq_append_getElem h, gt_lt h]
theorem zeros1 {z : Value} {n : Nat} : ((List.range (n * 1)).map fun j => [z].getD (j % 1) undef) = List.replicate n z := by
  apply List.ext_getElem (by simp)
  intro i h1 h2
  simp [Nat.mod_one]
theorem setAll_mid : ∀ (vs a b c : List Value), vs.length = b.length → setAll (a ++ b ++ c) a.length vs = a ++ vs ++ c := by
  intro vs
  induction vs with
  | nil => intro a b c h; simp at h; have : b = [] := List.length_eq_zero_iff.1 h.symm; subst this; rfl
  | cons v vs ih =>
    intro a b c h
    match b, h with
    | x :: b, h =>
      rw [setAll_cons]
      have e1 : (a ++ x :: b ++ c).set a.length v = (a ++ [v]) ++ b ++ c := by simp
      rw [e1]
      have := ih (a ++ [v]) b c (by simpa using h)
      rw [List.length_append] at this
      simp only [List.length_cons, List.length_nil, Nat.zero_add] at this
      rw [this]; simp
/-- Elements behind, for which there is room. -/
theorem append_roomN {α : Type} {lim R e bytes cap k : Nat} {H : Heap} {enc : α → List Value} {p : Option Addr} {old l : List α} {rest : List Value} (he : ∀ x, (enc x).length = e) (he0 : e ≠ 0) (hs : Sl H enc e p l) (hR : hget H R = .cells false (old.flatMap enc ++ rest)) (hl : lim ≤ R)
    (hc : old.length + l.length ≤ cap) (hr : rest.length = (cap - old.length) * e) (hcap : cap < 2 ^ 61) (hb : (old.length + l.length) * bytes ≤ maxBytes) :
    aAppend lim none e bytes false (.slice (some ⟨R, 0, none⟩) old.length cap) (.slice p l.length k) H = some (.slice (some ⟨R, 0, none⟩) (old.length + l.length) cap, H.set R (.cells false ((old ++ l).flatMap enc ++ rest.drop (l.length * e)))) := by
  have hRl := hget_alive hR
  by_cases hn : l = []
  · subst hn
    have hx : firstCells H e false (.slice p 0 k) = some [] := by cases p <;> simp [firstCells]
    have hset : H.set R (.cells false ((old ++ []).flatMap enc ++ rest.drop (0 * e))) = H := by
      rw [List.append_nil, Nat.zero_mul, List.drop_zero, ← hR]
      apply List.ext_getElem (by simp)
      intro i h1 h2
      rw [List.getElem_set]
      split
      · rename_i h; subst h
        have := hget_lt h2
        rw [List.getElem?_eq_getElem h2] at this
        exact (Option.some.inj this).symm
      · rfl
    simp only [List.length_nil, Nat.add_zero] at hb hc ⊢
    rw [hset]
    simp only [aAppend, hx, lenOf, Nat.add_zero, if_true]
    rw [if_neg (by omega)]
  · obtain ⟨a, rfl, hx⟩ := hs.cells hn
    have hl0 : l.length ≠ 0 := fun h => hn (List.length_eq_zero_iff.1 h)
    have hle : l.length * e ≤ rest.length := by rw [hr]; exact Nat.mul_le_mul_right e (by omega)
    have hy : AM.loadCells H ⟨R, 0, none⟩ (old.length * e) = some (old.flatMap enc) := by
      rw [loadCells_lit, hR]
      simp only [Nat.zero_add, List.drop_zero]
      rw [if_pos (by rw [List.length_append, flat_len he]; omega), ← flat_len he, List.take_left]
    have hst : AM.storeAt lim H (Addr.add ⟨R, 0, none⟩ (old.length * e)) (l.flatMap enc) = some (H.set R (.cells false ((old ++ l).flatMap enc ++ rest.drop (l.length * e)))) := by
      simp only [addr_add, storeAt_lit, hR, Nat.zero_add]
      rw [if_pos ⟨hl, by rw [List.length_append, flat_len he, flat_len he]; omega⟩]
      have := setAll_mid (l.flatMap enc) (old.flatMap enc) (rest.take (l.length * e)) (rest.drop (l.length * e)) (by rw [flat_len he, List.length_take]; omega)
      rw [List.append_assoc, List.take_append_drop, flat_len he] at this
      rw [this, List.flatMap_append]
    simp only [aAppend, firstCells, lenOf, hx, hy, hst, hl0, if_false, Bool.false_eq_true]
    rw [if_neg (by omega), if_neg (by unfold loose; omega), if_pos (by omega), if_pos (by omega)]
/-- Whatever is put behind a slice of one's own. -/
theorem Own.more {α : Type} {lim lim' e bytes cap : Nat} {G : Heap} {enc : α → List Value} {p : Option Addr} {l : List α} (h : Own lim G enc e p cap l) (hll : lim' ≤ lim) (he : ∀ x, (enc x).length = e) (he0 : e ≠ 0) (m : List α) (hb : (l.length + m.length) * bytes ≤ maxBytes) (hn : l.length + m.length < 2 ^ 61) (hlG : lim ≤ G.length)
    (X : Heap) {x : Value} {str : Bool} (h1 : firstCells (G ++ X) e str x = some (m.flatMap enc)) (h2 : lenOf x = some m.length) :
    ∃ G2 p' cap', aAppend lim' none e bytes str (.slice p l.length cap) x (G ++ X) = some (.slice p' (l.length + m.length) cap', G2 ++ []) ∧ Own lim (G2 ++ []) enc e p' cap' (l ++ m) ∧ (∀ A H0, H0.length ≤ lim → Chg A H0 G → Chg A H0 (G2 ++ [])) ∧
      (∀ j, j < G.length → (∀ a, p = some a → j ≠ a.block) → hget (G2 ++ []) j = hget G j) ∧ G.length ≤ G2.length := by
  by_cases hm : m = []
  · subst hm
    have hcap : l.length ≤ cap := by
      rcases h with ⟨k1, _, k3⟩ | ⟨R, _, k2, _, _⟩
      · subst k1; simp
      · rw [k2]; simp at hn; unfold loose; omega
    refine ⟨G ++ X, p, cap, ?_, by rw [List.append_nil, List.append_nil]; exact h.app X, fun A H0 q1 q2 => by rw [List.append_nil]; exact q2.app, fun j hj _ => by rw [List.append_nil, hget_old hj], by simp⟩
    simp only [List.length_nil, Nat.add_zero] at hb hn h2 ⊢
    simp only [aAppend, h1, h2, Nat.add_zero, if_true, List.append_nil]
    rw [if_neg (by omega)]
  · have hm0 : ¬ m.length = 0 := fun q => hm (List.length_eq_zero_iff.1 q)
    rcases h with ⟨k1, k2, k3⟩ | ⟨R, k1, k2, k3, k4⟩
    · subst k1 k2 k3
      refine ⟨G ++ (X ++ [.cells false (m.flatMap enc)]), some ⟨(G ++ X).length, 0, none⟩, loose e, ?_, ?_, fun A H0 q1 q2 => by rw [List.append_nil]; exact q2.app, fun j hj _ => by rw [List.append_nil, hget_old hj], by simp⟩
      · simp only [List.length_nil, Nat.zero_add] at hb hn ⊢
        simp only [aAppend, h1, h2, hm0, if_false, Nat.zero_add]
        rw [if_neg (by omega)]
        simp [place]
      · rw [List.append_nil, List.nil_append]
        refine Own.new ?_ (by simp; omega)
        rw [← List.append_assoc]; exact hget_new0
    · subst k1 k2
      have hRl := hget_alive k3
      have hR' : hget (G ++ X) R = .cells false (l.flatMap enc) := by rw [hget_old hRl]; exact k3
      have hold : AM.loadCells (G ++ X) ⟨R, 0, none⟩ (l.length * e) = some (l.flatMap enc) := by
        simp only [loadCells_lit, hR', Nat.zero_add, flat_len he, Nat.le_refl, if_true, List.drop_zero]
        rw [List.take_of_length_le (by rw [flat_len he]; exact Nat.le_refl _)]
      have hmt : Mut G (G.set R .dead) R := ⟨by simp, fun j hj => hget_set_ne hj⟩
      refine ⟨G.set R .dead ++ (X ++ [.cells false ((l ++ m).flatMap enc)]), some ⟨(G ++ X).length, 0, none⟩, loose e, ?_, ?_, fun A H0 q1 q2 => by rw [List.append_nil]; exact (q2.mut hmt (.inr (by omega))).app, fun j hj hp => by
        rw [List.append_nil, hget_old (by simpa using hj)]; exact hget_set_ne (hp _ rfl), by simp⟩
      · simp only [aAppend, h1, h2, hold, hR', hm0, if_false, if_true]
        rw [if_neg (by unfold loose; omega)]
        simp [show lim' ≤ R by omega, place, List.set_append_left _ _ hRl, List.append_assoc]
      · rw [List.append_nil]
        refine Own.new ?_ (by simp; omega)
        rw [← List.append_assoc, show (G ++ X).length = (G.set R .dead ++ X).length by simp]; exact hget_new0
theorem Own.moreD {α : Type} {lim lim' e bytes cap d : Nat} {G : Heap} {enc : α → List Value} {p : Option Addr} {l : List α} (h : Own lim G enc e p cap l) (hll : lim' ≤ lim) (he : ∀ x, (enc x).length = e) (he0 : e ≠ 0) (m : List α) (hb : (l.length + m.length) * bytes ≤ maxBytes) (hn : l.length + m.length < 2 ^ 61) (hlG : lim ≤ G.length)
    (X : Heap) (hd1 : G.length ≤ d) (hd2 : d < G.length + X.length) {x : Value} {str : Bool} (h1 : firstCells (G ++ X) e str x = some (m.flatMap enc)) (h2 : lenOf x = some m.length) :
    ∃ G2 p' cap', aAppend lim' (some d) e bytes str (.slice p l.length cap) x (G ++ X) = some (.slice p' (l.length + m.length) cap', G2 ++ []) ∧ Own lim (G2 ++ []) enc e p' cap' (l ++ m) ∧ (∀ A H0, H0.length ≤ lim → Chg A H0 G → Chg A H0 (G2 ++ [])) ∧
      (∀ j, j < G.length → (∀ a, p = some a → j ≠ a.block) → hget (G2 ++ []) j = hget G j) ∧ G.length ≤ G2.length ∧ (m ≠ [] → p' = some ⟨d, 0, none⟩) ∧ (m = [] → p' = p) := by
  by_cases hm : m = []
  · subst hm
    have hcap : l.length ≤ cap := by
      rcases h with ⟨k1, _, k3⟩ | ⟨R, _, k2, _, _⟩
      · subst k1; simp
      · rw [k2]; simp at hn; unfold loose; omega
    refine ⟨G ++ X, p, cap, ?_, by rw [List.append_nil, List.append_nil]; exact h.app X, fun A H0 q1 q2 => by rw [List.append_nil]; exact q2.app, fun j hj _ => by rw [List.append_nil, hget_old hj], by simp, fun h => absurd rfl h, fun _ => rfl⟩
    simp only [List.length_nil, Nat.add_zero] at hb hn h2 ⊢
    simp only [aAppend, h1, h2, Nat.add_zero, if_true, List.append_nil]
    rw [if_neg (by omega)]
  · have hm0 : ¬ m.length = 0 := fun q => hm (List.length_eq_zero_iff.1 q)
    rcases h with ⟨k1, k2, k3⟩ | ⟨R, k1, k2, k3, k4⟩
    · subst k1 k2 k3
      refine ⟨(G ++ X).set d (.cells false (m.flatMap enc)), some ⟨d, 0, none⟩, loose e, ?_, ?_, fun A H0 q1 q2 => by rw [List.append_nil]; exact q2.app.set (.inr (by omega)), fun j hj _ => by rw [List.append_nil, hget_set_ne (by omega), hget_old hj], by simp, fun _ => rfl, fun h => absurd h hm⟩
      · simp only [List.length_nil, Nat.zero_add] at hb hn ⊢
        simp only [aAppend, h1, h2, hm0, if_false, Nat.zero_add]
        rw [if_neg (by omega)]
        simp [place]
      · rw [List.append_nil, List.nil_append]
        exact Own.new (hget_set_eq (by simp; omega)) (by omega)
    · subst k1 k2
      have hRl := hget_alive k3
      have hR' : hget (G ++ X) R = .cells false (l.flatMap enc) := by rw [hget_old hRl]; exact k3
      have hold : AM.loadCells (G ++ X) ⟨R, 0, none⟩ (l.length * e) = some (l.flatMap enc) := by
        simp only [loadCells_lit, hR', Nat.zero_add, flat_len he, Nat.le_refl, if_true, List.drop_zero]
        rw [List.take_of_length_le (by rw [flat_len he]; exact Nat.le_refl _)]
      refine ⟨((G ++ X).set R .dead).set d (.cells false ((l ++ m).flatMap enc)), some ⟨d, 0, none⟩, loose e, ?_, ?_, fun A H0 q1 q2 => by rw [List.append_nil]; exact (q2.app.set (.inr (by omega))).set (.inr (by omega)), fun j hj hp => by
        rw [List.append_nil, hget_set_ne (by omega), hget_set_ne (hp _ rfl), hget_old hj], by simp, fun _ => rfl, fun h => absurd h hm⟩
      · simp only [aAppend, h1, h2, hold, hR', hm0, if_false, if_true]
        rw [if_neg (by unfold loose; omega)]
        simp [show lim' ≤ R by omega, place]
      · rw [List.append_nil]
        exact Own.new (hget_set_eq (by simp; omega)) (by omega)
theorem first_slice {α : Type} {e k : Nat} {H : Heap} {enc : α → List Value} {p : Option Addr} {m : List α} (hs : Sl H enc e p m) : firstCells H e false (.slice p m.length k) = some (m.flatMap enc) := by
  by_cases hm : m = []
  · subst hm
    cases p <;> simp [firstCells]
  · obtain ⟨a, rfl, hl⟩ := hs.cells hm
    have : m.length ≠ 0 := fun h => hm (List.length_eq_zero_iff.1 h)
    simp [firstCells, this, hl]
theorem Sl.pre {α : Type} {H : Heap} {enc : α → List Value} {e : Nat} {p : Option Addr} {l m : List α} (h : Sl H enc e p (l ++ m)) (he : ∀ x, (enc x).length = e) : Sl H enc e p l := by
  cases p with
  | none => simp only [Sl] at h; exact (List.append_eq_nil_iff.1 h).1
  | some a =>
    refine ⟨h.1, fun hn => ?_⟩
    obtain ⟨ro, c, h1, h2, h3⟩ := h.2 (by simp [hn])
    have hle : l.length * e ≤ (l ++ m).length * e := Nat.mul_le_mul_right e (by simp)
    refine ⟨ro, c, h1, by omega, ?_⟩
    have h4 := congrArg (List.take (l.length * e)) h3
    rw [List.take_take, Nat.min_eq_left hle, List.flatMap_append, List.take_append_of_le_length (by rw [flat_len he]; exact Nat.le_refl _), List.take_of_length_le (l := l.flatMap enc) (by rw [flat_len he]; exact Nat.le_refl _)] at h4
    exact h4
theorem Sl.row {α : Type} {H : Heap} {enc : α → List Value} {e R : Nat} {l : List α} (he : ∀ x, (enc x).length = e) {ro : Bool} (h : hget H R = .cells ro (l.flatMap enc)) : Sl H enc e (Option.some ⟨R, 0, none⟩) l := Sl.lit he (by rw [h]; rfl) (by rw [h]; rfl)
theorem Own.chg {α : Type} {A : List Nat} {lim e cap : Nat} {G H' : Heap} {enc : α → List Value} {p : Option Addr} {l : List α} (h : Own lim G enc e p cap l) (hc : Chg A G H') (hp : ∀ a, p = some a → a.block ∉ A) : Own lim H' enc e p cap l := by
  rcases h with h | ⟨R, h1, h2, h3, h4⟩
  · exact .inl h
  · exact .inr ⟨R, h1, h2, hc.cells h3 (hp _ h1), h4⟩
/-! ### Parts of slices -/
def CapOk (e c n : Nat) : Prop := c = loose e ∨ (n ≤ c ∧ c < 2 ^ 62)
theorem Own.capOk {α : Type} {lim e cap : Nat} {G : Heap} {enc : α → List Value} {p : Option Addr} {l : List α} (h : Own lim G enc e p cap l) : CapOk e cap l.length := by
  rcases h with ⟨h1, h2, h3⟩ | ⟨R, h1, h2, h3, h4⟩
  · subst h1 h3; exact .inr ⟨Nat.le_refl _, by decide⟩
  · exact .inl h2
theorem flat_take {α : Type} {enc : α → List Value} {e : Nat} (he : ∀ x, (enc x).length = e) : ∀ (l : List α) (k : Nat), (l.take k).flatMap enc = (l.flatMap enc).take (k * e)
  | [], k => by simp
  | x :: l, 0 => by simp
  | x :: l, k + 1 => by
    rw [List.take_succ_cons, List.flatMap_cons, List.flatMap_cons, flat_take he l k, List.take_append, he, List.take_of_length_le (l := enc x) (by rw [he, Nat.succ_mul]; omega), Nat.succ_mul, Nat.add_sub_cancel]
theorem flat_dropN {α : Type} {enc : α → List Value} {e : Nat} (he : ∀ x, (enc x).length = e) : ∀ (l : List α) (k : Nat), (l.drop k).flatMap enc = (l.flatMap enc).drop (k * e)
  | [], k => by simp
  | x :: l, 0 => by simp
  | x :: l, k + 1 => by
    rw [List.drop_succ_cons, List.flatMap_cons, flat_dropN he l k, List.drop_append, he, List.drop_eq_nil_of_le (as := enc x) (by rw [he, Nat.succ_mul]; omega), List.nil_append, Nat.succ_mul, Nat.add_sub_cancel]
theorem Sl.sub {α : Type} {H : Heap} {enc : α → List Value} {e : Nat} {a : Addr} {l : List α} (h : Sl H enc e (Option.some a) l) (he : ∀ x, (enc x).length = e) {lo hi : Nat} (h1 : lo ≤ hi) (h2 : hi ≤ l.length) : Sl H enc e (Option.some (a.add (lo * e))) ((l.take hi).drop lo) := by
  obtain ⟨b, o, s⟩ := a
  have hs := h.1
  simp only at hs; subst hs
  rw [addr_add]
  refine ⟨rfl, fun hn => ?_⟩
  have hne : l ≠ [] := by rintro rfl; simp at hn
  obtain ⟨ro, c, k1, k2, k3⟩ := h.2 hne
  have hlen : ((l.take hi).drop lo).length = hi - lo := by simp; omega
  have e1 : (hi - lo) * e + lo * e = hi * e := by rw [← Nat.add_mul, Nat.sub_add_cancel h1]
  have e2 : hi * e ≤ l.length * e := Nat.mul_le_mul_right e h2
  refine ⟨ro, c, k1, by simp only [hlen] at *; omega, ?_⟩
  simp only at k2 k3 ⊢
  rw [hlen, flat_dropN he, flat_take he, ← k3, List.take_take, Nat.min_eq_left e2, List.drop_take, List.drop_drop, show hi * e - lo * e = (hi - lo) * e by omega]
/-- A part of a slice. -/
theorem slice_cut {α : Type} {H : Heap} {enc : α → List Value} {e : Nat} {p : Option Addr} {l : List α} {c lo hi : Nat} {vlo vhi : Option Value} (hs : Sl H enc e p l) (hc : CapOk e c l.length) (he : ∀ x, (enc x).length = e) (hb : ∀ cap, l.length ≤ cap → boundsV l.length cap vlo vhi none = some (lo, hi, cap)) (h1 : lo ≤ hi) (h2 : hi ≤ l.length) (hn : l.length < 2 ^ 62) :
    ∃ p' c', sliceV e (.slice p l.length c) vlo vhi none = some (.slice p' (hi - lo) c') ∧ Sl H enc e p' ((l.take hi).drop lo) ∧ CapOk e c' (hi - lo) ∧ (∀ a', p' = some a' → ∃ a, p = some a ∧ a'.block = a.block) ∧ (l ≠ [] → ∀ a', p' = some a' → AM.loadCells H a' 0 = some []) := by
  have h0 : l ≠ [] → ∀ a, p = some a → ∀ k, k ≤ l.length → AM.loadCells H (a.add (k * e)) 0 = some [] := by
    intro hne a ha k hk
    subst ha
    obtain ⟨b, o, s⟩ := a
    have hs' := hs.1
    simp only at hs'; subst hs'
    obtain ⟨ro, cs, k1, k2, k3⟩ := hs.2 hne
    simp only at k1 k2
    have := Nat.mul_le_mul_right e hk
    rw [addr_add, loadCells_lit, k1]
    simp only [Nat.add_zero, List.take_zero]
    rw [if_pos (by omega)]
  have h00 : l ≠ [] → ∀ a, p = some a → AM.loadCells H a 0 = some [] := by
    intro hne a ha
    have := h0 hne a ha 0 (Nat.zero_le _)
    subst ha
    obtain ⟨b, o, s⟩ := a
    have hs' := hs.1
    simp only at hs'; subst hs'
    rw [Nat.zero_mul, addr_add, Nat.add_zero] at this
    exact this
  have hB : ∀ cap, l.length ≤ cap → bounds unV l.length cap (vlo.map .const) (vhi.map .const) none = some (lo, hi, cap) := fun cap hcap => by
    rw [bounds_V, ← hb cap hcap]
    cases vlo <;> cases vhi <;> rfl
  have hblk : ∀ (a : Addr) (n : Nat), (a.add n).block = a.block := fun a n => by
    unfold Addr.add
    split <;> rfl
  rcases hc with rfl | ⟨c1, c2⟩
  · refine ⟨p.map (·.add (lo * e)), loose e, ?_, ?_, .inl rfl, fun a' h => ?_, fun hne a' h => ?_⟩
    · simp only [sliceV, aSliceS, Option.map_none, if_true, hB _ (Nat.le_refl _)]
    · cases p with
      | none => simp only [Sl] at hs; subst hs; simp [Sl]
      | some a => exact hs.sub he h1 h2
    · cases p with
      | none => cases h
      | some a => cases h; exact ⟨a, rfl, hblk _ _⟩
    · cases p with
      | none => cases h
      | some a => cases h; exact h0 hne a rfl lo (by omega)
  · have hnl : ¬ c = loose e := by unfold loose; omega
    refine ⟨if c = lo then p else p.map (·.add (lo * e)), c - lo, ?_, ?_, .inr ⟨by omega, by omega⟩, fun a' h => ?_, fun hne a' h => ?_⟩
    · simp only [sliceV, aSliceS, Option.map_none, if_neg hnl, if_pos c2, hB c c1]
    · split
      · have h0 : (l.take hi).drop lo = [] := List.drop_eq_nil_of_le (by simp; omega)
        rw [h0]
        cases p with
        | none => rfl
        | some a => exact ⟨hs.1, fun h => absurd rfl h⟩
      · cases p with
        | none => simp only [Sl] at hs; subst hs; simp [Sl]
        | some a => exact hs.sub he h1 h2
    · split at h
      · exact ⟨a', h, rfl⟩
      · cases p with
        | none => cases h
        | some a => cases h; exact ⟨a, rfl, hblk _ _⟩
    · split at h
      · exact h00 hne a' h
      · cases p with
        | none => cases h
        | some a => cases h; exact h0 hne a rfl lo (by omega)
theorem bytesOf_u8 : ∀ l : List UInt8, bytesOf (l.flatMap fun b => [Value.int .u8 b.toNat]) = some l
  | [] => rfl
  | b :: l => by
    rw [List.flatMap_cons]
    show bytesOf (.int .u8 b.toNat :: (l.flatMap fun b => [Value.int .u8 b.toNat])) = _
    rw [bytesOf_cons, bytesOf_u8 l]
    simp
theorem b2s_sl {H : Heap} {p : Option Addr} {l : List UInt8} {c : Nat} (hs : Sl H (fun b : UInt8 => [Value.int .u8 b.toNat]) 1 p l) (h0 : l = [] → ∀ a, p = some a → AM.loadCells H a 0 = some []) : b2sV (.slice p l.length c) H = some (.string ⟨l.toArray⟩, H) := by
  cases p with
  | none => simp only [Sl] at hs; subst hs; rfl
  | some a =>
    rw [b2sV_some]
    by_cases hn : l = []
    · subst hn
      rw [List.length_nil, h0 rfl a rfl]
      rfl
    · obtain ⟨a', h1, h2⟩ := hs.cells hn
      cases h1
      rw [Nat.mul_one] at h2
      rw [h2]
      simp only [bytesOf_u8]
/-- A slice among the arguments. -/
theorem slice_arg {t : Ty} {H : Heap} {l : List t.den} {v : Value} {α : Type} (f : t.den → α) (enc : α → List Value) (he : ∀ H x c, Rep t H x c → c = enc (f x)) (h : RepV (.slice t) H l v) :
    ∃ p cap, v = .slice p (l.map f).length cap ∧ Sl H enc t.size p (l.map f) ∧ CapOk t.size cap (l.map f).length ∧ (l.map f).length < 2 ^ 63 := by
  have h0 := RepV.one rfl h
  obtain ⟨p, cap, e, h1, h2⟩ := Rep.sl f enc he h0
  refine ⟨p, cap, List.singleton_inj.1 e, h1, ?_, by simpa using h2⟩
  obtain ⟨_, p', cap', e', k1, k2⟩ := h0
  rw [e] at e'
  simp only [List.cons.injEq, Value.slice.injEq, and_true] at e'
  obtain ⟨e1, _, e3⟩ := e'
  subst e1 e3
  cases p with
  | none => obtain ⟨q1, q2⟩ := k1 rfl; exact .inr (by rw [q1, q2]; simp)
  | some a => exact .inl (k2 a rfl).2.2.1
/-- Cells that lie at an address, as a slice. -/
theorem Sl.of_load {α : Type} {H : Heap} {enc : α → List Value} {e : Nat} {a : Addr} {l : List α} (hs : a.spot = none) (he : ∀ x, (enc x).length = e) (h : AM.loadCells H a (l.length * e) = Option.some (l.flatMap enc)) : Sl H enc e (Option.some a) l := by
  refine ⟨hs, fun hn => ?_⟩
  unfold AM.loadCells at h
  split at h
  · rename_i ro c hb
    split at h
    · rename_i hle
      exact ⟨ro, c, hb, hle, Option.some.inj h⟩
    · cases h
  · cases h
/-- A part of an array. -/
theorem sliceAV_cut {n e lo hi : Nat} {a : Addr} {vlo vhi : Option Value} (hb : boundsV n n vlo vhi none = some (lo, hi, n)) (hn : n < 2 ^ 62) (hl : lo < n) : sliceAV n e (.pointer (some a)) vlo vhi none = some (.slice (some (a.add (lo * e))) (hi - lo) (n - lo)) := by
  have hB : bounds unV n n (vlo.map .const) (vhi.map .const) none = some (lo, hi, n) := by
    rw [bounds_V, ← hb]
    cases vlo <;> cases vhi <;> rfl
  simp only [sliceAV, Option.map_none, hB, if_pos hn]
  rw [if_neg (by omega)]
theorem addr_spot {a : Addr} {n : Nat} (h : a.spot = none) : (a.add n).spot = none := by
  unfold Addr.add
  split
  · exact h
  · rfl
theorem addr_block {a : Addr} {n : Nat} : (a.add n).block = a.block := by
  unfold Addr.add
  split <;> rfl
theorem addr_add2 {a : Addr} (h : a.spot = none) {n m : Nat} : (a.add n).add m = a.add (n + m) := by
  obtain ⟨b, o, s⟩ := a
  simp only at h; subst h
  simp only [addr_add, Nat.add_assoc]
theorem Sl.same {α : Type} {H G : Heap} {enc : α → List Value} {e : Nat} {p : Option Addr} {l : List α} (h : Sl H enc e p l) (hg : ∀ a, p = Option.some a → l ≠ [] → hget G a.block = hget H a.block) : Sl G enc e p l := by
  cases p with
  | none => exact h
  | some a =>
    refine ⟨h.1, fun hn => ?_⟩
    obtain ⟨ro, c, h2, h3⟩ := h.2 hn
    exact ⟨ro, c, by rw [hg a rfl hn]; exact h2, h3⟩
theorem Own.appL {α : Type} {lim lim' e bytes cap : Nat} {G H : Heap} {enc : α → List Value} {p : Option Addr} {l : List α} {dest : Option Nat} {str : Bool} {x : Value} (h : Own lim G enc e p cap l) : appendLV lim' dest e bytes str (.slice p l.length cap) x H = aAppend lim' dest e bytes str (.slice p l.length cap) x H := by
  rcases h with ⟨h1, h2, h3⟩ | ⟨R, h1, h2, h3, h4⟩
  · subst h2; rfl
  · subst h1; rw [appendLV_some, if_pos h2]
theorem Ext.get' {H G : Heap} (h : Ext H G) {j : Nat} {b : Blk} (hj : hget H j = b) (hl : j < H.length) : hget G j = b := by
  obtain ⟨X, rfl⟩ := h
  rw [hget_old hl]; exact hj
end Go.AM
namespace Go.Proofs.Ytdddehniepofmaa.Fn
open Go.AM Go.AM.Sym
set_option maxRecDepth 100000
set_option linter.unusedVariables false
set_option linter.unusedSimpArgs false
set_option maxHeartbeats 4000000

def orc (g : FuncId) (as : List Value) : Option Value := if g = 11 ∧ as = [] then some (.bool true) else none
def E : Env := ⟨tr, pf, orc⟩
section
variable {mp : Bool} {lim : Nat} {g : FuncId} {as : List Value} {v : Value} {af : AFunc} {H : Heap} {Q : Value → Heap → Prop}
theorem pc (h : g ≠ 11) (ht : tr g = some af) (hp : pf g = true) (hf : flat 4 v = true) (hr : Ret E af H.length [.code af.body] (frame0 as) (H ++ []) fun v' _ => v' = v) : CallR E mp lim g as H Q = Q v H :=
  CallR_pure (E := E) (by simp [E, orc, h]) ht hp hf (Ret_pad hr)
theorem po (h : g ≠ 11) (ht : tr g = some af) (hp : pf g = true) (hf : olds H.length 4 v = true) (hr : Ret E af H.length [.code af.body] (frame0 as) (H ++ []) fun v' _ => v' = v) : CallR E mp lim g as H Q = Q v H :=
  CallR_old (E := E) (by simp [E, orc, h]) ht hp hf (Ret_pad hr)
theorem runs (h : g ≠ 11) (ht : tr g = some af) (hp : pf g = false) (hr : Ret E af lim [.code af.body] (frame0 as) (H ++ []) Q) : CallR E false lim g as H Q := by
  rw [CallR_run (E := E) (by simp [E, orc, h]) ht hp rfl]; exact Ret_pad hr
theorem awake_ok (mp : Bool) (lim : Nat) (H : Heap) (Q : Value → Heap → Prop) : CallR E mp lim 11 [] H Q = Q (.bool true) H :=
  CallR_orc (E := E) (by simp [E, orc]) rfl rfl
end

abbrev Sec := Vector UInt8 32
def u8 (b : UInt8) : Value := .int .u8 b.toNat
def encX (s : Sec) : List Value := s.toList.map u8
theorem encX_len (s : Sec) : (encX s).length = 32 := by simp [encX]
structure Wr where
  pos : Int
  data : Sec
  deriving Inhabited, DecidableEq
def encW (w : Wr) : List Value := .int .i64 w.pos :: encX w.data
theorem encW_len (w : Wr) : (encW w).length = 33 := by simp [encW, encX_len]
theorem encW_mk {a : Int} {s : Sec} : encW ⟨a, s⟩ = .int .i64 a :: encX s := rfl
theorem encW_0 {w : Wr} : (encW w)[0]? = some (.int .i64 w.pos) := id rfl
theorem encW_data {w : Wr} : ((encW w).drop 1).take 32 = encX w.data := by
  show (encX w.data).take 32 = _
  rw [List.take_of_length_le (by rw [encX_len]; exact Nat.le_refl _)]
def encB (b : Bool) : List Value := [.bool b]
theorem encB_len (b : Bool) : (encB b).length = 1 := rfl
def encI (n : Int) : List Value := [.int .i64 n]

theorem u8_inj {a b : UInt8} : u8 a = u8 b ↔ a = b := by
  constructor
  · intro h
    simp only [u8, Value.int.injEq, true_and] at h
    exact UInt8.toNat_inj.1 (by omega)
  · rintro rfl; rfl
theorem encX_inj {a b : Sec} : encX a = encX b ↔ a = b := by
  constructor
  · intro h
    have : a.toList = b.toList := by
      apply List.ext_getElem (by simp)
      intro i h1 h2
      have := congrArg (fun l => l[i]?) h
      simp only [encX, List.getElem?_map, List.getElem?_eq_getElem h1, List.getElem?_eq_getElem h2, Option.map_some, Option.some.injEq, u8_inj] at this
      exact this
    exact Vector.toList_inj.1 this
  · rintro rfl; rfl
theorem eqX (a b : Sec) : aEq (.agg [.int .u8, .int .u8, .int .u8, .int .u8, .int .u8, .int .u8, .int .u8, .int .u8, .int .u8, .int .u8, .int .u8, .int .u8, .int .u8, .int .u8, .int .u8, .int .u8, .int .u8, .int .u8, .int .u8, .int .u8, .int .u8, .int .u8, .int .u8, .int .u8, .int .u8, .int .u8, .int .u8, .int .u8, .int .u8, .int .u8, .int .u8, .int .u8]) (.agg (encX a).toArray) (.agg (encX b).toArray) = some (decide (a = b)) := by
  show cellsEq (List.replicate 32 (.int .u8)) (encX a) (encX b) = _
  obtain ⟨t, h1, h2⟩ := cellsEq_dec (.int .u8) 32 (encX a) (encX b) (encX_len a) (encX_len b) (by
    intro x hx y hy
    simp only [encX, List.mem_map] at hx hy
    obtain ⟨x, _, rfl⟩ := hx
    obtain ⟨y, _, rfl⟩ := hy
    refine ⟨_, rfl, ?_⟩
    rw [beq_iff_eq, u8_inj]
    constructor
    · intro h; exact UInt8.toNat_inj.1 (by omega)
    · rintro rfl; rfl)
  rw [h1]
  congr 1
  rw [Bool.eq_iff_iff, h2, encX_inj]; simp

/-- Is a sector there? -/
def hasA (n : Nat) (a : Int) : Bool := decide (0 ≤ a ∧ a < (n : Int))
theorem has_ok {mp : Bool} {lim D n c : Nat} {a : Int} {sp : Option Addr} {ro : Bool} {r : List Value} {H : Heap} {Q : Value → Heap → Prop} (hD : hget H D = .cells ro (.slice sp n c :: r)) :
    CallR E mp lim 39 [.pointer (some ⟨D, 0, none⟩), .int .i64 a] H Q = Q (.bool (hasA n a)) H := by
  refine pc (by decide) e39 rfl rfl ?_
  rw [b39, c39]
  have hD' := fun X => (Ext.refl.app (X := X)).cells hD
  simp only [n39, r39, hD', loadCell_lit, SB, Nat.reduceLT, callee, aOp, ne_eq, Nat.reduceEqDiff, aBin, aUn, if_true, if_false, reduceCtorEq, frame0, place, notTuple, Nat.reduceAdd, Nat.reduceLeDiff, resVal, dite_true, dite_false, Int.reduceEq, Int.reduceLT, Int.reduceLE]
  repeat' ((first | refine wantK_dec (fun hw => ?_) (fun hw => ?_) | refine condK_dec (fun hw => ?_) (fun hw => ?_) | refine wantK_any (fun hw => ?_) (fun hw => ?_) | refine condK_any (fun hw => ?_) (fun hw => ?_)) <;> (try simp only [hw, n39, r39, hD', loadCell_lit, SB, Nat.reduceLT, callee, aOp, ne_eq, Nat.reduceEqDiff, aBin, aUn, if_true, if_false, reduceCtorEq, frame0, place, notTuple, Nat.reduceAdd, Nat.reduceLeDiff, resVal, dite_true, dite_false, Int.reduceEq, Int.reduceLT, Int.reduceLE]))
  all_goals simp [hasA]; omega

/-- The sectors when the disk has crashed; lost from the index i on. -/
def crashGo (lost : List Bool) : Nat → List Wr → List Sec → List Sec
  | _, [], s => s
  | i, w :: ws, s => crashGo lost (i + 1) ws (if hasA s.length w.pos && !lost.getD i false then s.set w.pos.toNat w.data else s)
def crashed (lost : List Bool) (pend : List Wr) (safe : List Sec) : List Sec := crashGo lost 0 pend safe
theorem crashGo_drop {lost : List Bool} {pend : List Wr} {s : List Sec} {i : Nat} (h : i < pend.length) : crashGo lost i (pend.drop i) s = crashGo lost (i + 1) (pend.drop (i + 1)) (if hasA s.length (gt pend i).pos && !lost.getD i false then s.set (gt pend i).pos.toNat (gt pend i).data else s) := by
  rw [List.drop_eq_getElem_cons h, crashGo, gt_lt h]
theorem crashGo_len (lost : List Bool) : ∀ (ws : List Wr) (i : Nat) (s : List Sec), (crashGo lost i ws s).length = s.length
  | [], _, _ => rfl
  | w :: ws, i, s => by
    rw [crashGo, crashGo_len]
    split
    · simp
    · rfl
theorem crashed_len {lost : List Bool} {pend : List Wr} {safe : List Sec} : (crashed lost pend safe).length = safe.length := crashGo_len _ _ _ _

theorem Crash_ok {lim D S sc pc' lc ln : Nat} {sp pp pl : Option Addr} {safe : List Sec} {pend : List Wr} {lost : List Bool} {H : Heap} {Q : Value → Heap → Prop}
    (hD : hget H D = .cells false [.slice sp safe.length sc, .slice pp pend.length pc']) (hlD : lim ≤ D) (hS : safe ≠ [] → sp = some ⟨S, 0, none⟩ ∧ hget H S = .cells false (safe.flatMap encX) ∧ lim ≤ S) (hSD : S ≠ D)
    (hP : Sl H encW 33 pp pend) (hPS : ∀ a, pp = some a → pend ≠ [] → a.block ≠ S ∧ a.block ≠ D) (hL : Sl H encB 1 pl lost) (hLS : ∀ a, pl = some a → lost ≠ [] → a.block ≠ S ∧ a.block ≠ D)
    (hn1 : safe.length < 2 ^ 60) (hn2 : pend.length < 2 ^ 60) (hn3 : lost.length < 2 ^ 60) (hln : ln = lost.length)
    (hQ : ∀ H', Chg [S, D] H H' → hget H' D = .cells false [.slice sp safe.length sc, .slice none 0 0] → (safe ≠ [] → hget H' S = .cells false ((crashed lost pend safe).flatMap encX)) → Q (.tuple #[]) H') :
    CallR E false lim 13 [.pointer (some ⟨D, 0, none⟩), .slice pl ln lc] H Q := by
  subst hln
  refine runs (by decide) e13 rfl ?_
  rw [b13, c13]
  have hDl := hget_alive hD
  have hD' := fun X => (Ext.refl.app (X := X)).cells hD
  simp only [n13, r13, hD', loadCell_lit, aEq, Option.isNone_some, SB, Nat.reduceLT, callee, aOp, ne_eq, Nat.reduceEqDiff, aBin, aUn, if_true, if_false, reduceCtorEq, frame0, place, notTuple, Nat.reduceAdd, Nat.reduceLeDiff, resVal, dite_true, dite_false, Int.reduceEq, Int.reduceLT, Int.reduceLE]
  refine Ret_rounds (fun s : Nat × List Sec => pend.length - s.1) (fun s fr G => s.1 ≤ pend.length ∧ fr 0 = .pointer (some ⟨D, 0, none⟩) ∧ fr 1 = .slice pl lost.length lc ∧ fr 11 = .slice pp pend.length pc' ∧ fr 12 = .int .i64 (pend.length : Int) ∧ fr 13 = .int .i64 (s.1 : Int) ∧
    Chg [S] H G ∧ s.2.length = safe.length ∧ (safe ≠ [] → hget G S = .cells false (s.2.flatMap encX)) ∧ crashed lost pend safe = crashGo lost s.1 (pend.drop s.1) s.2) (0, safe) ⟨Nat.zero_le _, (by simp only [upd_same, upd_ne, ne_eq, Nat.reduceEqDiff, not_false_eq_true, frame0, List.getD_cons_zero, List.getD_cons_succ]), (by simp only [upd_same, upd_ne, ne_eq, Nat.reduceEqDiff, not_false_eq_true, frame0, List.getD_cons_zero, List.getD_cons_succ]), (by simp only [upd_same, upd_ne, ne_eq, Nat.reduceEqDiff, not_false_eq_true, frame0, List.getD_cons_zero, List.getD_cons_succ]), (by simp only [upd_same, upd_ne, ne_eq, Nat.reduceEqDiff, not_false_eq_true, frame0, List.getD_cons_zero, List.getD_cons_succ]), by rfl, Chg.refl.app, rfl, fun h => (Ext.refl.app (X := [])).cells (hS h).2.1, rfl⟩ ?_
  rintro ⟨i, cur⟩ fr G ⟨hi, h0, h1, h11, h12, h13, hC, hcl, hcur, ha⟩ hN
  simp only at hi h13 hcl hcur ha
  rw [Ret_code l13_1.eq_1]
  refine Ret_pad ?_
  have hDG : hget G D = _ := hC.cells hD (by simp; omega)
  have hDl' := hget_alive hDG
  have hDX := fun X => (Ext.refl.app (X := X)).cells hDG
  by_cases hlt : i < pend.length
  · have hpn : pend ≠ [] := by rintro rfl; simp at hlt
    have hPG := hC.sl hP fun a e h => by simp; exact (hPS a e h).1
    have hLG := hC.sl hL fun a e h => by simp; exact (hLS a e h).1
    have hld := fun X => (hPG.app X).loadCells encW_len hlt
    have hidx := fun c (k : IntKind) (H1 : Heap) => hPG.idx (c := c) (k := k) (H1 := H1) hlt
    have hw1 : IntKind.i64.wrap ((i : Int) + 1) = ((i + 1 : Nat) : Int) := wrap_nat (by omega)
    have hDX := fun X => (Ext.refl.app (X := X)).cells hDG
    have hhas := fun X (a : Int) (mp : Bool) (lim : Nat) (Q : Value → Heap → Prop) => has_ok (mp := mp) (lim := lim) (a := a) (Q := Q) (hDX X)
    have hlidx := fun (h : i < lost.length) c (k : IntKind) (H1 : Heap) => hLG.idx (c := c) (k := k) (H1 := H1) h
    have hlld := fun (h : i < lost.length) X => (hLG.app X).loadCell0 encB_len h (by decide)
    have hlG : lim ≤ G.length := by omega
    have hpw : i + 1 < 2 ^ 63 := by omega
    have hlen : G.length ≤ G.length := Nat.le_refl _
    have next : ∀ (cur' : List Sec) (G' X : Heap) (fr' : Nat → Value), cur' = (if hasA cur.length (gt pend i).pos && !lost.getD i false then cur.set (gt pend i).pos.toNat (gt pend i).data else cur) → fr' 0 = .pointer (some ⟨D, 0, none⟩) → fr' 1 = .slice pl lost.length lc → fr' 11 = .slice pp pend.length pc' → fr' 12 = .int .i64 (pend.length : Int) → fr' 13 = .int .i64 ((i + 1 : Nat) : Int) →
        Mut G G' S → (safe ≠ [] → hget G' S = .cells false (cur'.flatMap encX)) → Ret E a13 lim [.inLoop l13_1, .inBlock 0, .code (.ops [Sym.i 45 (.mov (t 0)), Sym.i 46 (.nilCheck (t 45)), Sym.i 47 (.fieldAddr 1 (t 46)), ⟨none, none, .store 1 (t 47) (k (.slice none 0 0)), none, []⟩])] fr' (G' ++ X) Q := by
      intro cur' G' X fr' hc' g0 g1 g11 g12 g13 hm hg
      refine hN (i + 1, cur') _ _ ⟨by show i + 1 ≤ _; omega, g0, g1, g11, g12, g13, (hC.mut hm (.inl (by simp))).app, ?_, fun h => (Ext.refl.app (X := X)).cells (hg h), ?_⟩ (by show _ - (i + 1) < _; omega)
      · show cur'.length = _
        rw [hc']; split <;> simp [hcl]
      · show _ = crashGo _ (i + 1) _ cur'
        rw [ha, crashGo_drop hlt, hc']
    cases hh : hasA safe.length (gt pend i).pos with
    | false =>
      simp only [n13, r13, h0, h1, h11, h12, h13, hlt, hld, hidx, hDX, hhas, encW_len, setAll_full, encW_0, encW_data, loadCell_lit, loadCells_lit, storeAt_lit, hlG, hlen, hw1, encB, Option.isNone_some, cells_slice, arr1, size1, encX_len, hh, SB, Nat.reduceLT, callee, aOp, ne_eq, Nat.reduceEqDiff, aBin, aUn, if_true, if_false, reduceCtorEq, frame0, place, notTuple, Nat.reduceAdd, Nat.reduceLeDiff, resVal, dite_true, dite_false, Int.reduceEq, Int.reduceLT, Int.reduceLE]
      exact next cur G _ _ (by rw [hcl, hh]; rfl) (by simp only [h0, upd_same, upd_ne, ne_eq, Nat.reduceEqDiff, not_false_eq_true, frame0, List.getD_cons_zero, List.getD_cons_succ]) (by simp only [h1, upd_same, upd_ne, ne_eq, Nat.reduceEqDiff, not_false_eq_true, frame0, List.getD_cons_zero, List.getD_cons_succ]) (by simp only [h11, upd_same, upd_ne, ne_eq, Nat.reduceEqDiff, not_false_eq_true, frame0, List.getD_cons_zero, List.getD_cons_succ]) (by simp only [h12, upd_same, upd_ne, ne_eq, Nat.reduceEqDiff, not_false_eq_true, frame0, List.getD_cons_zero, List.getD_cons_succ]) (by simp only [upd_same, upd_ne, ne_eq, Nat.reduceEqDiff, not_false_eq_true, frame0, List.getD_cons_zero, List.getD_cons_succ]) ⟨rfl, fun _ _ => rfl⟩ hcur
    | true =>
      obtain ⟨k, hk, hks⟩ : ∃ k : Nat, (gt pend i).pos = (k : Int) ∧ k < safe.length := by
        simp only [hasA, decide_eq_true_eq] at hh
        exact ⟨(gt pend i).pos.toNat, by omega, by omega⟩
      have hsn : safe ≠ [] := by rintro rfl; simp at hks
      obtain ⟨hsp, hS1, hS2⟩ := hS hsn
      have hsi : ∀ H1, idxK 32 (.slice sp safe.length sc) (.int .i64 (gt pend i).pos) H1 = some (.pointer (some (elt sp 32 k)), H1) := fun H1 => by
        rw [hsp, hk]; exact idxK_nat hks
      obtain ⟨G', hst, hG', hm⟩ := store_mut (lim := lim) (e := 32) encX_len hsp (hcur hsn) hS2 (show k < cur.length by rw [hcl]; exact hks) (gt pend i).data
      by_cases hil : i < lost.length
      · cases hgl : gt lost i with
        | true =>
          simp only [n13, r13, h0, h1, h11, h12, h13, hlt, hld, hidx, hDX, hhas, encW_len, setAll_full, encW_0, encW_data, loadCell_lit, loadCells_lit, storeAt_lit, hlG, hlen, hw1, encB, Option.isNone_some, cells_slice, arr1, size1, encX_len, hh, hil, hlidx hil, hlld hil, hgl, int_le_cast, show ¬ lost.length ≤ i by omega, List.getElem?_cons_zero, SB, Nat.reduceLT, callee, aOp, ne_eq, Nat.reduceEqDiff, aBin, aUn, if_true, if_false, reduceCtorEq, frame0, place, notTuple, Nat.reduceAdd, Nat.reduceLeDiff, resVal, dite_true, dite_false, Int.reduceEq, Int.reduceLT, Int.reduceLE]
          exact next cur G _ _ (by rw [show lost.getD i false = true by rw [← hgl]; simp [gt, List.getD_eq_getElem?_getD, List.getElem?_eq_getElem hil]]; simp) (by simp only [h0, upd_same, upd_ne, ne_eq, Nat.reduceEqDiff, not_false_eq_true, frame0, List.getD_cons_zero, List.getD_cons_succ]) (by simp only [h1, upd_same, upd_ne, ne_eq, Nat.reduceEqDiff, not_false_eq_true, frame0, List.getD_cons_zero, List.getD_cons_succ]) (by simp only [h11, upd_same, upd_ne, ne_eq, Nat.reduceEqDiff, not_false_eq_true, frame0, List.getD_cons_zero, List.getD_cons_succ]) (by simp only [h12, upd_same, upd_ne, ne_eq, Nat.reduceEqDiff, not_false_eq_true, frame0, List.getD_cons_zero, List.getD_cons_succ]) (by simp only [upd_same, upd_ne, ne_eq, Nat.reduceEqDiff, not_false_eq_true, frame0, List.getD_cons_zero, List.getD_cons_succ]) ⟨rfl, fun _ _ => rfl⟩ hcur
        | false =>
          simp only [n13, r13, h0, h1, h11, h12, h13, hlt, hld, hidx, hDX, hhas, encW_len, setAll_full, encW_0, encW_data, loadCell_lit, loadCells_lit, storeAt_lit, hlG, hlen, hw1, encB, Option.isNone_some, cells_slice, arr1, size1, encX_len, hh, hil, hlidx hil, hlld hil, hgl, int_le_cast, show ¬ lost.length ≤ i by omega, List.getElem?_cons_zero, hsi, hst, SB, Nat.reduceLT, callee, aOp, ne_eq, Nat.reduceEqDiff, aBin, aUn, if_true, if_false, reduceCtorEq, frame0, place, notTuple, Nat.reduceAdd, Nat.reduceLeDiff, resVal, dite_true, dite_false, Int.reduceEq, Int.reduceLT, Int.reduceLE]
          exact next _ G' _ _ (by rw [hcl, hh, show lost.getD i false = false by rw [← hgl]; simp [gt, List.getD_eq_getElem?_getD, List.getElem?_eq_getElem hil]]; simp [hk]) (by simp only [h0, upd_same, upd_ne, ne_eq, Nat.reduceEqDiff, not_false_eq_true, frame0, List.getD_cons_zero, List.getD_cons_succ]) (by simp only [h1, upd_same, upd_ne, ne_eq, Nat.reduceEqDiff, not_false_eq_true, frame0, List.getD_cons_zero, List.getD_cons_succ]) (by simp only [h11, upd_same, upd_ne, ne_eq, Nat.reduceEqDiff, not_false_eq_true, frame0, List.getD_cons_zero, List.getD_cons_succ]) (by simp only [h12, upd_same, upd_ne, ne_eq, Nat.reduceEqDiff, not_false_eq_true, frame0, List.getD_cons_zero, List.getD_cons_succ]) (by simp only [upd_same, upd_ne, ne_eq, Nat.reduceEqDiff, not_false_eq_true, frame0, List.getD_cons_zero, List.getD_cons_succ]) hm fun _ => hG'
      · simp only [n13, r13, h0, h1, h11, h12, h13, hlt, hld, hidx, hDX, hhas, encW_len, setAll_full, encW_0, encW_data, loadCell_lit, loadCells_lit, storeAt_lit, hlG, hlen, hw1, encB, Option.isNone_some, cells_slice, arr1, size1, encX_len, hh, hil, int_le_cast, show lost.length ≤ i by omega, hsi, hst, SB, Nat.reduceLT, callee, aOp, ne_eq, Nat.reduceEqDiff, aBin, aUn, if_true, if_false, reduceCtorEq, frame0, place, notTuple, Nat.reduceAdd, Nat.reduceLeDiff, resVal, dite_true, dite_false, Int.reduceEq, Int.reduceLT, Int.reduceLE]
        exact next _ G' _ _ (by rw [hcl, hh, show lost.getD i false = false by rw [List.getD_eq_getElem?_getD, List.getElem?_eq_none (by omega)]; rfl]; simp [hk]) (by simp only [h0, upd_same, upd_ne, ne_eq, Nat.reduceEqDiff, not_false_eq_true, frame0, List.getD_cons_zero, List.getD_cons_succ]) (by simp only [h1, upd_same, upd_ne, ne_eq, Nat.reduceEqDiff, not_false_eq_true, frame0, List.getD_cons_zero, List.getD_cons_succ]) (by simp only [h11, upd_same, upd_ne, ne_eq, Nat.reduceEqDiff, not_false_eq_true, frame0, List.getD_cons_zero, List.getD_cons_succ]) (by simp only [h12, upd_same, upd_ne, ne_eq, Nat.reduceEqDiff, not_false_eq_true, frame0, List.getD_cons_zero, List.getD_cons_succ]) (by simp only [upd_same, upd_ne, ne_eq, Nat.reduceEqDiff, not_false_eq_true, frame0, List.getD_cons_zero, List.getD_cons_succ]) hm fun _ => hG'
  · obtain rfl : i = pend.length := by omega
    obtain ⟨G', hset, hGD, hm⟩ := mut_set hDl' (.cells false [.slice sp safe.length sc, .slice none 0 0])
    simp only [n13, r13, h0, h1, h11, h12, h13, hlt, cells_slice, arr1, size1, storeAt_lit, hDX, hlD, hset, SB, Nat.reduceLT, callee, aOp, ne_eq, Nat.reduceEqDiff, aBin, aUn, if_true, if_false, reduceCtorEq, frame0, place, notTuple, Nat.reduceAdd, Nat.reduceLeDiff, resVal, dite_true, dite_false, Int.reduceEq, Int.reduceLT, Int.reduceLE]
    refine hQ _ ((hC.mono (by simp; intro j _ h; exact .inl h)).mut hm (.inl (by simp))).app ((Ext.refl.app).cells hGD) fun h => ?_
    rw [ha, List.drop_length, crashGo]
    exact (Ext.refl.app).cells (hm.cells (hcur h) hSD)
end Go.Proofs.Ytdddehniepofmaa.Fn
namespace Go.Proofs.Ytdddehniepofmaa.Fn
open Go.AM Go.AM.Sym
set_option maxRecDepth 100000
set_option linter.unusedVariables false
set_option linter.unusedSimpArgs false
set_option maxHeartbeats 4000000

def encb (b : UInt8) : List Value := [u8 b]
theorem encb_len (b : UInt8) : (encb b).length = 1 := rfl
theorem encb_0 {b : UInt8} : (encb b)[0]? = some (.int .u8 b.toNat) := id rfl
def enct (s : ByteArray) : List Value := [.string s]
theorem enct_len (s : ByteArray) : (enct s).length = 1 := rfl
theorem enct_0 {s : ByteArray} : (enct s)[0]? = some (.string s) := id rfl
instance : Inhabited ByteArray := ⟨ByteArray.empty⟩
theorem bytes_ext {a b : ByteArray} : a = b ↔ a.data.toList = b.data.toList := by
  constructor
  · rintro rfl; rfl
  · intro h
    cases a; cases b
    simp only at h
    rw [Array.toList_inj.1 h]
theorem str_beq {a b : ByteArray} : (a.toList == b.toList) = decide (a = b) := by
  rw [Bool.eq_iff_iff, beq_iff_eq, decide_eq_true_eq, ByteArray.toList_eq, ByteArray.toList_eq, bytes_ext]
theorem u8_cast {a b : UInt8} : ((a.toNat : Int) = (b.toNat : Int)) = (a = b) := by
  apply propext
  constructor
  · intro h; exact UInt8.toNat_inj.1 (by omega)
  · rintro rfl; rfl

theorem wrap_u8 (n : Int) : 0 ≤ IntKind.u8.wrap n ∧ IntKind.u8.wrap n < 256 := by
  simp only [IntKind.wrap, IntKind.bits, IntKind.signed]
  constructor
  · simp; exact Int.emod_nonneg _ (by decide)
  · simp; exact Int.emod_lt_of_pos _ (by decide)
def wu8 (n : Int) : UInt8 := UInt8.ofNat (IntKind.u8.wrap n).toNat
theorem wu8_eq {n : Int} : ((wu8 n).toNat : Int) = IntKind.u8.wrap n := by
  have := wrap_u8 n
  unfold wu8
  rw [UInt8.toNat_ofNat_of_lt' (by show _ < 256; omega)]
  omega
/-- A mark. -/
def markb (k i : Int) : UInt8 := wu8 (Int.fdiv (IntKind.u64.wrap (IntKind.u64.wrap (IntKind.i64.wrap (IntKind.i64.wrap (1000003 * IntKind.i64.wrap (k + 7)) + i)) * 11400714819323198485)) (2 ^ min (Int.toNat 56) IntKind.u64.bits))
theorem markb_ok {mp : Bool} {lim : Nat} {a i : Int} {H : Heap} {Q : Value → Heap → Prop} : CallR E mp lim 41 [.int .i64 a, .int .i64 i] H Q = Q (u8 (markb a i)) H := by
  have h51 : ∀ (mp : Bool) (lim : Nat) (H : Heap) (Q : Value → Heap → Prop), CallR E mp lim 51 [.int .i64 a, .int .i64 i] H Q = Q (.int .i64 (IntKind.i64.wrap (IntKind.i64.wrap (1000003 * IntKind.i64.wrap (a + 7)) + i))) H := by
    intro mp lim H Q
    refine pc (by decide) e51 rfl rfl ?_
    rw [b51, c51]
    simp only [n51, r51, SB, Nat.reduceLT, callee, aOp, ne_eq, Nat.reduceEqDiff, aBin, aUn, if_true, if_false, reduceCtorEq, frame0, place, notTuple, Nat.reduceAdd, Nat.reduceLeDiff, resVal, dite_true, dite_false, Int.reduceEq, Int.reduceLT, Int.reduceLE]
  refine pc (by decide) e41 rfl rfl ?_
  rw [b41, c41]
  simp only [n41, r41, h51, u8, markb, wu8_eq, SB, Nat.reduceLT, callee, aOp, ne_eq, Nat.reduceEqDiff, aBin, aUn, if_true, if_false, reduceCtorEq, frame0, place, notTuple, Nat.reduceAdd, Nat.reduceLeDiff, resVal, dite_true, dite_false, Int.reduceEq, Int.reduceLT, Int.reduceLE]
def markt (a i : Int) : ByteArray := ⟨#[UInt8.ofNat (Int.toNat 35), UInt8.ofNat (IntKind.u8.wrap a).toNat, UInt8.ofNat (IntKind.u8.wrap (a.fdiv (2 ^ min (Int.toNat 8) IntKind.i64.bits))).toNat, UInt8.ofNat (IntKind.u8.wrap (a.fdiv (2 ^ min (Int.toNat 16) IntKind.i64.bits))).toNat,
  UInt8.ofNat (Int.toNat 47), UInt8.ofNat (IntKind.u8.wrap i).toNat, UInt8.ofNat (IntKind.u8.wrap (i.fdiv (2 ^ min (Int.toNat 8) IntKind.i64.bits))).toNat, UInt8.ofNat (IntKind.u8.wrap (i.fdiv (2 ^ min (Int.toNat 16) IntKind.i64.bits))).toNat]⟩
theorem markt_ok {mp : Bool} {lim : Nat} {a i : Int} {H : Heap} {Q : Value → Heap → Prop} : CallR E mp lim 40 [.int .i64 a, .int .i64 i] H Q = Q (.string (markt a i)) H := by
  refine pc (by decide) e40 rfl rfl ?_
  rw [b40, c40]
  simp only [n40, r40, SB, Nat.reduceLT, callee, aOp, ne_eq, Nat.reduceEqDiff, aBin, aUn, if_true, if_false, reduceCtorEq, frame0, place, notTuple, Nat.reduceAdd, Nat.reduceLeDiff, resVal, dite_true, dite_false, Int.reduceEq, Int.reduceLT, Int.reduceLE]
  rfl
end Go.Proofs.Ytdddehniepofmaa.Fn
namespace Go.Proofs.Ytdddehniepofmaa.Fn
open Go.AM Go.AM.Sym
set_option maxRecDepth 100000
set_option linter.unusedVariables false
set_option linter.unusedSimpArgs false
set_option maxHeartbeats 4000000

def headB (s : ByteArray) : List UInt8 := [UInt8.ofNat (s.size / 256), UInt8.ofNat s.size]
def packB (l : List ByteArray) : List UInt8 := l.flatMap fun s => headB s ++ s.data.toList
theorem packB_snoc {l : List ByteArray} {s : ByteArray} : packB (l ++ [s]) = (packB l ++ headB s) ++ s.data.toList := by
  unfold packB
  rw [List.flatMap_append, List.flatMap_cons, List.flatMap_nil, List.append_nil, List.append_assoc]
/-- What Pack comes to: the bytes, and an error. -/
def packR (l : List ByteArray) : List UInt8 × Int :=
  if 100 < l.length then ([], 5) else if l.any (fun s => decide (1000 < s.size)) then ([], 3) else if 4000 < (packB l).length then ([], 3) else (packB l, 0)
theorem size_len (s : ByteArray) : s.data.toList.length = s.size := Array.length_toList
theorem packB_le {l : List ByteArray} (h : ∀ s ∈ l, s.size ≤ 1000) : (packB l).length ≤ l.length * 1002 := by
  induction l with
  | nil => simp [packB]
  | cons s l ih =>
    have h1 := ih fun x hx => h x (by simp [hx])
    have h2 := h s (by simp)
    simp only [packB, List.flatMap_cons, List.length_append, headB, List.length_cons, List.length_nil, size_len] at h1 ⊢
    omega
theorem head_hi {s : ByteArray} (h : s.size ≤ 1000) : Value.int .u8 (IntKind.u8.wrap (Int.fdiv (s.size : Int) (2 ^ min (Int.toNat 8) IntKind.i64.bits))) = u8 (UInt8.ofNat (s.size / 256)) := by
  have e : Int.fdiv (s.size : Int) (2 ^ min (Int.toNat 8) IntKind.i64.bits) = ((s.size / 256 : Nat) : Int) := by
    show Int.fdiv (s.size : Int) 256 = _
    rw [Int.fdiv_eq_ediv_of_nonneg _ (by decide)]
    omega
  rw [e]
  simp only [u8, Value.int.injEq, true_and]
  rw [UInt8.toNat_ofNat_of_lt' (by show s.size / 256 < 256; omega)]
  simp only [IntKind.wrap, IntKind.bits, IntKind.signed]
  simp; omega
theorem head_lo {s : ByteArray} : Value.int .u8 (IntKind.u8.wrap (s.size : Int)) = u8 (UInt8.ofNat s.size) := by
  simp only [u8, Value.int.injEq, true_and, UInt8.toNat_ofNat']
  simp only [IntKind.wrap, IntKind.bits, IntKind.signed]
  simp
theorem head_div {s : ByteArray} (h : s.size ≤ 1000) : IntKind.u8.wrap (IntKind.i64.wrap (Int.tdiv (s.size : Int) 256)) = ((UInt8.ofNat (s.size / 256)).toNat : Int) := by
  have e : Int.tdiv (s.size : Int) 256 = ((s.size / 256 : Nat) : Int) := rfl
  rw [e, wrap_id (by omega) (by omega), UInt8.toNat_ofNat_of_lt' (by show s.size / 256 < 256; omega)]
  simp only [IntKind.wrap, IntKind.bits, IntKind.signed]
  simp; omega
theorem head_mod {s : ByteArray} : IntKind.u8.wrap (Int.tmod (s.size : Int) 256) = ((UInt8.ofNat s.size).toNat : Int) := by
  have e : Int.tmod (s.size : Int) 256 = ((s.size % 256 : Nat) : Int) := rfl
  rw [e]
  simp only [IntKind.wrap, IntKind.bits, IntKind.signed, UInt8.toNat_ofNat']
  simp
theorem first_str {s : ByteArray} {H : Heap} : firstCells H 1 true (.string s) = some (s.data.toList.flatMap encb) := by
  simp only [firstCells, if_true]
  congr 1
  induction s.data.toList with
  | nil => rfl
  | cons b l ih => rw [List.map_cons, List.flatMap_cons, ih]; rfl

theorem Pack_ok {lim k n : Nat} {p : Option Addr} {l : List ByteArray} {H : Heap} {Q : Value → Heap → Prop} (hs : Sl H enct 1 p l) (hn : n = l.length) (hl : lim ≤ H.length)
    (hQ : ∀ q c H', Chg [] H H' → Own H.length H' encb 1 q c (packR l).1 → Q (.tuple #[.slice q (packR l).1.length c, .int .i64 (packR l).2]) H') :
    CallR E false lim 20 [.slice p n k] H Q := by
  subst hn
  refine runs (by decide) e20 rfl ?_
  rw [b20, c20]
  by_cases h100 : 100 < l.length
  · have h100' : (100 : Int) < (l.length : Int) := by omega
    simp only [n20, r20, h100', SB, Nat.reduceLT, callee, aOp, ne_eq, Nat.reduceEqDiff, aBin, aUn, if_true, if_false, reduceCtorEq, frame0, place, notTuple, Nat.reduceAdd, Nat.reduceLeDiff, resVal, dite_true, dite_false, Int.reduceEq, Int.reduceLT, Int.reduceLE]
    have := hQ none 0 (H ++ []) Chg.refl.app (by simp only [packR, if_pos h100]; exact Own.nil)
    simpa only [packR, if_pos h100, List.length_nil] using this
  have h100' : ¬ (100 : Int) < (l.length : Int) := by omega
  simp only [n20, r20, h100', SB, Nat.reduceLT, callee, aOp, ne_eq, Nat.reduceEqDiff, aBin, aUn, if_true, if_false, reduceCtorEq, frame0, place, notTuple, Nat.reduceAdd, Nat.reduceLeDiff, resVal, dite_true, dite_false, Int.reduceEq, Int.reduceLT, Int.reduceLE]
  refine Ret_rounds (fun s : Nat × Option Addr × Nat => l.length - s.1) (fun s fr G => s.1 ≤ l.length ∧ fr 4 = .slice s.2.1 (packB (l.take s.1)).length s.2.2 ∧ fr 10 = .slice p l.length k ∧ fr 11 = .int .i64 (l.length : Int) ∧ fr 12 = .int .i64 (s.1 : Int) ∧ Chg [] H G ∧ Own H.length G encb 1 s.2.1 s.2.2 (packB (l.take s.1)) ∧ ∀ x ∈ l.take s.1, x.size ≤ 1000) (0, none, 0)
    ⟨Nat.zero_le _, by rfl, (by simp only [upd_same, upd_ne, ne_eq, Nat.reduceEqDiff, not_false_eq_true, frame0, List.getD_cons_zero, List.getD_cons_succ]), (by simp only [upd_same, upd_ne, ne_eq, Nat.reduceEqDiff, not_false_eq_true, frame0, List.getD_cons_zero, List.getD_cons_succ]), by rfl, Chg.refl.app, Own.nil, by simp⟩ ?_
  rintro ⟨i, q, c⟩ fr G ⟨hi, g4, g10, g11, g12, hC, hO, hall⟩ hN
  simp only at hi g4 g12 hO hall
  rw [Ret_code l20_1.eq_1]
  refine Ret_pad ?_
  have hlG : lim ≤ G.length := by have := hC.len; omega
  have hpl : (packB (l.take i)).length ≤ 100 * 1002 := by
    have h1 := packB_le hall
    have h2 : (l.take i).length ≤ 100 := by simp; omega
    have := Nat.mul_le_mul_right 1002 h2
    omega
  by_cases hlt : i < l.length
  · have hA := hC.sl hs (by simp)
    have hld := fun X => (hA.app X).loadCell0 enct_len hlt (by decide)
    have hidx := fun c (k : IntKind) (H1 : Heap) => hA.idx (c := c) (k := k) (H1 := H1) hlt
    have hw1 : IntKind.i64.wrap ((i : Int) + 1) = ((i + 1 : Nat) : Int) := wrap_nat (by omega)
    by_cases hsz : 1000 < (gt l i).size
    · have hsz' : (1000 : Int) < ((gt l i).size : Int) := by omega
      simp only [n20, r20, g4, g10, g11, g12, hlt, hld, hidx, enct_0, hsz', SB, Nat.reduceLT, callee, aOp, ne_eq, Nat.reduceEqDiff, aBin, aUn, if_true, if_false, reduceCtorEq, frame0, place, notTuple, Nat.reduceAdd, Nat.reduceLeDiff, resVal, dite_true, dite_false, Int.reduceEq, Int.reduceLT, Int.reduceLE]
      have hany : l.any (fun s => decide (1000 < s.size)) = true := List.any_eq_true.2 ⟨gt l i, gt_mem hlt, by simpa using hsz⟩
      have := hQ none 0 (G ++ []) hC.app (by simp only [packR, if_neg h100, hany, if_true]; exact Own.nil)
      simpa only [packR, if_neg h100, hany, if_true, List.length_nil] using this
    · have hsz' : ¬ (1000 : Int) < ((gt l i).size : Int) := by omega
      have hsz2 : (gt l i).size ≤ 1000 := by omega
      obtain ⟨G2, q2, c2, hp2, hO2, hC2, _, hl2⟩ := hO.more (lim' := lim) (bytes := 1) hl encb_len (by decide) (headB (gt l i)) (by unfold maxBytes; simp [headB]; omega) (by simp [headB]; omega) hC.len [.cells false ((headB (gt l i)).flatMap encb)] (x := .slice (some ⟨G.length, 0, none⟩) 2 2) (str := false)
        (first_slice (m := headB (gt l i)) (Sl.lit encb_len (by rw [hget_new0]; rfl) (by rw [hget_new0]; rfl))) rfl
      obtain ⟨G3, q3, c3, hp3, hO3, hC3, _, hl3⟩ := hO2.more (lim' := lim) (bytes := 1) hl encb_len (by decide) (gt l i).data.toList (by unfold maxBytes; rw [size_len]; simp [headB]; omega) (by rw [size_len]; simp [headB]; omega) (by have := hC.len; simp; omega) [] (x := .string (gt l i)) (str := true) first_str (by simp [lenOf, size_len])
      have e2 : (headB (gt l i)).flatMap encb = [u8 (UInt8.ofNat ((gt l i).size / 256)), u8 (UInt8.ofNat (gt l i).size)] := rfl
      rw [e2] at hp2
      simp only [u8] at hp2
      rw [List.append_nil (G2 ++ [])] at hp3
      have hh : (headB (gt l i)).length = 2 := rfl
      rw [List.length_append, hh] at hp3
      rw [hh] at hp2
      simp only [n20, r20, g4, g10, g11, g12, hlt, hld, hidx, enct_0, hsz', head_hi hsz2, head_lo, hp2, hp3, u8, hw1, SB, Nat.reduceLT, callee, aOp, ne_eq, Nat.reduceEqDiff, aBin, aUn, if_true, if_false, reduceCtorEq, frame0, place, notTuple, Nat.reduceAdd, Nat.reduceLeDiff, resVal, dite_true, dite_false, Int.reduceEq, Int.reduceLT, Int.reduceLE]
      exact hN (i + 1, q3, c3) _ _ ⟨by show i + 1 ≤ _; omega, by rw [take_snoc hlt, packB_snoc, List.length_append, List.length_append, size_len]; exact (by simp only [show (headB (gt l i)).length = 2 from rfl, Nat.add_assoc, upd_same, upd_ne, ne_eq, Nat.reduceEqDiff, not_false_eq_true, frame0, List.getD_cons_zero, List.getD_cons_succ]), (by simp only [g10, upd_same, upd_ne, ne_eq, Nat.reduceEqDiff, not_false_eq_true, frame0, List.getD_cons_zero, List.getD_cons_succ]), (by simp only [g11, upd_same, upd_ne, ne_eq, Nat.reduceEqDiff, not_false_eq_true, frame0, List.getD_cons_zero, List.getD_cons_succ]), (by simp only [upd_same, upd_ne, ne_eq, Nat.reduceEqDiff, not_false_eq_true, frame0, List.getD_cons_zero, List.getD_cons_succ]), hC3 _ _ (Nat.le_refl _) (hC2 _ _ (Nat.le_refl _) hC), by rw [take_snoc hlt, packB_snoc]; exact hO3, fun y hy => by
        rw [take_snoc hlt] at hy
        rcases List.mem_append.1 hy with h | h
        · exact hall y h
        · rw [List.mem_singleton.1 h]; exact hsz2⟩ (by show _ - (i + 1) < _; omega)
  obtain rfl : i = l.length := by omega
  rw [List.take_length] at g4 hO hall hpl
  have hany : l.any (fun s => decide (1000 < s.size)) = false := by
    rw [List.any_eq_false]
    intro x hx
    have := hall x hx
    simp; omega
  by_cases h4 : 4000 < (packB l).length
  · have h4' : (4000 : Int) < ((packB l).length : Int) := by omega
    simp only [n20, r20, g4, g10, g11, g12, hlt, h4', SB, Nat.reduceLT, callee, aOp, ne_eq, Nat.reduceEqDiff, aBin, aUn, if_true, if_false, reduceCtorEq, frame0, place, notTuple, Nat.reduceAdd, Nat.reduceLeDiff, resVal, dite_true, dite_false, Int.reduceEq, Int.reduceLT, Int.reduceLE]
    have := hQ none 0 (G ++ []) hC.app (by simp only [packR, if_neg h100, hany, if_pos h4, Bool.false_eq_true, if_false]; exact Own.nil)
    simpa only [packR, if_neg h100, hany, if_pos h4, Bool.false_eq_true, if_false, List.length_nil] using this
  · have h4' : ¬ (4000 : Int) < ((packB l).length : Int) := by omega
    simp only [n20, r20, g4, g10, g11, g12, hlt, h4', SB, Nat.reduceLT, callee, aOp, ne_eq, Nat.reduceEqDiff, aBin, aUn, if_true, if_false, reduceCtorEq, frame0, place, notTuple, Nat.reduceAdd, Nat.reduceLeDiff, resVal, dite_true, dite_false, Int.reduceEq, Int.reduceLT, Int.reduceLE]
    have := hQ q c (G ++ []) hC.app (by simp only [packR, if_neg h100, hany, if_neg h4, Bool.false_eq_true, if_false]; exact hO.app _)
    simpa only [packR, if_neg h100, hany, if_neg h4, Bool.false_eq_true, if_false] using this

theorem refPack_ok {lim k n : Nat} {p : Option Addr} {l : List ByteArray} {H : Heap} {Q : Value → Heap → Prop} (hs : Sl H enct 1 p l) (hn : n = l.length) (hl : lim ≤ H.length)
    (hQ : ∀ q c H', Chg [] H H' → Own H.length H' encb 1 q c (packR l).1 → Q (.tuple #[.slice q (packR l).1.length c, .int .i64 (packR l).2]) H') :
    CallR E false lim 22 [.slice p n k] H Q := by
  subst hn
  refine runs (by decide) e22 rfl ?_
  rw [b22, c22]
  by_cases h100 : 100 < l.length
  · have h100' : (100 : Int) < (l.length : Int) := by omega
    simp only [n22, r22, h100', SB, Nat.reduceLT, callee, aOp, ne_eq, Nat.reduceEqDiff, aBin, aUn, if_true, if_false, reduceCtorEq, frame0, place, notTuple, Nat.reduceAdd, Nat.reduceLeDiff, resVal, dite_true, dite_false, Int.reduceEq, Int.reduceLT, Int.reduceLE]
    have := hQ none 0 (H ++ []) Chg.refl.app (by simp only [packR, if_pos h100]; exact Own.nil)
    simpa only [packR, if_pos h100, List.length_nil] using this
  have h100' : ¬ (100 : Int) < (l.length : Int) := by omega
  simp only [n22, r22, h100', SB, Nat.reduceLT, callee, aOp, ne_eq, Nat.reduceEqDiff, aBin, aUn, if_true, if_false, reduceCtorEq, frame0, place, notTuple, Nat.reduceAdd, Nat.reduceLeDiff, resVal, dite_true, dite_false, Int.reduceEq, Int.reduceLT, Int.reduceLE]
  refine Ret_rounds (fun s : Nat × Option Addr × Nat => l.length - s.1) (fun s fr G => s.1 ≤ l.length ∧ fr 0 = .slice p l.length k ∧ fr 4 = .slice s.2.1 (packB (l.take s.1)).length s.2.2 ∧ fr 5 = .int .i64 (s.1 : Int) ∧ Chg [] H G ∧ Own H.length G encb 1 s.2.1 s.2.2 (packB (l.take s.1)) ∧ ∀ x ∈ l.take s.1, x.size ≤ 1000) (0, none, 0)
    ⟨Nat.zero_le _, (by simp only [upd_same, upd_ne, ne_eq, Nat.reduceEqDiff, not_false_eq_true, frame0, List.getD_cons_zero, List.getD_cons_succ]), by rfl, by rfl, Chg.refl.app, Own.nil, by simp⟩ ?_
  rintro ⟨i, q, c⟩ fr G ⟨hi, g0, g4, g5, hC, hO, hall⟩ hN
  simp only at hi g4 g5 hO hall
  rw [Ret_code l22_2.eq_1]
  refine Ret_pad ?_
  have hlG : lim ≤ G.length := by have := hC.len; omega
  have hpl : (packB (l.take i)).length ≤ 100 * 1002 := by
    have h1 := packB_le hall
    have h2 : (l.take i).length ≤ 100 := by simp; omega
    have := Nat.mul_le_mul_right 1002 h2
    omega
  by_cases hlt : i < l.length
  · have hA := hC.sl hs (by simp)
    have hld := fun X => (hA.app X).loadCell0 enct_len hlt (by decide)
    have hidx := fun c (k : IntKind) (H1 : Heap) => hA.idx (c := c) (k := k) (H1 := H1) hlt
    have hw1 : IntKind.i64.wrap ((i : Int) + 1) = ((i + 1 : Nat) : Int) := wrap_nat (by omega)
    by_cases hsz : 1000 < (gt l i).size
    · have hsz' : (1000 : Int) < ((gt l i).size : Int) := by omega
      simp only [n22, r22, g0, g4, g5, hlt, hld, hidx, enct_0, hsz', SB, Nat.reduceLT, callee, aOp, ne_eq, Nat.reduceEqDiff, aBin, aUn, if_true, if_false, reduceCtorEq, frame0, place, notTuple, Nat.reduceAdd, Nat.reduceLeDiff, resVal, dite_true, dite_false, Int.reduceEq, Int.reduceLT, Int.reduceLE]
      have hany : l.any (fun s => decide (1000 < s.size)) = true := List.any_eq_true.2 ⟨gt l i, gt_mem hlt, by simpa using hsz⟩
      have := hQ none 0 (G ++ []) hC.app (by simp only [packR, if_neg h100, hany, if_true]; exact Own.nil)
      simpa only [packR, if_neg h100, hany, if_true, List.length_nil] using this
    · have hsz' : ¬ (1000 : Int) < ((gt l i).size : Int) := by omega
      have hsz2 : (gt l i).size ≤ 1000 := by omega
      obtain ⟨G2, q2, c2, hp2, hO2, hC2, _, hl2, _⟩ := hO.moreD (d := G.length + 1) (lim' := lim) (bytes := 1) hl encb_len (by decide) (headB (gt l i)) (by unfold maxBytes; simp [headB]; omega) (by simp [headB]; omega) hC.len [.cells false ((headB (gt l i)).flatMap encb), .dead] (by omega) (by simp) (x := .slice (some ⟨G.length, 0, none⟩) 2 2) (str := false)
        (first_slice (m := headB (gt l i)) (Sl.lit encb_len (by rw [hget_new0]; rfl) (by rw [hget_new0]; rfl))) rfl
      have e2 : (headB (gt l i)).flatMap encb = [u8 (UInt8.ofNat ((gt l i).size / 256)), u8 (UInt8.ofNat (gt l i).size)] := rfl
      have hh : (headB (gt l i)).length = 2 := rfl
      rw [e2, hh] at hp2
      simp only [u8] at hp2
      have hC2' := hC2 _ _ (Nat.le_refl _) hC
      simp only [n22, r22, g0, g4, g5, hlt, hld, hidx, enct_0, hsz', hw1, head_div hsz2, head_mod, hp2, SB, Nat.reduceLT, callee, aOp, ne_eq, Nat.reduceEqDiff, aBin, aUn, if_true, if_false, reduceCtorEq, frame0, place, notTuple, Nat.reduceAdd, Nat.reduceLeDiff, resVal, dite_true, dite_false, Int.reduceEq, Int.reduceLT, Int.reduceLE]
      refine Ret_rounds (fun s : Nat × Option Addr × Nat => (gt l i).size - s.1) (fun s fr G => s.1 ≤ (gt l i).size ∧ fr 0 = .slice p l.length k ∧ fr 4 = .slice s.2.1 ((packB (l.take i)).length + 2 + s.1) s.2.2 ∧ fr 5 = .int .i64 (i : Int) ∧ fr 6 = .int .i64 (s.1 : Int) ∧ Chg [] H G ∧ Own H.length G encb 1 s.2.1 s.2.2 ((packB (l.take i) ++ headB (gt l i)) ++ (gt l i).data.toList.take s.1)) (0, q2, c2)
        ⟨Nat.zero_le _, (by simp only [g0, upd_same, upd_ne, ne_eq, Nat.reduceEqDiff, not_false_eq_true, frame0, List.getD_cons_zero, List.getD_cons_succ]), (by simp only [Nat.add_zero, upd_same, upd_ne, ne_eq, Nat.reduceEqDiff, not_false_eq_true, frame0, List.getD_cons_zero, List.getD_cons_succ]), (by simp only [g5, upd_same, upd_ne, ne_eq, Nat.reduceEqDiff, not_false_eq_true, frame0, List.getD_cons_zero, List.getD_cons_succ]), by rfl, hC2', by simpa using hO2⟩ ?_
      clear g0 g4 g5 hC hld hidx hlG hl2 hp2 hO2 hC2 hC2' hO hA fr
      rintro ⟨j, q3, c3⟩ fr G3 ⟨hj, g0, g4, g5, g6, hC, hO⟩ hN2
      simp only at hj g4 g6 hO
      rw [Ret_code l22_1.eq_1]
      refine Ret_pad ?_
      have hlG : lim ≤ G3.length := by have := hC.len; omega
      have hA := hC.sl hs (by simp)
      have hld := fun X => (hA.app X).loadCell0 enct_len hlt (by decide)
      have hidx := fun c (k : IntKind) (H1 : Heap) => hA.idx (c := c) (k := k) (H1 := H1) hlt
      have hw2 : IntKind.i64.wrap ((j : Int) + 1) = ((j + 1 : Nat) : Int) := wrap_nat (by omega)
      have htl : ((packB (l.take i) ++ headB (gt l i)) ++ (gt l i).data.toList.take j).length = (packB (l.take i)).length + 2 + j := by
        rw [List.length_append, List.length_append, List.length_take, size_len]; simp [headB]; omega
      by_cases hjl : j < (gt l i).size
      · have hjt : j < (gt l i).data.toList.length := by rw [size_len]; exact hjl
        have hst := hO.step (lim' := lim) (bytes := 1) hl encb_len (by decide) (gt (gt l i).data.toList j) (by rw [htl]; unfold maxBytes; omega) (by rw [htl]; omega) hC.len [.cells false (encb (gt (gt l i).data.toList j))] G3.length 1 (by rw [hget_new0]; rfl)
        rw [htl] at hst
        obtain ⟨G4, hp4, hO4, hC4, _⟩ := hst
        have hch : (gt l i).data.toList[j]? = some (gt (gt l i).data.toList j) := by rw [gt_lt hjt]; exact List.getElem?_eq_getElem hjt
        simp only [encb, u8, Nat.add_assoc] at hp4
        simp only [n22, r22, g0, g4, g5, g6, hjl, hld, hidx, enct_0, hw2, hch, hp4, nat_nn, SB, Nat.reduceLT, callee, aOp, ne_eq, Nat.reduceEqDiff, aBin, aUn, if_true, if_false, reduceCtorEq, frame0, place, notTuple, Nat.reduceAdd, Nat.reduceLeDiff, resVal, dite_true, dite_false, Int.reduceEq, Int.reduceLT, Int.reduceLE]
        exact hN2 (j + 1, some ⟨G3.length + 1, 0, none⟩, loose 1) _ _ ⟨by show j + 1 ≤ _; omega, (by simp only [g0, upd_same, upd_ne, ne_eq, Nat.reduceEqDiff, not_false_eq_true, frame0, List.getD_cons_zero, List.getD_cons_succ]), (by simp only [Nat.add_assoc, upd_same, upd_ne, ne_eq, Nat.reduceEqDiff, not_false_eq_true, frame0, List.getD_cons_zero, List.getD_cons_succ]), (by simp only [g5, upd_same, upd_ne, ne_eq, Nat.reduceEqDiff, not_false_eq_true, frame0, List.getD_cons_zero, List.getD_cons_succ]), (by simp only [upd_same, upd_ne, ne_eq, Nat.reduceEqDiff, not_false_eq_true, frame0, List.getD_cons_zero, List.getD_cons_succ]), hC4 _ _ (Nat.le_refl _) hC, by rw [take_snoc hjt, ← List.append_assoc]; exact hO4⟩ (by show _ - (j + 1) < _; omega)
      obtain rfl : j = (gt l i).size := by omega
      simp only [n22, r22, g0, g4, g5, g6, hjl, hld, hidx, enct_0, hw1, SB, Nat.reduceLT, callee, aOp, ne_eq, Nat.reduceEqDiff, aBin, aUn, if_true, if_false, reduceCtorEq, frame0, place, notTuple, Nat.reduceAdd, Nat.reduceLeDiff, resVal, dite_true, dite_false, Int.reduceEq, Int.reduceLT, Int.reduceLE]
      exact hN (i + 1, q3, c3) _ _ ⟨by show i + 1 ≤ _; omega, (by simp only [g0, upd_same, upd_ne, ne_eq, Nat.reduceEqDiff, not_false_eq_true, frame0, List.getD_cons_zero, List.getD_cons_succ]), by rw [take_snoc hlt, packB_snoc, List.length_append, List.length_append, size_len]; exact (by simp only [g4, show (headB (gt l i)).length = 2 from rfl, upd_same, upd_ne, ne_eq, Nat.reduceEqDiff, not_false_eq_true, frame0, List.getD_cons_zero, List.getD_cons_succ]), (by simp only [upd_same, upd_ne, ne_eq, Nat.reduceEqDiff, not_false_eq_true, frame0, List.getD_cons_zero, List.getD_cons_succ]), hC.app, by
        rw [take_snoc hlt, packB_snoc]
        rw [show (gt l i).data.toList.take (gt l i).size = (gt l i).data.toList from List.take_of_length_le (by rw [size_len]; exact Nat.le_refl _)] at hO
        exact hO.app _, fun y hy => by
        rw [take_snoc hlt] at hy
        rcases List.mem_append.1 hy with h | h
        · exact hall y h
        · rw [List.mem_singleton.1 h]; exact hsz2⟩ (by show _ - (i + 1) < _; omega)
  obtain rfl : i = l.length := by omega
  rw [List.take_length] at g4 hO hall hpl
  have hany : l.any (fun s => decide (1000 < s.size)) = false := by
    rw [List.any_eq_false]
    intro x hx
    have := hall x hx
    simp; omega
  by_cases h4 : 4000 < (packB l).length
  · have h4' : (4000 : Int) < ((packB l).length : Int) := by omega
    simp only [n22, r22, g0, g4, g5, hlt, h4', SB, Nat.reduceLT, callee, aOp, ne_eq, Nat.reduceEqDiff, aBin, aUn, if_true, if_false, reduceCtorEq, frame0, place, notTuple, Nat.reduceAdd, Nat.reduceLeDiff, resVal, dite_true, dite_false, Int.reduceEq, Int.reduceLT, Int.reduceLE]
    have := hQ none 0 (G ++ []) hC.app (by simp only [packR, if_neg h100, hany, if_pos h4, Bool.false_eq_true, if_false]; exact Own.nil)
    simpa only [packR, if_neg h100, hany, if_pos h4, Bool.false_eq_true, if_false, List.length_nil] using this
  · have h4' : ¬ (4000 : Int) < ((packB l).length : Int) := by omega
    simp only [n22, r22, g0, g4, g5, hlt, h4', SB, Nat.reduceLT, callee, aOp, ne_eq, Nat.reduceEqDiff, aBin, aUn, if_true, if_false, reduceCtorEq, frame0, place, notTuple, Nat.reduceAdd, Nat.reduceLeDiff, resVal, dite_true, dite_false, Int.reduceEq, Int.reduceLT, Int.reduceLE]
    have := hQ q c (G ++ []) hC.app (by simp only [packR, if_neg h100, hany, if_neg h4, Bool.false_eq_true, if_false]; exact hO.app _)
    simpa only [packR, if_neg h100, hany, if_neg h4, Bool.false_eq_true, if_false] using this
end Go.Proofs.Ytdddehniepofmaa.Fn
namespace Go.Proofs.Ytdddehniepofmaa.Fn
open Go.AM Go.AM.Sym
set_option maxRecDepth 100000
set_option linter.unusedVariables false
set_option linter.unusedSimpArgs false
set_option maxHeartbeats 4000000

def num2 (x y : UInt8) : Nat := x.toNat * 256 + y.toNat
/-- The texts of some bytes, at most so many. -/
def parseN : Nat → List UInt8 → Option (List ByteArray)
  | _, [] => some []
  | 0, _ :: _ => none
  | _ + 1, [_] => none
  | c + 1, x :: y :: r => if num2 x y ≤ 1000 ∧ num2 x y ≤ r.length then (parseN c (r.drop (num2 x y))).map (⟨(r.take (num2 x y)).toArray⟩ :: ·) else none
def unpR (b : List UInt8) : List ByteArray × Int := if 4000 < b.length then ([], 421) else match parseN 100 b with
  | some l => (l, 0)
  | none => ([], 421)

theorem parseN_len : ∀ (c : Nat) (b : List UInt8) (l : List ByteArray), parseN c b = some l → l.length ≤ c
  | c, [], l, h => by cases c <;> simp [parseN] at h <;> subst h <;> simp
  | 0, _ :: _, l, h => by simp [parseN] at h
  | c + 1, [_], l, h => by simp [parseN] at h
  | c + 1, x :: y :: r, l, h => by
    simp only [parseN] at h
    split at h
    case isFalse => cases h
    simp only [Option.map_eq_some_iff] at h
    obtain ⟨l', h1, rfl⟩ := h
    have := parseN_len c _ _ h1
    simp; omega
theorem or_byte {n : Nat} {y : UInt8} (h : n < 2 ^ 40) : IntKind.i64.wrap (((BitVec.ofInt IntKind.i64.bits (IntKind.i64.wrap ((n : Int) * 2 ^ min (Int.toNat 8) IntKind.i64.bits))) ||| BitVec.ofInt IntKind.i64.bits (y.toNat : Int)).toNat : Int) = ((n * 256 + y.toNat : Nat) : Int) := by
  have hy := y.toNat_lt
  have e1 : (n : Int) * 2 ^ min (Int.toNat 8) IntKind.i64.bits = ((n * 256 : Nat) : Int) := by
    show (n : Int) * 2 ^ 8 = _
    omega
  rw [e1, wrap_id (n := ((n * 256 : Nat) : Int)) (by omega) (by omega)]
  have e2 : ((BitVec.ofInt IntKind.i64.bits ((n * 256 : Nat) : Int)) ||| BitVec.ofInt IntKind.i64.bits (y.toNat : Int)).toNat = n * 256 + y.toNat := by
    rw [BitVec.toNat_or, BitVec.ofInt_natCast, BitVec.ofInt_natCast, BitVec.toNat_ofNat, BitVec.toNat_ofNat, Nat.mod_eq_of_lt (by show n * 256 < 2 ^ 64; omega), Nat.mod_eq_of_lt (by show y.toNat < 2 ^ 64; omega)]
    have := Nat.shiftLeft_add_eq_or_of_lt (i := 8) (b := y.toNat) (by omega) n
    rw [Nat.shiftLeft_eq] at this
    exact this.symm
  rw [e2, wrap_id (by omega) (by omega)]

theorem Unpack_ok {lim k n : Nat} {p : Option Addr} {b : List UInt8} {H : Heap} {Q : Value → Heap → Prop} (hs : Sl H encb 1 p b) (hk : CapOk 1 k b.length) (hn : n = b.length) (hl : lim ≤ H.length) (hb : b.length < 2 ^ 60)
    (hQ : ∀ q c H', Chg [] H H' → Own H.length H' enct 1 q c (unpR b).1 → Q (.tuple #[.slice q (unpR b).1.length c, .int .i64 (unpR b).2]) H') :
    CallR E false lim 21 [.slice p n k] H Q := by
  subst hn
  refine runs (by decide) e21 rfl ?_
  rw [b21, c21]
  by_cases h4 : 4000 < b.length
  · have h4' : (4000 : Int) < (b.length : Int) := by omega
    simp only [n21, r21, h4', SB, Nat.reduceLT, callee, aOp, ne_eq, Nat.reduceEqDiff, aBin, aUn, if_true, if_false, reduceCtorEq, frame0, place, notTuple, Nat.reduceAdd, Nat.reduceLeDiff, resVal, dite_true, dite_false, Int.reduceEq, Int.reduceLT, Int.reduceLE]
    have := hQ none 0 (H ++ []) Chg.refl.app (by simp only [unpR, if_pos h4]; exact Own.nil)
    simpa only [unpR, if_pos h4, List.length_nil] using this
  have h4' : ¬ (4000 : Int) < (b.length : Int) := by omega
  simp only [n21, r21, h4', SB, Nat.reduceLT, callee, aOp, ne_eq, Nat.reduceEqDiff, aBin, aUn, if_true, if_false, reduceCtorEq, frame0, place, notTuple, Nat.reduceAdd, Nat.reduceLeDiff, resVal, dite_true, dite_false, Int.reduceEq, Int.reduceLT, Int.reduceLE]
  refine Ret_rounds (fun s : (Option Addr × Nat) × (Option Addr × Nat) × List UInt8 × List ByteArray => s.2.2.1.length) (fun s fr G => fr 0 = .slice s.1.1 s.2.2.1.length s.1.2 ∧ fr 4 = .slice s.2.1.1 s.2.2.2.length s.2.1.2 ∧ Chg [] H G ∧ Sl H encb 1 s.1.1 s.2.2.1 ∧ CapOk 1 s.1.2 s.2.2.1.length ∧
      Own H.length G enct 1 s.2.1.1 s.2.1.2 s.2.2.2 ∧ s.2.2.2.length ≤ 100 ∧ s.2.2.1.length ≤ b.length ∧ parseN 100 b = (parseN (100 - s.2.2.2.length) s.2.2.1).map (s.2.2.2 ++ ·)) ((p, k), (none, 0), b, [])
    ⟨(by simp only [upd_same, upd_ne, ne_eq, Nat.reduceEqDiff, not_false_eq_true, frame0, List.getD_cons_zero, List.getD_cons_succ]), (by simp only [List.length_nil, upd_same, upd_ne, ne_eq, Nat.reduceEqDiff, not_false_eq_true, frame0, List.getD_cons_zero, List.getD_cons_succ]), Chg.refl.app, hs, hk, Own.nil, by simp, Nat.le_refl _, by simp⟩ ?_
  rintro ⟨⟨q, c⟩, ⟨q2, c2⟩, r, out⟩ fr G ⟨g0, g4, hC, hS, hcap, hO, hout, hrb, hp⟩ hN
  simp only at g0 g4 hC hS hcap hO hout hrb hp
  rw [Ret_code l21_1.eq_1]
  refine Ret_pad ?_
  have hlG : lim ≤ G.length := by have := hC.len; omega
  have bad : parseN (100 - out.length) r = none → Q (.tuple #[.slice none 0 0, .int .i64 421]) (G ++ []) := fun h => by
    have hu : unpR b = ([], 421) := by simp [unpR, if_neg h4, hp, h]
    have := hQ none 0 (G ++ []) hC.app (by rw [hu]; exact Own.nil)
    rw [hu] at this
    exact this
  match r with
  | [] =>
    simp only [n21, r21, g0, g4, SB, Nat.reduceLT, callee, aOp, ne_eq, Nat.reduceEqDiff, aBin, aUn, if_true, if_false, reduceCtorEq, frame0, place, notTuple, Nat.reduceAdd, Nat.reduceLeDiff, resVal, dite_true, dite_false, Int.reduceEq, Int.reduceLT, Int.reduceLE]
    have hu : unpR b = (out, 0) := by simp [unpR, if_neg h4, hp, parseN]
    have := hQ q2 c2 (G ++ []) hC.app (by rw [hu]; exact hO.app _)
    rw [hu] at this
    exact this
  | [x] =>
    simp only [n21, r21, g0, g4, SB, Nat.reduceLT, callee, aOp, ne_eq, Nat.reduceEqDiff, aBin, aUn, if_true, if_false, reduceCtorEq, frame0, place, notTuple, Nat.reduceAdd, Nat.reduceLeDiff, resVal, dite_true, dite_false, Int.reduceEq, Int.reduceLT, Int.reduceLE]
    refine bad ?_
    cases 100 - out.length <;> rfl
  | x :: y :: r =>
    have q0 : (0 : Int) < ((r.length + 2 : Nat) : Int) := by omega
    have q1 : ¬ ((r.length + 2 : Nat) : Int) < 2 := by omega
    have hlen : (x :: y :: r).length = r.length + 2 := rfl
    rw [hlen] at g0
    by_cases h100 : out.length = 100
    · have h100' : ((out.length : Nat) : Int) = 100 := by omega
      simp only [n21, r21, g0, g4, q0, q1, h100', SB, Nat.reduceLT, callee, aOp, ne_eq, Nat.reduceEqDiff, aBin, aUn, if_true, if_false, reduceCtorEq, frame0, place, notTuple, Nat.reduceAdd, Nat.reduceLeDiff, resVal, dite_true, dite_false, Int.reduceEq, Int.reduceLT, Int.reduceLE]
      refine bad ?_
      rw [h100]; rfl
    · have h100' : ¬ ((out.length : Nat) : Int) = 100 := by omega
      have hSG := fun X => (hC.sl hS (by simp)).app X
      have i0 : ∀ c (k : IntKind) (H1 : Heap), idxK 1 (.slice q (r.length + 2) c) (.int k 0) H1 = some (.pointer (some (elt q 1 0)), H1) := fun c k H1 => hS.idx (i := 0) (by simp)
      have i1 : ∀ c (k : IntKind) (H1 : Heap), idxK 1 (.slice q (r.length + 2) c) (.int k 1) H1 = some (.pointer (some (elt q 1 1)), H1) := fun c k H1 => hS.idx (i := 1) (by simp)
      have l0 : ∀ X, AM.loadCell (G ++ X) (elt q 1 0) = some (.int .u8 x.toNat) := fun X => ((hSG X).loadCell0 encb_len (i := 0) (by simp) (by decide)).trans rfl
      have l1 : ∀ X, AM.loadCell (G ++ X) (elt q 1 1) = some (.int .u8 y.toNat) := fun X => ((hSG X).loadCell0 encb_len (i := 1) (by simp) (by decide)).trans rfl
      have hx := x.toNat_lt
      have hy := y.toNat_lt
      have wx : IntKind.i64.wrap ((x.toNat : Nat) : Int) = (x.toNat : Int) := wrap_id (by omega) (by omega)
      have wy : IntKind.i64.wrap ((y.toNat : Nat) : Int) = (y.toNat : Int) := wrap_id (by omega) (by omega)
      have wo := or_byte (n := x.toNat) (y := y) (by omega)
      have en : x.toNat * 256 + y.toNat = num2 x y := rfl
      rw [en] at wo
      have wl : IntKind.i64.wrap (((r.length + 2 : Nat) : Int) - 2) = (r.length : Int) := by rw [wrap_id (by simp at hrb; omega) (by simp at hrb; omega)]; omega
      have hpn : parseN (100 - out.length) (x :: y :: r) = if num2 x y ≤ 1000 ∧ num2 x y ≤ r.length then (parseN (100 - (out.length + 1)) (r.drop (num2 x y))).map (⟨(r.take (num2 x y)).toArray⟩ :: ·) else none := by
        rw [show 100 - out.length = (100 - (out.length + 1)) + 1 by omega]; rfl
      by_cases h1 : 1000 < num2 x y
      · have h1' : (1000 : Int) < (num2 x y : Int) := by omega
        simp only [n21, r21, g0, g4, q0, q1, h100', i0, i1, l0, l1, wx, wy, wo, h1', SB, Nat.reduceLT, callee, aOp, ne_eq, Nat.reduceEqDiff, aBin, aUn, if_true, if_false, reduceCtorEq, frame0, place, notTuple, Nat.reduceAdd, Nat.reduceLeDiff, resVal, dite_true, dite_false, Int.reduceEq, Int.reduceLT, Int.reduceLE]
        refine bad ?_
        rw [hpn, if_neg (by omega)]
      have h1' : ¬ (1000 : Int) < (num2 x y : Int) := by omega
      by_cases h2 : r.length < num2 x y
      · simp only [n21, r21, g0, g4, q0, q1, h100', i0, i1, l0, l1, wx, wy, wo, wl, h1', h2, SB, Nat.reduceLT, callee, aOp, ne_eq, Nat.reduceEqDiff, aBin, aUn, if_true, if_false, reduceCtorEq, frame0, place, notTuple, Nat.reduceAdd, Nat.reduceLeDiff, resVal, dite_true, dite_false, Int.reduceEq, Int.reduceLT, Int.reduceLE]
        refine bad ?_
        rw [hpn, if_neg (by omega)]
      have w2 : IntKind.i64.wrap (2 + (num2 x y : Int)) = ((2 + num2 x y : Nat) : Int) := by rw [wrap_id (by omega) (by omega)]; omega
      rw [hlen] at hcap hrb
      obtain ⟨p1, c1, e1, s1, _, _, z1⟩ := slice_cut (vlo := some (.int .i64 2)) (vhi := some (.int .i64 ((2 + num2 x y : Nat) : Int))) (lo := 2) (hi := 2 + num2 x y) hS hcap encb_len (fun cap hcap => by rw [bv_110 (by omega) (by omega) (by simp at hcap; omega)]; simp; omega) (by omega) (by simp; omega) (by simp; omega)
      obtain ⟨p2, c2', e2, s2, k2, _, _⟩ := slice_cut (vlo := some (.int .i64 ((2 + num2 x y : Nat) : Int))) (vhi := none) (lo := 2 + num2 x y) (hi := r.length + 2) hS hcap encb_len (fun cap hcap => by rw [bv_100 (by omega) (by simp; omega)]; simp; omega) (by omega) (by simp) (by simp; omega)
      rw [show ((x :: y :: r).take (2 + num2 x y)).drop 2 = r.take (num2 x y) by rw [show 2 + num2 x y = num2 x y + 1 + 1 by omega]; rfl] at s1
      rw [show ((x :: y :: r).take (r.length + 2)).drop (2 + num2 x y) = r.drop (num2 x y) by rw [List.take_of_length_le (by simp), show 2 + num2 x y = num2 x y + 1 + 1 by omega]; rfl] at s2
      have ln : (r.take (num2 x y)).length = num2 x y := by simp; omega
      have ln2 : (r.drop (num2 x y)).length = r.length + 2 - (2 + num2 x y) := by simp; omega
      have hb2 := fun X => b2s_sl (c := c1) ((hC.sl s1 (by simp)).app X) (fun _ a ha => by
        have h0 := z1 (by simp) a ha
        obtain ⟨b', o, sp⟩ := a
        rw [loadCells_lit] at h0 ⊢
        cases hh : hget H b' with
        | cells ro cs => rw [hh] at h0; rw [(Ext.refl.app).cells (hC.cells hh (by simp))]; exact h0
        | _ => rw [hh] at h0; cases h0)
      rw [ln] at hb2
      rw [hlen, Nat.add_sub_cancel_left] at e1
      rw [hlen, ← ln2] at e2
      obtain ⟨G2, hp2, hO2, hC2, _⟩ := hO.step (lim' := lim) (bytes := 16) hl enct_len (by decide) (⟨(r.take (num2 x y)).toArray⟩ : ByteArray) (by unfold maxBytes; omega) (by omega) hC.len [.cells false (enct ⟨(r.take (num2 x y)).toArray⟩)] G.length 1 (by rw [hget_new0]; rfl)
      simp only [enct] at hp2
      simp only [n21, r21, g0, g4, q0, q1, h100', i0, i1, l0, l1, wx, wy, wo, wl, h1', h2, w2, e1, e2, hb2, hp2, SB, Nat.reduceLT, callee, aOp, ne_eq, Nat.reduceEqDiff, aBin, aUn, if_true, if_false, reduceCtorEq, frame0, place, notTuple, Nat.reduceAdd, Nat.reduceLeDiff, resVal, dite_true, dite_false, Int.reduceEq, Int.reduceLT, Int.reduceLE]
      refine hN ((p2, c2'), (some ⟨G.length + 1, 0, none⟩, loose 1), r.drop (num2 x y), out ++ [⟨(r.take (num2 x y)).toArray⟩]) _ _ ⟨(by simp only [upd_same, upd_ne, ne_eq, Nat.reduceEqDiff, not_false_eq_true, frame0, List.getD_cons_zero, List.getD_cons_succ]), (by simp only [List.length_append, List.length_cons, List.length_nil, upd_same, upd_ne, ne_eq, Nat.reduceEqDiff, not_false_eq_true, frame0, List.getD_cons_zero, List.getD_cons_succ]), hC2 _ _ (Nat.le_refl _) hC, s2, ?_, hO2, ?_, ?_, ?_⟩ ?_
      · show CapOk 1 c2' (r.drop (num2 x y)).length
        rw [ln2]; exact k2
      · show (out ++ [_]).length ≤ 100
        simp; omega
      · show (r.drop (num2 x y)).length ≤ b.length
        rw [ln2]; omega
      · show parseN 100 b = (parseN (100 - (out ++ [_]).length) (r.drop (num2 x y))).map ((out ++ [_]) ++ ·)
        rw [hp, hpn, if_pos (by omega), Option.map_map, List.length_append]
        congr 1
        funext l
        simp
      · show (r.drop (num2 x y)).length < (x :: y :: r).length
        rw [ln2, hlen]; omega

/-- What the reference reads off, with no limits: the texts, and how many bytes they took. -/
def parseF : Nat → List UInt8 → Option (List ByteArray)
  | 0, _ => none
  | _ + 1, [] => some []
  | _ + 1, [_] => none
  | f + 1, x :: y :: r => if num2 x y ≤ r.length then (parseF f (r.drop (num2 x y))).map (⟨(r.take (num2 x y)).toArray⟩ :: ·) else none
theorem parseF_more : ∀ (f : Nat) (r : List UInt8) (l : List ByteArray), parseF f r = some l → packB l = r
  | 0, r, l, h => by simp [parseF] at h
  | f + 1, [], l, h => by simp [parseF] at h; subst h; rfl
  | f + 1, [_], l, h => by simp [parseF] at h
  | f + 1, x :: y :: r, l, h => by
    simp only [parseF] at h
    split at h
    case isFalse => cases h
    rename_i hn
    simp only [Option.map_eq_some_iff] at h
    obtain ⟨l', h1, rfl⟩ := h
    have := parseF_more f _ _ h1
    have hsz : (⟨(r.take (num2 x y)).toArray⟩ : ByteArray).size = num2 x y := by
      show (r.take (num2 x y)).toArray.size = _
      simp; omega
    have hx := x.toNat_lt
    have hy := y.toNat_lt
    have e1 : UInt8.ofNat (num2 x y / 256) = x := by
      apply UInt8.toNat_inj.1
      unfold num2
      rw [UInt8.toNat_ofNat_of_lt' (by show _ < 256; omega)]; omega
    have e2 : UInt8.ofNat (num2 x y) = y := by
      apply UInt8.toNat_inj.1
      rw [UInt8.toNat_ofNat']
      unfold num2; omega
    show headB _ ++ _ ++ packB l' = _
    rw [this]
    simp only [headB, hsz, e1, e2]
    simp
/-- The reference's Unpack, on lists. -/
def unpF (b : List UInt8) : List ByteArray × Int := match parseF (b.length + 1) b with
  | some l => if (packR l).2 ≠ 0 then ([], 421) else (l, 0)
  | none => ([], 421)
theorem parseN_F : ∀ (c f : Nat) (r : List UInt8), r.length < f → parseN c r = match parseF f r with
    | some l => if l.length ≤ c ∧ l.any (fun s => decide (1000 < s.size)) = false then some l else none
    | none => none
  | c, 0, r, h => by omega
  | c, f + 1, [], h => by cases c <;> simp [parseN, parseF]
  | c, f + 1, [_], h => by cases c <;> simp [parseN, parseF]
  | 0, f + 1, x :: y :: r, h => by
    simp only [parseN, parseF]
    split
    · rename_i l hl
      split at hl
      · simp only [Option.map_eq_some_iff] at hl
        obtain ⟨l', _, rfl⟩ := hl
        simp
      · cases hl
    · rfl
  | c + 1, f + 1, x :: y :: r, h => by
    simp only [parseN, parseF]
    by_cases hn : num2 x y ≤ r.length
    · rw [if_pos hn]
      have ih := parseN_F c f (r.drop (num2 x y)) (by simp at h ⊢; omega)
      have hsz : (⟨(r.take (num2 x y)).toArray⟩ : ByteArray).size = num2 x y := by
        show (r.take (num2 x y)).toArray.size = _
        simp; omega
      by_cases h1 : num2 x y ≤ 1000
      · rw [if_pos ⟨h1, hn⟩, ih]
        cases parseF f (r.drop (num2 x y)) with
        | none => rfl
        | some l =>
          simp only [Option.map_some, List.length_cons, List.any_cons, hsz, show ¬ 1000 < num2 x y by omega, decide_false, Bool.false_or, Nat.add_le_add_iff_right]
          split <;> rfl
      · rw [if_neg (by omega)]
        cases parseF f (r.drop (num2 x y)) with
        | none => rfl
        | some l =>
          simp only [Option.map_some, List.length_cons, List.any_cons, hsz, show 1000 < num2 x y by omega, decide_true, Bool.true_or, Bool.true_eq_false, and_false, if_false]
    · rw [if_neg hn, if_neg (by omega)]
theorem unp_eq (b : List UInt8) : unpF b = unpR b := by
  unfold unpF unpR
  rw [parseN_F 100 (b.length + 1) b (by omega)]
  cases h : parseF (b.length + 1) b with
  | none => simp
  | some l =>
    have hp := parseF_more _ _ _ h
    simp only [packR, hp]
    by_cases h1 : 100 < l.length
    · have h1' : ¬ (l.length ≤ 100 ∧ l.any (fun s => decide (1000 < s.size)) = false) := fun h => by omega
      rw [if_pos h1, if_neg h1']
      simp
    · by_cases h2 : l.any (fun s => decide (1000 < s.size)) = true
      · simp [h1, h2]
      · by_cases h3 : 4000 < b.length
        · simp [h1, h2, h3]
        · simp [h1, h2, h3, show l.length ≤ 100 by omega]

theorem refUnpack_ok {lim k n : Nat} {p : Option Addr} {b : List UInt8} {H : Heap} {Q : Value → Heap → Prop} (hs : Sl H encb 1 p b) (hk : CapOk 1 k b.length) (hn : n = b.length) (hl : lim ≤ H.length) (hb : b.length < 2 ^ 20)
    (hQ : ∀ q c H', Chg [] H H' → Own H.length H' enct 1 q c (unpR b).1 → Q (.tuple #[.slice q (unpR b).1.length c, .int .i64 (unpR b).2]) H') :
    CallR E false lim 23 [.slice p n k] H Q := by
  subst hn
  rw [← unp_eq] at hQ
  refine runs (by decide) e23 rfl ?_
  rw [b23, c23]
  simp only [n23, r23, SB, Nat.reduceLT, callee, aOp, ne_eq, Nat.reduceEqDiff, aBin, aUn, if_true, if_false, reduceCtorEq, frame0, place, notTuple, Nat.reduceAdd, Nat.reduceLeDiff, resVal, dite_true, dite_false, Int.reduceEq, Int.reduceLT, Int.reduceLE]
  refine Ret_rounds (fun s : Nat × (Option Addr × Nat) × List ByteArray => b.length - s.1) (fun s fr G => fr 0 = .slice p b.length k ∧ fr 4 = .slice s.2.1.1 s.2.2.length s.2.1.2 ∧ fr 5 = .int .i64 (s.1 : Int) ∧ Chg [] H G ∧ Own H.length G enct 1 s.2.1.1 s.2.1.2 s.2.2 ∧ s.1 ≤ b.length ∧ s.2.2.length ≤ s.1 ∧
      ∃ f, b.length - s.1 < f ∧ parseF (b.length + 1) b = (parseF f (b.drop s.1)).map (s.2.2 ++ ·)) (0, (none, 0), [])
    ⟨(by simp only [upd_same, upd_ne, ne_eq, Nat.reduceEqDiff, not_false_eq_true, frame0, List.getD_cons_zero, List.getD_cons_succ]), (by simp only [List.length_nil, upd_same, upd_ne, ne_eq, Nat.reduceEqDiff, not_false_eq_true, frame0, List.getD_cons_zero, List.getD_cons_succ]), by rfl, Chg.refl.app, Own.nil, Nat.zero_le _, Nat.zero_le _, b.length + 1, by simp, by simp⟩ ?_
  rintro ⟨i, ⟨q2, c2⟩, out⟩ fr G ⟨g0, g4, g5, hC, hO, hi, hout, f, hf, hp⟩ hN
  simp only at g0 g4 g5 hC hO hi hout hf hp
  rw [Ret_code l23_1.eq_1]
  refine Ret_pad ?_
  have hlG : lim ≤ G.length := by have := hC.len; omega
  have bad : ∀ (G' : Heap), Chg [] H G' → parseF (b.length + 1) b = none → Q (.tuple #[.slice none 0 0, .int .i64 421]) G' := fun G' hC' h => by
    have hu : unpF b = ([], 421) := by simp [unpF, h]
    have := hQ none 0 G' hC' (by rw [hu]; exact Own.nil)
    rw [hu] at this
    exact this
  have wi2 : IntKind.i64.wrap ((i : Int) + 2) = ((i + 2 : Nat) : Int) := by rw [wrap_id (by omega) (by omega)]; omega
  by_cases h2 : i + 2 ≤ b.length
  · have hSG := fun X => (hC.sl hs (by simp)).app X
    have lt0 : i < b.length := by omega
    have lt1 : i + 1 < b.length := by omega
    have i0 : ∀ c (k : IntKind) (H1 : Heap), idxK 1 (.slice p b.length c) (.int k (i : Int)) H1 = some (.pointer (some (elt p 1 i)), H1) := fun c k H1 => hs.idx lt0
    have i1 : ∀ c (k : IntKind) (H1 : Heap), idxK 1 (.slice p b.length c) (.int k ((i + 1 : Nat) : Int)) H1 = some (.pointer (some (elt p 1 (i + 1))), H1) := fun c k H1 => hs.idx lt1
    have l0 : ∀ X, AM.loadCell (G ++ X) (elt p 1 i) = some (.int .u8 (gt b i).toNat) := fun X => ((hSG X).loadCell0 encb_len lt0 (by decide)).trans rfl
    have l1 : ∀ X, AM.loadCell (G ++ X) (elt p 1 (i + 1)) = some (.int .u8 (gt b (i + 1)).toNat) := fun X => ((hSG X).loadCell0 encb_len lt1 (by decide)).trans rfl
    generalize hx0 : gt b i = x at l0
    generalize hy0 : gt b (i + 1) = y at l1
    have hx := x.toNat_lt
    have hy := y.toNat_lt
    have hdr : b.drop i = x :: y :: b.drop (i + 2) := by
      rw [List.drop_eq_getElem_cons lt0, List.drop_eq_getElem_cons lt1, ← hx0, ← hy0, gt_lt lt0, gt_lt lt1]
    have wi1 : IntKind.i64.wrap ((i : Int) + 1) = ((i + 1 : Nat) : Int) := wrap_nat (by omega)
    have wx : IntKind.i64.wrap ((x.toNat : Nat) : Int) = (x.toNat : Int) := wrap_id (by omega) (by omega)
    have wy : IntKind.i64.wrap ((y.toNat : Nat) : Int) = (y.toNat : Int) := wrap_id (by omega) (by omega)
    have wm : IntKind.i64.wrap ((x.toNat : Int) * 256) = ((x.toNat * 256 : Nat) : Int) := by rw [wrap_id (by omega) (by omega)]; omega
    have wo : IntKind.i64.wrap (((x.toNat * 256 : Nat) : Int) + (y.toNat : Int)) = (num2 x y : Int) := by rw [wrap_id (by omega) (by omega)]; unfold num2; omega
    have nle : num2 x y < 65536 := by unfold num2; omega
    have w3 : IntKind.i64.wrap (((i + 2 : Nat) : Int) + (num2 x y : Int)) = ((i + (2 + num2 x y) : Nat) : Int) := by rw [wrap_id (by omega) (by omega)]; omega
    have hpf : parseF f (b.drop i) = if num2 x y ≤ (b.drop (i + 2)).length then (parseF (f - 1) ((b.drop (i + 2)).drop (num2 x y))).map (⟨((b.drop (i + 2)).take (num2 x y)).toArray⟩ :: ·) else none := by
      rw [hdr, show f = (f - 1) + 1 by omega]; rfl
    have hdl : (b.drop (i + 2)).length = b.length - (i + 2) := by simp
    by_cases h1 : b.length < i + (2 + num2 x y)
    · simp only [n23, r23, g0, g4, g5, wi2, h2, i0, i1, l0, l1, wi1, wx, wy, wm, wo, w3, h1, SB, Nat.reduceLT, callee, aOp, ne_eq, Nat.reduceEqDiff, aBin, aUn, if_true, if_false, reduceCtorEq, frame0, place, notTuple, Nat.reduceAdd, Nat.reduceLeDiff, resVal, dite_true, dite_false, Int.reduceEq, Int.reduceLT, Int.reduceLE]
      refine bad _ hC.app ?_
      rw [hp, hpf, if_neg (by omega)]; rfl
    · have w4 : IntKind.i64.wrap (2 + (num2 x y : Int)) = ((2 + num2 x y : Nat) : Int) := by rw [wrap_id (by omega) (by omega)]; omega
      have w5 : IntKind.i64.wrap ((i : Int) + ((2 + num2 x y : Nat) : Int)) = ((i + (2 + num2 x y) : Nat) : Int) := by rw [wrap_id (by omega) (by omega)]; omega
      obtain ⟨p1, c1, e1, s1, _, _, z1⟩ := slice_cut (vlo := some (.int .i64 ((i + 2 : Nat) : Int))) (vhi := some (.int .i64 ((i + (2 + num2 x y) : Nat) : Int))) (lo := i + 2) (hi := i + (2 + num2 x y)) hs hk encb_len (fun cap hcap => by rw [bv_110 (by omega) (by omega) (by omega)]; simp; omega) (by omega) (by omega) (by omega)
      rw [show (b.take (i + (2 + num2 x y))).drop (i + 2) = (b.drop (i + 2)).take (num2 x y) by rw [List.drop_take]; congr 1; omega] at s1
      have ln : ((b.drop (i + 2)).take (num2 x y)).length = num2 x y := by simp; omega
      have hb2 := fun X => b2s_sl (c := c1) ((hC.sl s1 (by simp)).app X) (fun _ a ha => by
        have h0 := z1 (by intro h; rw [h] at lt0; simp at lt0) a ha
        obtain ⟨b', o, sp⟩ := a
        rw [loadCells_lit] at h0 ⊢
        cases hh : hget H b' with
        | cells ro cs => rw [hh] at h0; rw [(Ext.refl.app).cells (hC.cells hh (by simp))]; exact h0
        | _ => rw [hh] at h0; cases h0)
      rw [ln] at hb2
      rw [show i + (2 + num2 x y) - (i + 2) = num2 x y by omega] at e1
      obtain ⟨G2, hp2, hO2, hC2, _⟩ := hO.step (lim' := lim) (bytes := 16) hl enct_len (by decide) (⟨((b.drop (i + 2)).take (num2 x y)).toArray⟩ : ByteArray) (by unfold maxBytes; omega) (by omega) hC.len [.cells false (enct ⟨((b.drop (i + 2)).take (num2 x y)).toArray⟩)] G.length 1 (by rw [hget_new0]; rfl)
      simp only [enct] at hp2
      simp only [n23, r23, g0, g4, g5, wi2, h2, i0, i1, l0, l1, wi1, wx, wy, wm, wo, w3, h1, w4, w5, e1, hb2, hp2, SB, Nat.reduceLT, callee, aOp, ne_eq, Nat.reduceEqDiff, aBin, aUn, if_true, if_false, reduceCtorEq, frame0, place, notTuple, Nat.reduceAdd, Nat.reduceLeDiff, resVal, dite_true, dite_false, Int.reduceEq, Int.reduceLT, Int.reduceLE]
      refine hN (i + (2 + num2 x y), (some ⟨G.length + 1, 0, none⟩, loose 1), out ++ [⟨((b.drop (i + 2)).take (num2 x y)).toArray⟩]) _ _ ⟨(by simp only [g0, upd_same, upd_ne, ne_eq, Nat.reduceEqDiff, not_false_eq_true, frame0, List.getD_cons_zero, List.getD_cons_succ]), (by simp only [List.length_append, List.length_cons, List.length_nil, upd_same, upd_ne, ne_eq, Nat.reduceEqDiff, not_false_eq_true, frame0, List.getD_cons_zero, List.getD_cons_succ]), (by simp only [upd_same, upd_ne, ne_eq, Nat.reduceEqDiff, not_false_eq_true, frame0, List.getD_cons_zero, List.getD_cons_succ]), hC2 _ _ (Nat.le_refl _) hC, hO2, ?_, ?_, f - 1, ?_, ?_⟩ ?_
      · show i + (2 + num2 x y) ≤ _; omega
      · show (out ++ [_]).length ≤ i + (2 + num2 x y)
        simp; omega
      · show b.length - (i + (2 + num2 x y)) < f - 1
        omega
      · show parseF (b.length + 1) b = (parseF (f - 1) (b.drop (i + (2 + num2 x y)))).map ((out ++ [_]) ++ ·)
        rw [hp, hpf, if_pos (by omega), Option.map_map, List.drop_drop, show i + 2 + num2 x y = i + (2 + num2 x y) by omega]
        congr 1
        funext l
        simp
      · show b.length - (i + (2 + num2 x y)) < b.length - i
        omega
  · have h2' : ¬ i + 2 ≤ b.length := h2
    have hOS := hO.sl enct_len
    simp only [n23, r23, g0, g4, g5, wi2, h2', SB, Nat.reduceLT, callee, aOp, ne_eq, Nat.reduceEqDiff, aBin, aUn, if_true, if_false, reduceCtorEq, frame0, place, notTuple, Nat.reduceAdd, Nat.reduceLeDiff, resVal, dite_true, dite_false, Int.reduceEq, Int.reduceLT, Int.reduceLE]
    refine refPack_ok (hOS.app _) rfl (by simp; omega) fun q c H' hC3 hO3 => ?_
    rw [List.append_nil] at hC3
    refine Ret_pad ?_
    have hC4 : Chg [] H H' := hC.trans hC3
    by_cases hil : i = b.length
    · subst hil
      have hpo : parseF (b.length + 1) b = some out := by
        rw [hp, List.drop_length, show f = (f - 1) + 1 by omega]; simp [parseF]
      have hpb := parseF_more _ _ _ hpo
      by_cases he : (packR out).2 = 0
      · have hpr : packR out = (b, 0) := by
          have := he
          unfold packR at this ⊢
          split at this
          · cases this
          · split at this
            · cases this
            · split at this
              · cases this
              · rename_i a1 a2 a3; rw [if_neg a1, if_neg a2, if_neg a3, hpb]
        rw [hpr]
        simp only [n23, r23, g0, g4, g5, SB, Nat.reduceLT, callee, aOp, ne_eq, Nat.reduceEqDiff, aBin, aUn, if_true, if_false, reduceCtorEq, frame0, place, notTuple, Nat.reduceAdd, Nat.reduceLeDiff, resVal, dite_true, dite_false, Int.reduceEq, Int.reduceLT, Int.reduceLE]
        have hu : unpF b = (out, 0) := by simp [unpF, hpo, he]
        have := hQ q2 c2 (H' ++ []) hC4.app (by rw [hu]; exact (hO.chg hC3 (by simp)).app _)
        rw [hu] at this
        exact this
      · simp only [n23, r23, g0, g4, g5, he, SB, Nat.reduceLT, callee, aOp, ne_eq, Nat.reduceEqDiff, aBin, aUn, if_true, if_false, reduceCtorEq, frame0, place, notTuple, Nat.reduceAdd, Nat.reduceLeDiff, resVal, dite_true, dite_false, Int.reduceEq, Int.reduceLT, Int.reduceLE]
        have hu : unpF b = ([], 421) := by simp [unpF, hpo, he]
        have := hQ none 0 (H' ++ []) hC4.app (by rw [hu]; exact Own.nil)
        rw [hu] at this
        exact this
    · simp only [n23, r23, g0, g4, g5, hil, SB, Nat.reduceLT, callee, aOp, ne_eq, Nat.reduceEqDiff, aBin, aUn, if_true, if_false, reduceCtorEq, frame0, place, notTuple, Nat.reduceAdd, Nat.reduceLeDiff, resVal, dite_true, dite_false, Int.reduceEq, Int.reduceLT, Int.reduceLE]
      refine bad _ hC4.app ?_
      rw [hp]
      have h1 : (b.drop i).length = 1 := by simp; omega
      match hd : b.drop i, h1 with
      | [x], _ => rw [show f = (f - 1) + 1 by omega]; rfl
end Go.Proofs.Ytdddehniepofmaa.Fn
namespace Go.Proofs.Ytdddehniepofmaa.Fn
open Go.AM Go.AM.Sym
set_option maxRecDepth 100000
set_option linter.unusedVariables false
set_option linter.unusedSimpArgs false
set_option maxHeartbeats 4000000

/-- A sector lies at an address. -/
structure SecAt (H : Heap) (a : Addr) (s : Sec) : Prop where
  spot : a.spot = none
  cells : AM.loadCells H a 32 = some (encX s)
theorem loadCells_ext {H G : Heap} {a : Addr} {n : Nat} {c : List Value} (h : AM.loadCells H a n = some c) (hg : hget G a.block = hget H a.block) : AM.loadCells G a n = some c := by
  unfold AM.loadCells at h ⊢
  rw [hg]; exact h
theorem loadCells_lt {H : Heap} {a : Addr} {n : Nat} {c : List Value} (h : AM.loadCells H a n = some c) : a.block < H.length := by
  unfold AM.loadCells at h
  split at h
  · rename_i hb; exact hget_alive hb
  · cases h
theorem SecAt.app {H : Heap} {a : Addr} {s : Sec} (h : SecAt H a s) (X : Heap) : SecAt (H ++ X) a s := ⟨h.spot, loadCells_ext h.cells (hget_old (loadCells_lt h.cells))⟩
theorem SecAt.chg {A : List Nat} {H G : Heap} {a : Addr} {s : Sec} (h : SecAt H a s) (hc : Chg A H G) (ha : a.block ∉ A) : SecAt G a s := ⟨h.spot, loadCells_ext h.cells (hc.other _ (loadCells_lt h.cells) ha)⟩
theorem encX_flat (s : Sec) : encX s = s.toList.flatMap encb := by
  unfold encX
  induction s.toList with
  | nil => rfl
  | cons b l ih => rw [List.map_cons, List.flatMap_cons, ih]; rfl
theorem sec_len (s : Sec) : s.toList.length = 32 := by simp
theorem SecAt.sl {H : Heap} {a : Addr} {s : Sec} (h : SecAt H a s) : Sl H encb 1 (some a) s.toList := Sl.of_load h.spot encb_len (by rw [sec_len, ← encX_flat]; exact h.cells)
theorem SecAt.cell {H : Heap} {a : Addr} {s : Sec} (h : SecAt H a s) {i : Nat} (hi : i < 32) : AM.loadCell H (a.add i) = some (.int .u8 (gt s.toList i).toNat) := by
  have h1 := h.sl.loadCell0 encb_len (i := i) (by rw [sec_len]; exact hi) (by decide)
  simp only [elt, addrOf, Option.getD_some, Nat.mul_one] at h1
  exact h1.trans rfl
theorem SecAt.of_elt {H : Heap} {p : Option Addr} {l : List Sec} (h : Sl H encX 32 p l) {i : Nat} (hi : i < l.length) : SecAt H (elt p 32 i) (gt l i) := by
  refine ⟨?_, h.loadCells encX_len hi⟩
  obtain ⟨a, rfl⟩ := h.some (by rintro rfl; simp at hi)
  exact addr_spot h.1
theorem SecAt.row {H : Heap} {R : Nat} {ro : Bool} {s : Sec} (h : hget H R = .cells ro (encX s)) : SecAt H ⟨R, 0, none⟩ s := ⟨rfl, by rw [loadCells_lit, h]; simp [encX_len, take_all]⟩

/-- A number of some bytes. -/
def numOf (l : List UInt8) : Nat := l.foldl (fun n b => n * 256 + b.toNat) 0
def get4 (s : Sec) (at' : Nat) : Nat := numOf ((s.toList.drop at').take 4)
theorem numOf_snoc {l : List UInt8} {b : UInt8} : numOf (l ++ [b]) = numOf l * 256 + b.toNat := by simp [numOf]
theorem numOf_lt (l : List UInt8) : numOf l < 256 ^ l.length := by
  have key : ∀ (l : List UInt8) (n : Nat), l.foldl (fun n b => n * 256 + b.toNat) n < (n + 1) * 256 ^ l.length := by
    intro l
    induction l with
    | nil => intro n; simp
    | cons b l ih =>
      intro n
      have h1 := ih (n * 256 + b.toNat)
      have h2 := b.toNat_lt
      have h3 : (n * 256 + b.toNat + 1) * 256 ^ l.length ≤ ((n + 1) * 256) * 256 ^ l.length := Nat.mul_le_mul_right _ (by omega)
      rw [List.foldl_cons, List.length_cons, Nat.pow_succ, Nat.mul_comm (256 ^ l.length) 256, ← Nat.mul_assoc]
      omega
  have := key l 0
  simpa [numOf] using this
theorem get_ok {mp : Bool} {lim n : Nat} {a : Addr} {s : Sec} {H : Heap} {Q : Value → Heap → Prop} (h : SecAt H a s) (hn : n + 4 ≤ 32) :
    CallR E mp lim 55 [.pointer (some a), .int .i64 (n : Int)] H Q = Q (.int .i64 (get4 s n : Int)) H := by
  refine pc (by decide) e55 rfl rfl ?_
  rw [b55, c55]
  have w4 : IntKind.i64.wrap ((n : Int) + 4) = ((n + 4 : Nat) : Int) := by rw [wrap_id (by omega) (by omega)]; omega
  have hc := sliceAV_cut (n := 32) (e := 1) (a := a) (lo := n) (hi := n + 4) (vlo := some (.int .i64 (n : Int))) (vhi := some (.int .i64 ((n + 4 : Nat) : Int))) (by rw [bv_110 (by omega) (by omega) (by omega)]; simp; omega) (by decide) (by omega)
  rw [Nat.mul_one, Nat.add_sub_cancel_left] at hc
  simp only [n55, r55, w4, hc, SB, Nat.reduceLT, callee, aOp, ne_eq, Nat.reduceEqDiff, aBin, aUn, if_true, if_false, reduceCtorEq, frame0, place, notTuple, Nat.reduceAdd, Nat.reduceLeDiff, resVal, dite_true, dite_false, Int.reduceEq, Int.reduceLT, Int.reduceLE]
  have hsl : Sl H encb 1 (some (a.add n)) ((s.toList.take (n + 4)).drop n) := by
    have := h.sl.sub encb_len (lo := n) (hi := n + 4) (by omega) (by rw [sec_len]; exact hn)
    rwa [Nat.mul_one] at this
  have hl : (s.toList.take (n + 4)).drop n = (s.toList.drop n).take 4 := by rw [List.drop_take, Nat.add_sub_cancel_left]
  rw [hl] at hsl
  have hlen : ((s.toList.drop n).take 4).length = 4 := by simp; omega
  unfold get4
  generalize (s.toList.drop n).take 4 = l at hsl hlen
  refine Ret_rounds (fun i => 4 - i) (fun i fr G => i ≤ 4 ∧ fr 5 = .int .i64 (numOf (l.take i) : Int) ∧ fr 13 = .slice (some (a.add n)) 4 (32 - n) ∧ fr 14 = .int .i64 4 ∧ fr 15 = .int .i64 (i : Int) ∧ Ext H G) 0
    ⟨Nat.zero_le _, by rfl, (by simp only [upd_same, upd_ne, ne_eq, Nat.reduceEqDiff, not_false_eq_true, frame0, List.getD_cons_zero, List.getD_cons_succ]), (by simp only [upd_same, upd_ne, ne_eq, Nat.reduceEqDiff, not_false_eq_true, frame0, List.getD_cons_zero, List.getD_cons_succ]), by rfl, Ext.refl.app⟩ ?_
  intro i fr G ⟨hi, g5, g13, g14, g15, hE⟩ hN
  rw [Ret_code l55_1.eq_1]
  refine Ret_pad ?_
  by_cases hlt : i < 4
  · have hlt' : (i : Int) < 4 := by omega
    have hG := hE.sl hsl
    have hld := fun X => (hG.app X).loadCell0 encb_len (i := i) (by omega) (by decide)
    have hidx := fun c (k : IntKind) (H1 : Heap) => hG.idx (c := c) (k := k) (H1 := H1) (i := i) (by omega)
    rw [hlen] at hidx
    have hw1 : IntKind.i64.wrap ((i : Int) + 1) = ((i + 1 : Nat) : Int) := wrap_nat (by omega)
    have hnum : numOf (l.take i) < 2 ^ 32 := by
      have h1 := numOf_lt (l.take i)
      have h2 : (l.take i).length ≤ 4 := by simp; omega
      have h3 : 256 ^ (l.take i).length ≤ 256 ^ 4 := Nat.pow_le_pow_right (by decide) h2
      omega
    have wo := or_byte (n := numOf (l.take i)) (y := gt l i) (by omega)
    have wb : IntKind.i64.wrap ((gt l i).toNat : Int) = ((gt l i).toNat : Int) := by
      have := (gt l i).toNat_lt
      exact wrap_id (by omega) (by omega)
    simp only [n55, r55, g5, g13, g14, g15, hlt', hidx, hld, encb_0, wb, wo, hw1, SB, Nat.reduceLT, callee, aOp, ne_eq, Nat.reduceEqDiff, aBin, aUn, if_true, if_false, reduceCtorEq, frame0, place, notTuple, Nat.reduceAdd, Nat.reduceLeDiff, resVal, dite_true, dite_false, Int.reduceEq, Int.reduceLT, Int.reduceLE]
    exact hN (i + 1) _ _ ⟨by omega, by rw [take_snoc (by omega), numOf_snoc]; exact (by simp only [upd_same, upd_ne, ne_eq, Nat.reduceEqDiff, not_false_eq_true, frame0, List.getD_cons_zero, List.getD_cons_succ]), (by simp only [g13, upd_same, upd_ne, ne_eq, Nat.reduceEqDiff, not_false_eq_true, frame0, List.getD_cons_zero, List.getD_cons_succ]), (by simp only [g14, upd_same, upd_ne, ne_eq, Nat.reduceEqDiff, not_false_eq_true, frame0, List.getD_cons_zero, List.getD_cons_succ]), (by simp only [upd_same, upd_ne, ne_eq, Nat.reduceEqDiff, not_false_eq_true, frame0, List.getD_cons_zero, List.getD_cons_succ]), hE.app⟩ (by omega)
  obtain rfl : i = 4 := by omega
  rw [List.take_of_length_le (by omega)] at g5
  simp only [n55, r55, g5, g13, g14, g15, SB, Nat.reduceLT, callee, aOp, ne_eq, Nat.reduceEqDiff, aBin, aUn, if_true, if_false, reduceCtorEq, frame0, place, notTuple, Nat.reduceAdd, Nat.reduceLeDiff, resVal, dite_true, dite_false, Int.reduceEq, Int.reduceLT, Int.reduceLE]
theorem flags_ok {mp : Bool} {lim : Nat} {a : Addr} {s : Sec} {H : Heap} {Q : Value → Heap → Prop} (h : SecAt H a s) :
    CallR E mp lim 54 [.pointer (some a)] H Q = Q (.int .u8 (gt s.toList 12).toNat) H := by
  refine pc (by decide) e54 rfl rfl ?_
  rw [b54, c54]
  have hc := fun X => (h.app X).cell (i := 12) (by decide)
  simp only [n54, r54, hc, Nat.mul_one, Int.reduceToNat, SB, Nat.reduceLT, callee, aOp, ne_eq, Nat.reduceEqDiff, aBin, aUn, if_true, if_false, reduceCtorEq, frame0, place, notTuple, Nat.reduceAdd, Nat.reduceLeDiff, resVal, dite_true, dite_false, Int.reduceEq, Int.reduceLT, Int.reduceLE]

def fl (s : Sec) : Nat := (gt s.toList 12).toNat
def ln (s : Sec) : Nat := (gt s.toList 13).toNat
/-- Is a sector marked, with this number? -/
def sMarked (s : Sec) (n : Nat) : Bool :=
  decide (1 ≤ get4 s 0 ∧ get4 s 0 ≤ 1073741824 ∧ 1 ≤ get4 s 4 ∧ get4 s 4 ≤ 1073741824 ∧ get4 s 8 = n ∧ fl s ≤ 3 ∧ ln s ≤ 18 ∧ (fl s < 2 → ln s = 18)) && decide (s.toList.drop (14 + ln s) = List.replicate (18 - ln s) 0)
theorem and2 {f : Nat} (h : f ≤ 3) : (IntKind.u8.wrap ((BitVec.ofInt IntKind.u8.bits (f : Int) &&& BitVec.ofInt IntKind.u8.bits 2).toNat : Int) = 0) = (f < 2) := by
  have : f = 0 ∨ f = 1 ∨ f = 2 ∨ f = 3 := by omega
  rcases this with rfl | rfl | rfl | rfl <;> simp <;> decide
theorem eq18 {a b : List UInt8} (ha : a.length = 18) (hb : b.length = 18) : aEq (.agg [.int .u8, .int .u8, .int .u8, .int .u8, .int .u8, .int .u8, .int .u8, .int .u8, .int .u8, .int .u8, .int .u8, .int .u8, .int .u8, .int .u8, .int .u8, .int .u8, .int .u8, .int .u8]) (.agg (a.map u8).toArray) (.agg (b.map u8).toArray) = some (decide (a = b)) := by
  show cellsEq (List.replicate 18 (.int .u8)) (a.map u8) (b.map u8) = _
  obtain ⟨t, h1, h2⟩ := cellsEq_dec (.int .u8) 18 (a.map u8) (b.map u8) (by simpa using ha) (by simpa using hb) (by
    intro x hx y hy
    simp only [List.mem_map] at hx hy
    obtain ⟨x, _, rfl⟩ := hx
    obtain ⟨y, _, rfl⟩ := hy
    refine ⟨_, rfl, ?_⟩
    rw [beq_iff_eq, u8_inj]
    constructor
    · intro h; exact UInt8.toNat_inj.1 (by omega)
    · rintro rfl; rfl)
  rw [h1]
  congr 1
  rw [Bool.eq_iff_iff, h2, decide_eq_true_eq]
  constructor
  · intro h
    apply List.ext_getElem (by omega)
    intro i i1 i2
    have := congrArg (fun l => l[i]?) h
    simpa [List.getElem?_eq_getElem i1, List.getElem?_eq_getElem i2, u8_inj] using this
  · rintro rfl; rfl
theorem zeros_u8 (n : Nat) : List.replicate n (Value.int .u8 0) = (List.replicate n (0 : UInt8)).map u8 := by simp [u8]
/-- The rest of a sector, in zeros. -/
theorem rest_copy {lim : Nat} {a : Addr} {s : Sec} {H : Heap} (h : SecAt H a s) (hl : ln s < 18) (hlim : lim ≤ H.length) {c : Nat} :
    copyV lim 1 (.slice (some ⟨H.length, 0, none⟩) 18 18) (.slice (some (a.add (14 + ln s))) (32 - (14 + ln s)) c) (H ++ [.cells false (List.replicate 18 (.int .u8 0))]) = some (.int .i64 ((18 - ln s : Nat) : Int), H ++ [.cells false ((s.toList.drop (14 + ln s) ++ List.replicate (ln s) 0).map u8)]) := by
  have hsub := (h.app [.cells false (List.replicate 18 (.int .u8 0))]).sl.sub encb_len (lo := 14 + ln s) (hi := 32) (by omega) (by rw [sec_len]; exact Nat.le_refl _)
  rw [List.take_of_length_le (by rw [sec_len]; exact Nat.le_refl _), Nat.mul_one] at hsub
  have hlen : (s.toList.drop (14 + ln s)).length = 18 - ln s := by simp; omega
  obtain ⟨a', e1, e2⟩ := hsub.cells (by intro h; rw [h] at hlen; simp at hlen; omega)
  cases e1
  rw [hlen, Nat.mul_one] at e2
  have em : (s.toList.drop (14 + ln s)).flatMap encb = (s.toList.drop (14 + ln s)).map u8 := by
    induction s.toList.drop (14 + ln s) with
    | nil => rfl
    | cons b l ih => rw [List.map_cons, List.flatMap_cons, ih]; rfl
  rw [em] at e2
  have h0 : ¬ 18 - ln s = 0 := by omega
  simp only [copyV, lenOf, show 32 - (14 + ln s) = 18 - ln s by omega, Nat.min_eq_left (show 18 - ln s ≤ 18 by omega), copyCells, Nat.mul_one, e2, h0, if_false]
  have hst := setAll_mid ((s.toList.drop (14 + ln s)).map u8) [] (List.replicate (18 - ln s) (.int .u8 0)) (List.replicate (ln s) (.int .u8 0)) (by simp; omega)
  rw [List.nil_append, List.nil_append, List.replicate_append_replicate, show 18 - ln s + ln s = 18 by omega, List.length_nil] at hst
  simp only [storeAt_lit, hget_new0, List.getD_cons_zero]
  rw [if_pos ⟨hlim, by simp; omega⟩, hst, set_new0, List.set_cons_zero, List.map_append, ← zeros_u8]
  rfl
theorem marked_ok {mp : Bool} {lim n : Nat} {a : Addr} {s : Sec} {H : Heap} {Q : Value → Heap → Prop} (h : SecAt H a s) (hn : n < 2 ^ 40) :
    CallR E mp lim 56 [.pointer (some a), .int .i64 (n : Int)] H Q = Q (.bool (sMarked s n)) H := by
  refine pc (by decide) e56 rfl rfl ?_
  rw [b56, c56]
  have hX := fun X => h.app X
  have g0 := fun X (mp : Bool) (lim : Nat) (Q : Value → Heap → Prop) => get_ok (mp := mp) (lim := lim) (Q := Q) (n := 0) (hX X) (by decide)
  have g4 := fun X (mp : Bool) (lim : Nat) (Q : Value → Heap → Prop) => get_ok (mp := mp) (lim := lim) (Q := Q) (n := 4) (hX X) (by decide)
  have g8 := fun X (mp : Bool) (lim : Nat) (Q : Value → Heap → Prop) => get_ok (mp := mp) (lim := lim) (Q := Q) (n := 8) (hX X) (by decide)
  have gf : ∀ X (mp : Bool) (lim : Nat) (Q : Value → Heap → Prop), CallR E mp lim 54 [.pointer (some a)] (H ++ X) Q = Q (.int .u8 (fl s : Int)) (H ++ X) := fun X mp lim Q => flags_ok (hX X)
  simp only [Int.cast_ofNat_Int] at g0 g4 g8
  have hc := fun X => (hX X).cell (i := 13) (by decide)
  have hb := (gt s.toList 13).toNat_lt
  have wl : IntKind.i64.wrap ((gt s.toList 13).toNat : Int) = (ln s : Int) := wrap_id (by omega) (by omega)
  have no : ∀ p : Prop, (p → sMarked s n = false) → p → Value.bool false = Value.bool (sMarked s n) := fun p h hp => by rw [h hp]
  by_cases h1 : (get4 s 0 : Int) < 1
  · simp only [n56, r56, g0, g4, g8, gf, hc, wl, Nat.mul_one, Int.reduceToNat, h1, SB, Nat.reduceLT, callee, aOp, ne_eq, Nat.reduceEqDiff, aBin, aUn, if_true, if_false, reduceCtorEq, frame0, place, notTuple, Nat.reduceAdd, Nat.reduceLeDiff, resVal, dite_true, dite_false, Int.reduceEq, Int.reduceLT, Int.reduceLE]
    exact no _ (fun h => by simp only [sMarked, Bool.and_eq_false_iff, decide_eq_false_iff_not]; left; omega) h1
  by_cases h2 : (1073741824 : Int) < (get4 s 0 : Int)
  · simp only [n56, r56, g0, g4, g8, gf, hc, wl, Nat.mul_one, Int.reduceToNat, h1, h2, SB, Nat.reduceLT, callee, aOp, ne_eq, Nat.reduceEqDiff, aBin, aUn, if_true, if_false, reduceCtorEq, frame0, place, notTuple, Nat.reduceAdd, Nat.reduceLeDiff, resVal, dite_true, dite_false, Int.reduceEq, Int.reduceLT, Int.reduceLE]
    exact no _ (fun h => by simp only [sMarked, Bool.and_eq_false_iff, decide_eq_false_iff_not]; left; omega) h2
  by_cases h3 : (get4 s 4 : Int) < 1
  · simp only [n56, r56, g0, g4, g8, gf, hc, wl, Nat.mul_one, Int.reduceToNat, h1, h2, h3, SB, Nat.reduceLT, callee, aOp, ne_eq, Nat.reduceEqDiff, aBin, aUn, if_true, if_false, reduceCtorEq, frame0, place, notTuple, Nat.reduceAdd, Nat.reduceLeDiff, resVal, dite_true, dite_false, Int.reduceEq, Int.reduceLT, Int.reduceLE]
    exact no _ (fun h => by simp only [sMarked, Bool.and_eq_false_iff, decide_eq_false_iff_not]; left; omega) h3
  by_cases h4 : (1073741824 : Int) < (get4 s 4 : Int)
  · simp only [n56, r56, g0, g4, g8, gf, hc, wl, Nat.mul_one, Int.reduceToNat, h1, h2, h3, h4, SB, Nat.reduceLT, callee, aOp, ne_eq, Nat.reduceEqDiff, aBin, aUn, if_true, if_false, reduceCtorEq, frame0, place, notTuple, Nat.reduceAdd, Nat.reduceLeDiff, resVal, dite_true, dite_false, Int.reduceEq, Int.reduceLT, Int.reduceLE]
    exact no _ (fun h => by simp only [sMarked, Bool.and_eq_false_iff, decide_eq_false_iff_not]; left; omega) h4
  by_cases h5 : get4 s 8 = n
  case neg =>
    simp only [n56, r56, g0, g4, g8, gf, hc, wl, Nat.mul_one, Int.reduceToNat, h1, h2, h3, h4, h5, SB, Nat.reduceLT, callee, aOp, ne_eq, Nat.reduceEqDiff, aBin, aUn, if_true, if_false, reduceCtorEq, frame0, place, notTuple, Nat.reduceAdd, Nat.reduceLeDiff, resVal, dite_true, dite_false, Int.reduceEq, Int.reduceLT, Int.reduceLE]
    exact no _ (fun h => by simp only [sMarked, Bool.and_eq_false_iff, decide_eq_false_iff_not]; left; omega) h5
  have h5' := eq_true h5
  by_cases h6 : (3 : Int) < (fl s : Int)
  · simp only [n56, r56, g0, g4, g8, gf, hc, wl, Nat.mul_one, Int.reduceToNat, h1, h2, h3, h4, h5', h6, SB, Nat.reduceLT, callee, aOp, ne_eq, Nat.reduceEqDiff, aBin, aUn, if_true, if_false, reduceCtorEq, frame0, place, notTuple, Nat.reduceAdd, Nat.reduceLeDiff, resVal, dite_true, dite_false, Int.reduceEq, Int.reduceLT, Int.reduceLE]
    exact no _ (fun h => by simp only [sMarked, Bool.and_eq_false_iff, decide_eq_false_iff_not]; left; omega) h6
  by_cases h7 : (18 : Int) < (ln s : Int)
  · simp only [n56, r56, g0, g4, g8, gf, hc, wl, Nat.mul_one, Int.reduceToNat, h1, h2, h3, h4, h5', h6, h7, SB, Nat.reduceLT, callee, aOp, ne_eq, Nat.reduceEqDiff, aBin, aUn, if_true, if_false, reduceCtorEq, frame0, place, notTuple, Nat.reduceAdd, Nat.reduceLeDiff, resVal, dite_true, dite_false, Int.reduceEq, Int.reduceLT, Int.reduceLE]
    exact no _ (fun h => by simp only [sMarked, Bool.and_eq_false_iff, decide_eq_false_iff_not]; left; omega) h7
  have ha2 := and2 (f := fl s) (by omega)
  have e18 : ((ln s : Int) = 18) = (ln s = 18) := by apply propext; omega
  by_cases h8 : fl s < 2 ∧ ¬ ln s = 18
  · simp only [n56, r56, g0, g4, g8, gf, hc, wl, Nat.mul_one, Int.reduceToNat, h1, h2, h3, h4, h5', h6, h7, ha2, e18, h8.1, h8.2, SB, Nat.reduceLT, callee, aOp, ne_eq, Nat.reduceEqDiff, aBin, aUn, if_true, if_false, reduceCtorEq, frame0, place, notTuple, Nat.reduceAdd, Nat.reduceLeDiff, resVal, dite_true, dite_false, Int.reduceEq, Int.reduceLT, Int.reduceLE]
    exact no _ (fun h => by simp only [sMarked, Bool.and_eq_false_iff, decide_eq_false_iff_not]; left; omega) h8
  have hok : sMarked s n = decide (s.toList.drop (14 + ln s) = List.replicate (18 - ln s) 0) := by
    unfold sMarked
    rw [decide_eq_true (by omega), Bool.true_and]
  rw [hok]
  have w14 : IntKind.i64.wrap (14 + (ln s : Int)) = ((14 + ln s : Nat) : Int) := by rw [wrap_id (by omega) (by omega)]; omega
  have s1 : ∀ b : Nat, sliceAV 18 1 (.pointer (some ⟨b, 0, none⟩)) none none none = some (.slice (some ⟨b, 0, none⟩) 18 18) := fun b => by
    have := sliceAV_cut (n := 18) (e := 1) (a := ⟨b, 0, none⟩) (lo := 0) (hi := 18) (vlo := none) (vhi := none) bv_000 (by decide) (by decide)
    rw [this]; simp [addr_add]
  have heq : ∀ l : List UInt8, l.length = 18 → aEq (.agg [.int .u8, .int .u8, .int .u8, .int .u8, .int .u8, .int .u8, .int .u8, .int .u8, .int .u8, .int .u8, .int .u8, .int .u8, .int .u8, .int .u8, .int .u8, .int .u8, .int .u8, .int .u8]) (.agg (l.map u8).toArray) (.agg [.int .u8 0, .int .u8 0, .int .u8 0, .int .u8 0, .int .u8 0, .int .u8 0, .int .u8 0, .int .u8 0, .int .u8 0, .int .u8 0, .int .u8 0, .int .u8 0, .int .u8 0, .int .u8 0, .int .u8 0, .int .u8 0, .int .u8 0, .int .u8 0].toArray) = some (decide (l = List.replicate 18 0)) := fun l hl => eq18 (b := List.replicate 18 0) hl rfl
  have hlm : ∀ l : List UInt8, l.length = 18 → (l.map u8).length = 18 := fun l hl => by simpa using hl
  by_cases h10 : ln s = 18
  · have w14' : IntKind.i64.wrap (14 + 18) = 32 := by decide
    have s2 : sliceAV 32 1 (.pointer (some a)) (some (.int .i64 32)) none none = some (.slice (some a) 0 0) := by
      simp only [sliceAV, Option.map_none, Option.map_some, bounds_V, unV, bv_100 (k1 := .i64) (l := 32) (len := 32) (cap := 32) (by decide) (by decide)]
      rfl
    have cp : ∀ b H1, copyV H.length 1 (.slice (some ⟨b, 0, none⟩) 18 18) (.slice (some a) 0 0) H1 = (copyCells H1 1 0 (.slice (some a) 0 0)).map fun _ => (.int .i64 0, H1) := fun b H1 => by
      simp only [copyV, lenOf, Nat.zero_min]
      cases copyCells H1 1 0 (.slice (some a) 0 0) <;> rfl
    have cc : ∀ X, AM.loadCells (H ++ X) a 0 = some [] := fun X => by
      have := (hX X).cells
      unfold AM.loadCells at this ⊢
      split at this
      · rename_i ro c hb'
        split at this
        · rw [if_pos (by omega)]; rfl
        · cases this
      · cases this
    have hz := heq (List.replicate 18 0) rfl
    rw [← zeros_u8] at hz
    have zz : List.replicate 18 (Value.int .u8 0) = [.int .u8 0, .int .u8 0, .int .u8 0, .int .u8 0, .int .u8 0, .int .u8 0, .int .u8 0, .int .u8 0, .int .u8 0, .int .u8 0, .int .u8 0, .int .u8 0, .int .u8 0, .int .u8 0, .int .u8 0, .int .u8 0, .int .u8 0, .int .u8 0] := rfl
    rw [zz] at hz
    have hv : s.toList.drop (14 + ln s) = List.replicate (18 - ln s) 0 := by rw [h10]; exact List.drop_eq_nil_of_le (by simp)
    have e17 : Value.int .i64 (ln s : Int) = .int .i64 18 := by rw [h10]; rfl
    have hd : decide (List.replicate 18 (0 : UInt8) = List.replicate 18 0) = true := by decide
    by_cases h9 : fl s < 2
    · simp only [n56, r56, g0, g4, g8, gf, hc, wl, Nat.mul_one, Int.reduceToNat, h1, h2, h3, h4, h5', h6, h7, ha2, eq_true h10, w14', s1, s2, cp, cc, copyCells, Nat.zero_mul, e17, h9, hz, zz, hd, SB, Nat.reduceLT, callee, aOp, ne_eq, Nat.reduceEqDiff, aBin, aUn, if_true, if_false, reduceCtorEq, frame0, place, notTuple, Nat.reduceAdd, Nat.reduceLeDiff, resVal, dite_true, dite_false, Int.reduceEq, Int.reduceLT, Int.reduceLE]
      rw [hv, decide_eq_true rfl]
    · simp only [n56, r56, g0, g4, g8, gf, hc, wl, Nat.mul_one, Int.reduceToNat, h1, h2, h3, h4, h5', h6, h7, ha2, eq_true h10, w14', s1, s2, cp, cc, copyCells, Nat.zero_mul, e17, h9, hz, zz, hd, SB, Nat.reduceLT, callee, aOp, ne_eq, Nat.reduceEqDiff, aBin, aUn, if_true, if_false, reduceCtorEq, frame0, place, notTuple, Nat.reduceAdd, Nat.reduceLeDiff, resVal, dite_true, dite_false, Int.reduceEq, Int.reduceLT, Int.reduceLE]
      rw [hv, decide_eq_true rfl]
  · have h8' : ¬ fl s < 2 := fun h => h8 ⟨h, h10⟩
    have s2 := sliceAV_cut (n := 32) (e := 1) (a := a) (lo := 14 + ln s) (hi := 32) (vlo := some (.int .i64 ((14 + ln s : Nat) : Int))) (vhi := none) (by rw [bv_100 (by omega) (by omega), Int.toNat_natCast]) (by decide) (by omega)
    rw [Nat.mul_one] at s2
    have hrc := rest_copy (c := 32 - (14 + ln s)) (lim := H.length) h (by omega) (Nat.le_refl _)
    rw [show List.replicate 18 (Value.int .u8 0) = [.int .u8 0, .int .u8 0, .int .u8 0, .int .u8 0, .int .u8 0, .int .u8 0, .int .u8 0, .int .u8 0, .int .u8 0, .int .u8 0, .int .u8 0, .int .u8 0, .int .u8 0, .int .u8 0, .int .u8 0, .int .u8 0, .int .u8 0, .int .u8 0] from rfl] at hrc
    have hl18 : (s.toList.drop (14 + ln s) ++ List.replicate (ln s) 0).length = 18 := by simp; omega
    generalize hgl : s.toList.drop (14 + ln s) ++ List.replicate (ln s) 0 = l at hrc hl18
    have hiff : decide (l = List.replicate 18 0) = decide (s.toList.drop (14 + ln s) = List.replicate (18 - ln s) 0) := by
      rw [decide_eq_decide, ← hgl]
      constructor
      · intro h
        have := congrArg (List.take (18 - ln s)) h
        rw [List.take_left' (by simp; omega), List.take_replicate, Nat.min_eq_left (by omega)] at this
        exact this
      · intro h
        rw [h, List.replicate_append_replicate]
        congr 1
        omega
    simp only [n56, r56, g0, g4, g8, gf, hc, wl, Nat.mul_one, Int.reduceToNat, h1, h2, h3, h4, h5', h6, h7, ha2, h8', w14, s1, s2, hrc, heq l hl18, hlm l hl18, take_all, hiff, SB, Nat.reduceLT, callee, aOp, ne_eq, Nat.reduceEqDiff, aBin, aUn, if_true, if_false, reduceCtorEq, frame0, place, notTuple, Nat.reduceAdd, Nat.reduceLeDiff, resVal, dite_true, dite_false, Int.reduceEq, Int.reduceLT, Int.reduceLE]
end Go.Proofs.Ytdddehniepofmaa.Fn
namespace Go.Proofs.Ytdddehniepofmaa.Fn
open Go.AM Go.AM.Sym
set_option maxRecDepth 100000
set_option linter.unusedVariables false
set_option linter.unusedSimpArgs false
set_option maxHeartbeats 4000000

theorem Crash_nil {lim lc n : Nat} {pl : Option Addr} {H : Heap} {Q : Value → Heap → Prop} (hQ : Q (.tuple #[]) (H ++ [])) : CallR E false lim 13 [.pointer none, .slice pl n lc] H Q := by
  refine runs (by decide) e13 rfl ?_
  rw [b13, c13]
  simp only [n13, r13, aEq, Option.isNone_none, SB, Nat.reduceLT, callee, aOp, ne_eq, Nat.reduceEqDiff, aBin, aUn, if_true, if_false, reduceCtorEq, frame0, place, notTuple, Nat.reduceAdd, Nat.reduceLeDiff, resVal, dite_true, dite_false, Int.reduceEq, Int.reduceLT, Int.reduceLE]
  exact hQ
theorem Sync_nil {lim : Nat} {H : Heap} {Q : Value → Heap → Prop} (hQ : Q (.tuple #[]) (H ++ [])) : CallR E false lim 14 [.pointer none] H Q := by
  refine runs (by decide) e14 rfl ?_
  rw [b14, c14]
  simp only [n14, r14, SB, Nat.reduceLT, callee, aOp, ne_eq, Nat.reduceEqDiff, aBin, aUn, if_true, if_false, reduceCtorEq, frame0, place, notTuple, Nat.reduceAdd, Nat.reduceLeDiff, resVal, dite_true, dite_false, Int.reduceEq, Int.reduceLT, Int.reduceLE]
  refine Crash_nil ?_
  simp only [n14, r14, SB, Nat.reduceLT, callee, aOp, ne_eq, Nat.reduceEqDiff, aBin, aUn, if_true, if_false, reduceCtorEq, frame0, place, notTuple, Nat.reduceAdd, Nat.reduceLeDiff, resVal, dite_true, dite_false, Int.reduceEq, Int.reduceLT, Int.reduceLE]
  simpa using hQ
theorem Sync_ok {lim D S sc pc' : Nat} {sp pp : Option Addr} {safe : List Sec} {pend : List Wr} {H : Heap} {Q : Value → Heap → Prop}
    (hD : hget H D = .cells false [.slice sp safe.length sc, .slice pp pend.length pc']) (hlD : lim ≤ D) (hS : safe ≠ [] → sp = some ⟨S, 0, none⟩ ∧ hget H S = .cells false (safe.flatMap encX) ∧ lim ≤ S) (hSD : S ≠ D)
    (hP : Sl H encW 33 pp pend) (hPS : ∀ a, pp = some a → pend ≠ [] → a.block ≠ S ∧ a.block ≠ D)
    (hn1 : safe.length < 2 ^ 60) (hn2 : pend.length < 2 ^ 60)
    (hQ : ∀ H', Chg [S, D] H H' → hget H' D = .cells false [.slice sp safe.length sc, .slice none 0 0] → (safe ≠ [] → hget H' S = .cells false ((crashed [] pend safe).flatMap encX)) → Q (.tuple #[]) H') :
    CallR E false lim 14 [.pointer (some ⟨D, 0, none⟩)] H Q := by
  refine runs (by decide) e14 rfl ?_
  rw [b14, c14]
  simp only [n14, r14, SB, Nat.reduceLT, callee, aOp, ne_eq, Nat.reduceEqDiff, aBin, aUn, if_true, if_false, reduceCtorEq, frame0, place, notTuple, Nat.reduceAdd, Nat.reduceLeDiff, resVal, dite_true, dite_false, Int.reduceEq, Int.reduceLT, Int.reduceLE]
  refine Crash_ok (lost := []) ((Ext.refl.app (X := [])).cells hD) hlD (fun h => ⟨(hS h).1, (Ext.refl.app (X := [])).cells (hS h).2.1, (hS h).2.2⟩) hSD (hP.app _) hPS rfl (fun a h => by cases h) hn1 hn2 (by decide) rfl fun H' h1 h2 h3 => ?_
  refine Ret_pad ?_
  simp only [n14, r14, SB, Nat.reduceLT, callee, aOp, ne_eq, Nat.reduceEqDiff, aBin, aUn, if_true, if_false, reduceCtorEq, frame0, place, notTuple, Nat.reduceAdd, Nat.reduceLeDiff, resVal, dite_true, dite_false, Int.reduceEq, Int.reduceLT, Int.reduceLE]
  exact hQ _ (by rw [List.append_nil] at h1 ⊢; exact h1) (by rw [List.append_nil]; exact h2) (by rw [List.append_nil]; exact h3)

/-- Which writes are lost. -/
def lostBit (m : Int) (i : Nat) : Bool := decide (IntKind.u64.wrap ((BitVec.ofInt IntKind.u64.bits (Int.fdiv m (2 ^ min (i % 64) IntKind.u64.bits)) &&& BitVec.ofInt IntKind.u64.bits 1).toNat : Int) = 1)
theorem lostBit_eq {m : Int} {i : Nat} : decide (IntKind.u64.wrap ((BitVec.ofInt IntKind.u64.bits (Int.fdiv m (2 ^ min (i % 64) IntKind.u64.bits)) &&& BitVec.ofInt IntKind.u64.bits 1).toNat : Int) = 1) = lostBit m i := rfl
def lostL (m : Int) (n : Nat) : List Bool := (List.range n).map (lostBit m)
theorem lostL_succ {m : Int} {n : Nat} : lostL m (n + 1) = lostL m n ++ [lostBit m n] := by simp [lostL, List.range_succ]
theorem lostL_len {m : Int} {n : Nat} : (lostL m n).length = n := by simp [lostL]
theorem lost_ok {lim n : Nat} {m : Int} {H : Heap} {Q : Value → Heap → Prop} (hl : lim ≤ H.length) (hn : n < 2 ^ 40) (hQ : ∀ p cap H', Chg [] H H' → Own H.length H' encB 1 p cap (lostL m n) → Q (.slice p n cap) H') : CallR E false lim 12 [.int .u64 m, .int .i64 (n : Int)] H Q := by
  refine runs (by decide) e12 rfl ?_
  rw [b12, c12]
  simp only [n12, r12, SB, Nat.reduceLT, callee, aOp, ne_eq, Nat.reduceEqDiff, aBin, aUn, if_true, if_false, reduceCtorEq, frame0, place, notTuple, Nat.reduceAdd, Nat.reduceLeDiff, resVal, dite_true, dite_false, Int.reduceEq, Int.reduceLT, Int.reduceLE]
  refine Ret_rounds (fun s : Nat × Option Addr × Nat => n - s.1) (fun s fr G => s.1 ≤ n ∧ fr 0 = .int .u64 m ∧ fr 1 = .int .i64 (n : Int) ∧ fr 5 = .slice s.2.1 s.1 s.2.2 ∧ fr 6 = .int .i64 (s.1 : Int) ∧ Chg [] H G ∧ Own H.length G encB 1 s.2.1 s.2.2 (lostL m s.1)) (0, none, 0) ⟨Nat.zero_le _, (by simp only [upd_same, upd_ne, ne_eq, Nat.reduceEqDiff, not_false_eq_true, frame0, List.getD_cons_zero, List.getD_cons_succ]), (by simp only [upd_same, upd_ne, ne_eq, Nat.reduceEqDiff, not_false_eq_true, frame0, List.getD_cons_zero, List.getD_cons_succ]), (by simp only [upd_same, upd_ne, ne_eq, Nat.reduceEqDiff, not_false_eq_true, frame0, List.getD_cons_zero, List.getD_cons_succ]), by rfl, Chg.refl.app, Own.nil⟩ ?_
  rintro ⟨i, p, cap⟩ fr G ⟨hi, h0, h1, h5, h6, hC, hO⟩ hN
  simp only at hi h5 h6 hO
  rw [Ret_code l12_1.eq_1]
  refine Ret_pad ?_
  by_cases hlt : i < n
  · have hw1 : IntKind.i64.wrap ((i : Int) + 1) = ((i + 1 : Nat) : Int) := wrap_nat (by omega)
    have hmod : Int.tmod (i : Int) 64 = ((i % 64 : Nat) : Int) := rfl
    have hneg : (((i % 64 : Nat) : Int) < 0) = False := by simp; omega
    have hO' := hO
    obtain ⟨G2, hp, hO2, hC2, _⟩ := hO.step (lim' := lim) (bytes := 1) hl encB_len (by decide) (lostBit m i) (by rw [lostL_len]; unfold maxBytes; omega) (by rw [lostL_len]; omega) hC.len [.cells false [.bool (lostBit m i)]] G.length 1 (by rw [hget_new0]; rfl)
    rw [lostL_len] at hp
    simp only [n12, r12, h0, h1, h5, h6, hlt, hmod, hw1, hneg, Int.toNat_natCast, lostBit_eq, hp, SB, Nat.reduceLT, callee, aOp, ne_eq, Nat.reduceEqDiff, aBin, aUn, if_true, if_false, reduceCtorEq, frame0, place, notTuple, Nat.reduceAdd, Nat.reduceLeDiff, resVal, dite_true, dite_false, Int.reduceEq, Int.reduceLT, Int.reduceLE]
    exact hN (i + 1, some ⟨G.length + 1, 0, none⟩, loose 1) _ _ ⟨by show i + 1 ≤ _; omega, (by simp only [h0, upd_same, upd_ne, ne_eq, Nat.reduceEqDiff, not_false_eq_true, frame0, List.getD_cons_zero, List.getD_cons_succ]), (by simp only [h1, upd_same, upd_ne, ne_eq, Nat.reduceEqDiff, not_false_eq_true, frame0, List.getD_cons_zero, List.getD_cons_succ]), (by simp only [upd_same, upd_ne, ne_eq, Nat.reduceEqDiff, not_false_eq_true, frame0, List.getD_cons_zero, List.getD_cons_succ]), (by simp only [upd_same, upd_ne, ne_eq, Nat.reduceEqDiff, not_false_eq_true, frame0, List.getD_cons_zero, List.getD_cons_succ]), hC2 _ _ (Nat.le_refl _) hC, by rw [lostL_succ]; exact hO2⟩ (by show _ - (i + 1) < _; omega)
  · obtain rfl : i = n := by omega
    simp only [n12, r12, h0, h1, h5, h6, hlt, SB, Nat.reduceLT, callee, aOp, ne_eq, Nat.reduceEqDiff, aBin, aUn, if_true, if_false, reduceCtorEq, frame0, place, notTuple, Nat.reduceAdd, Nat.reduceLeDiff, resVal, dite_true, dite_false, Int.reduceEq, Int.reduceLT, Int.reduceLE]
    exact hQ _ _ _ hC.app (hO.app _)

/-- A disk, as it lies. -/
theorem refCrash_ok {mp : Bool} {lim lc k1 k2 ln : Nat} {ps pp pl : Option Addr} {safe : List Sec} {pend : List Wr} {lost : List Bool} {H : Heap} {Q : Value → Heap → Prop} (hS : Sl H encX 32 ps safe) (hP : Sl H encW 33 pp pend) (hL : Sl H encB 1 pl lost) (hl : lim ≤ H.length)
    (hn1 : safe.length < 2 ^ 30) (hn2 : pend.length < 2 ^ 60) (hn3 : lost.length < 2 ^ 60) (hln : ln = lost.length)
    (hQ : ∀ p cap H', Chg [] H H' → Sl H' encX 32 p (crashed lost pend safe) → Q (.agg #[.slice p safe.length cap, .slice none 0 0]) H') :
    CallR E false lim 16 [.agg #[.slice ps safe.length k1, .slice pp pend.length k2], .slice pl ln lc] H Q := by
  subst hln
  refine runs (by decide) e16 rfl ?_
  rw [b16, c16]
  have key : ∀ (o S cap : Nat) (fr : Nat → Value) (X : Heap), fr 1 = .slice pl lost.length lc → fr 2 = .pointer (some ⟨H.length, 0, none⟩) → fr 4 = .pointer (some ⟨H.length + 1, 0, none⟩) → fr 5 = .pointer (some ⟨o, 0, none⟩) → fr 6 = .int .i64 0 →
      hget (H ++ X) H.length = .cells false [.slice ps safe.length k1, .slice pp pend.length k2] → hget (H ++ X) (H.length + 1) = .cells false [.slice none 0 0, .slice none 0 0] → H.length + 1 < o → hget (H ++ X) o = .cells false [.slice (some ⟨S, 0, none⟩) safe.length cap, .slice none 0 0] →
      (safe ≠ [] → hget (H ++ X) S = .cells false (safe.flatMap encX)) → H.length + 1 < S → S ≠ o →
      Ret E a16 lim [.code (.loop l16_1), .inBlock 0, .code ((ACode.ops [i 68 (.loadN 2 (t 5)), ⟨none, none, .store 2 (t 4) (t 68), none, []⟩]).seq .ret)] fr (H ++ X) Q := by
    intro o S cap fr X f1 f2 f4 f5 f6 x0 x1 ho xo xS hS1 hSo
    refine Ret_rounds (fun s : Nat × List Sec => pend.length - s.1) (fun s fr G => s.1 ≤ pend.length ∧ fr 1 = .slice pl lost.length lc ∧ fr 2 = .pointer (some ⟨H.length, 0, none⟩) ∧ fr 4 = .pointer (some ⟨H.length + 1, 0, none⟩) ∧ fr 5 = .pointer (some ⟨o, 0, none⟩) ∧ fr 6 = .int .i64 (s.1 : Int) ∧
      Chg [S] (H ++ X) G ∧ s.2.length = safe.length ∧ (safe ≠ [] → hget G S = .cells false (s.2.flatMap encX)) ∧ crashed lost pend safe = crashGo lost s.1 (pend.drop s.1) s.2) (0, safe) ⟨Nat.zero_le _, f1, f2, f4, f5, f6, Chg.refl, rfl, xS, rfl⟩ ?_
    rintro ⟨j, cur⟩ fr G ⟨hi, g1, g2, g4, g5, g6, hC, hcl, hcur, ha⟩ hN
    simp only at hi g6 hcl hcur ha
    rw [Ret_code l16_1.eq_1]
    refine Ret_pad ?_
    have y0 := fun Y => (Ext.refl.app (X := Y)).cells (hC.cells x0 (by simp; omega))
    have y1 := fun Y => (Ext.refl.app (X := Y)).cells (hC.cells x1 (by simp; omega))
    have yo := fun Y => (Ext.refl.app (X := Y)).cells (hC.cells xo (by simp; omega))
    have hGl := hC.len
    simp only [List.length_append] at hGl
    have hol := hget_alive (hC.cells xo (by simp; omega))
    have hlG : lim ≤ G.length := by omega
    by_cases hlt : j < pend.length
    · have hPG := hC.sl (hP.app X) fun a e h => by simp; have := (e ▸ hP).lt h; omega
      have hLG := hC.sl (hL.app X) fun a e h => by simp; have := (e ▸ hL).lt h; omega
      have hlds := fun X (h : 1 + 32 ≤ 33) => (hPG.app X).loadSub encW_len hlt h
      have hld0 := fun X => (hPG.app X).loadCell encW_len hlt (show 0 < 33 by decide)
      have hidx := fun c (k : IntKind) (H1 : Heap) => hPG.idx (c := c) (k := k) (H1 := H1) hlt
      have hw1 : IntKind.i64.wrap ((j : Int) + 1) = ((j + 1 : Nat) : Int) := wrap_nat (by omega)
      have hlidx := fun (h : j < lost.length) c (k : IntKind) (H1 : Heap) => hLG.idx (c := c) (k := k) (H1 := H1) h
      have hlld := fun (h : j < lost.length) X => (hLG.app X).loadCell0 encB_len h (by decide)
      have next : ∀ (cur' : List Sec) (G' X' : Heap) (fr' : Nat → Value), cur' = (if hasA cur.length (gt pend j).pos && !lost.getD j false then cur.set (gt pend j).pos.toNat (gt pend j).data else cur) → fr' 1 = .slice pl lost.length lc → fr' 2 = .pointer (some ⟨H.length, 0, none⟩) → fr' 4 = .pointer (some ⟨H.length + 1, 0, none⟩) → fr' 5 = .pointer (some ⟨o, 0, none⟩) → fr' 6 = .int .i64 ((j + 1 : Nat) : Int) →
          Mut G G' S → (safe ≠ [] → hget G' S = .cells false (cur'.flatMap encX)) → Ret E a16 lim [.inLoop l16_1, .inBlock 0, .code ((ACode.ops [i 68 (.loadN 2 (t 5)), ⟨none, none, .store 2 (t 4) (t 68), none, []⟩]).seq .ret)] fr' (G' ++ X') Q := by
        intro cur' G' X' fr' hc' g1 g2 g4 g5 g6 hm hg
        refine hN (j + 1, cur') _ _ ⟨by show j + 1 ≤ _; omega, g1, g2, g4, g5, g6, (hC.mut hm (.inl (by simp))).app, ?_, fun h => (Ext.refl.app (X := X')).cells (hg h), ?_⟩ (by show _ - (j + 1) < _; omega)
        · show cur'.length = _
          rw [hc']; split <;> simp [hcl]
        · show _ = crashGo _ (j + 1) _ cur'
          rw [ha, crashGo_drop hlt, hc']
      have e0 := encW_0 (w := gt pend j)
      have eD := encW_data (w := gt pend j)
      cases hh : hasA safe.length (gt pend j).pos with
      | false =>
        have hh' : 0 ≤ (gt pend j).pos → ¬ (gt pend j).pos < (safe.length : Int) := by simpa [hasA] using hh
        by_cases hil : j < lost.length
        · have hgl : gt lost j = lost.getD j false := rfl
          cases hgn : lost.getD j false
          · simp only [n16, r16, g1, g2, g4, g5, g6, y0, y1, yo, hlt, hidx, hld0, hlds, e0, eD, hw1, hlG, encB, encX_len, hil, hlidx hil, hlld hil, hgl, hgn, SB, Nat.reduceLT, callee, aOp, ne_eq, Nat.reduceEqDiff, aBin, aUn, if_true, if_false, reduceCtorEq, frame0, place, notTuple, Nat.reduceAdd, Nat.reduceLeDiff, resVal, dite_true, dite_false, Int.reduceEq, Int.reduceLT, Int.reduceLE]
            repeat' ((first | refine wantK_dec (fun hw => ?_) (fun hw => ?_) | refine condK_dec (fun hw => ?_) (fun hw => ?_) | refine wantK_any (fun hw => ?_) (fun hw => ?_) | refine condK_any (fun hw => ?_) (fun hw => ?_)) <;> (try simp only [hw, n16, r16, g1, g2, g4, g5, g6, y0, y1, yo, hlt, hidx, hld0, hlds, e0, eD, hw1, hlG, encB, encX_len, hh', SB, Nat.reduceLT, callee, aOp, ne_eq, Nat.reduceEqDiff, aBin, aUn, if_true, if_false, reduceCtorEq, frame0, place, notTuple, Nat.reduceAdd, Nat.reduceLeDiff, resVal, dite_true, dite_false, Int.reduceEq, Int.reduceLT, Int.reduceLE]))
            all_goals exact next cur G _ _ (by rw [hcl, hh]; rfl) (by simp only [g1, upd_same, upd_ne, ne_eq, Nat.reduceEqDiff, not_false_eq_true, frame0, List.getD_cons_zero, List.getD_cons_succ]) (by simp only [g2, upd_same, upd_ne, ne_eq, Nat.reduceEqDiff, not_false_eq_true, frame0, List.getD_cons_zero, List.getD_cons_succ]) (by simp only [g4, upd_same, upd_ne, ne_eq, Nat.reduceEqDiff, not_false_eq_true, frame0, List.getD_cons_zero, List.getD_cons_succ]) (by simp only [g5, upd_same, upd_ne, ne_eq, Nat.reduceEqDiff, not_false_eq_true, frame0, List.getD_cons_zero, List.getD_cons_succ]) (by simp only [upd_same, upd_ne, ne_eq, Nat.reduceEqDiff, not_false_eq_true, frame0, List.getD_cons_zero, List.getD_cons_succ]) ⟨rfl, fun _ _ => rfl⟩ hcur
          · simp only [n16, r16, g1, g2, g4, g5, g6, y0, y1, yo, hlt, hidx, hld0, hlds, e0, eD, hw1, hlG, encB, encX_len, hil, hlidx hil, hlld hil, hgl, hgn, SB, Nat.reduceLT, callee, aOp, ne_eq, Nat.reduceEqDiff, aBin, aUn, if_true, if_false, reduceCtorEq, frame0, place, notTuple, Nat.reduceAdd, Nat.reduceLeDiff, resVal, dite_true, dite_false, Int.reduceEq, Int.reduceLT, Int.reduceLE]
            exact next cur G _ _ (by rw [hcl, hh]; rfl) (by simp only [g1, upd_same, upd_ne, ne_eq, Nat.reduceEqDiff, not_false_eq_true, frame0, List.getD_cons_zero, List.getD_cons_succ]) (by simp only [g2, upd_same, upd_ne, ne_eq, Nat.reduceEqDiff, not_false_eq_true, frame0, List.getD_cons_zero, List.getD_cons_succ]) (by simp only [g4, upd_same, upd_ne, ne_eq, Nat.reduceEqDiff, not_false_eq_true, frame0, List.getD_cons_zero, List.getD_cons_succ]) (by simp only [g5, upd_same, upd_ne, ne_eq, Nat.reduceEqDiff, not_false_eq_true, frame0, List.getD_cons_zero, List.getD_cons_succ]) (by simp only [upd_same, upd_ne, ne_eq, Nat.reduceEqDiff, not_false_eq_true, frame0, List.getD_cons_zero, List.getD_cons_succ]) ⟨rfl, fun _ _ => rfl⟩ hcur
        · simp only [n16, r16, g1, g2, g4, g5, g6, y0, y1, yo, hlt, hidx, hld0, hlds, e0, eD, hw1, hlG, encB, encX_len, hil, SB, Nat.reduceLT, callee, aOp, ne_eq, Nat.reduceEqDiff, aBin, aUn, if_true, if_false, reduceCtorEq, frame0, place, notTuple, Nat.reduceAdd, Nat.reduceLeDiff, resVal, dite_true, dite_false, Int.reduceEq, Int.reduceLT, Int.reduceLE]
          repeat' ((first | refine wantK_dec (fun hw => ?_) (fun hw => ?_) | refine condK_dec (fun hw => ?_) (fun hw => ?_) | refine wantK_any (fun hw => ?_) (fun hw => ?_) | refine condK_any (fun hw => ?_) (fun hw => ?_)) <;> (try simp only [hw, n16, r16, g1, g2, g4, g5, g6, y0, y1, yo, hlt, hidx, hld0, hlds, e0, eD, hw1, hlG, encB, encX_len, hh', SB, Nat.reduceLT, callee, aOp, ne_eq, Nat.reduceEqDiff, aBin, aUn, if_true, if_false, reduceCtorEq, frame0, place, notTuple, Nat.reduceAdd, Nat.reduceLeDiff, resVal, dite_true, dite_false, Int.reduceEq, Int.reduceLT, Int.reduceLE]))
          all_goals exact next cur G _ _ (by rw [hcl, hh]; rfl) (by simp only [g1, upd_same, upd_ne, ne_eq, Nat.reduceEqDiff, not_false_eq_true, frame0, List.getD_cons_zero, List.getD_cons_succ]) (by simp only [g2, upd_same, upd_ne, ne_eq, Nat.reduceEqDiff, not_false_eq_true, frame0, List.getD_cons_zero, List.getD_cons_succ]) (by simp only [g4, upd_same, upd_ne, ne_eq, Nat.reduceEqDiff, not_false_eq_true, frame0, List.getD_cons_zero, List.getD_cons_succ]) (by simp only [g5, upd_same, upd_ne, ne_eq, Nat.reduceEqDiff, not_false_eq_true, frame0, List.getD_cons_zero, List.getD_cons_succ]) (by simp only [upd_same, upd_ne, ne_eq, Nat.reduceEqDiff, not_false_eq_true, frame0, List.getD_cons_zero, List.getD_cons_succ]) ⟨rfl, fun _ _ => rfl⟩ hcur
      | true =>
        obtain ⟨hp0, hp1⟩ : 0 ≤ (gt pend j).pos ∧ (gt pend j).pos < (safe.length : Int) := by simpa [hasA] using hh
        obtain ⟨q, hq, hqs⟩ : ∃ q : Nat, (gt pend j).pos = (q : Int) ∧ q < safe.length := ⟨(gt pend j).pos.toNat, by omega, by omega⟩
        have hsn : safe ≠ [] := by rintro rfl; simp at hqs
        have hsi : ∀ H1, idxK 32 (.slice (some ⟨S, 0, none⟩) safe.length cap) (.int .i64 (gt pend j).pos) H1 = some (.pointer (some (elt (some ⟨S, 0, none⟩) 32 q)), H1) := fun H1 => by
          rw [hq]; exact idxK_nat hqs
        obtain ⟨G', hst, hG', hm⟩ := store_mut (lim := lim) (e := 32) encX_len rfl (hcur hsn) (by omega) (show q < cur.length by rw [hcl]; exact hqs) (gt pend j).data
        by_cases hil : j < lost.length
        · have hgl : gt lost j = lost.getD j false := rfl
          cases hgn : lost.getD j false
          · simp only [n16, r16, g1, g2, g4, g5, g6, y0, y1, yo, hlt, hidx, hld0, hlds, e0, eD, hw1, hlG, encB, encX_len, hil, hlidx hil, hlld hil, hgl, hgn, hp0, hp1, hsi, hst, SB, Nat.reduceLT, callee, aOp, ne_eq, Nat.reduceEqDiff, aBin, aUn, if_true, if_false, reduceCtorEq, frame0, place, notTuple, Nat.reduceAdd, Nat.reduceLeDiff, resVal, dite_true, dite_false, Int.reduceEq, Int.reduceLT, Int.reduceLE]
            exact next _ G' _ _ (by rw [hcl, hh, hgn]; simp [hq]) (by simp only [g1, upd_same, upd_ne, ne_eq, Nat.reduceEqDiff, not_false_eq_true, frame0, List.getD_cons_zero, List.getD_cons_succ]) (by simp only [g2, upd_same, upd_ne, ne_eq, Nat.reduceEqDiff, not_false_eq_true, frame0, List.getD_cons_zero, List.getD_cons_succ]) (by simp only [g4, upd_same, upd_ne, ne_eq, Nat.reduceEqDiff, not_false_eq_true, frame0, List.getD_cons_zero, List.getD_cons_succ]) (by simp only [g5, upd_same, upd_ne, ne_eq, Nat.reduceEqDiff, not_false_eq_true, frame0, List.getD_cons_zero, List.getD_cons_succ]) (by simp only [upd_same, upd_ne, ne_eq, Nat.reduceEqDiff, not_false_eq_true, frame0, List.getD_cons_zero, List.getD_cons_succ]) hm fun _ => hG'
          · simp only [n16, r16, g1, g2, g4, g5, g6, y0, y1, yo, hlt, hidx, hld0, hlds, e0, eD, hw1, hlG, encB, encX_len, hil, hlidx hil, hlld hil, hgl, hgn, SB, Nat.reduceLT, callee, aOp, ne_eq, Nat.reduceEqDiff, aBin, aUn, if_true, if_false, reduceCtorEq, frame0, place, notTuple, Nat.reduceAdd, Nat.reduceLeDiff, resVal, dite_true, dite_false, Int.reduceEq, Int.reduceLT, Int.reduceLE]
            exact next cur G _ _ (by rw [hcl, hh, hgn]; rfl) (by simp only [g1, upd_same, upd_ne, ne_eq, Nat.reduceEqDiff, not_false_eq_true, frame0, List.getD_cons_zero, List.getD_cons_succ]) (by simp only [g2, upd_same, upd_ne, ne_eq, Nat.reduceEqDiff, not_false_eq_true, frame0, List.getD_cons_zero, List.getD_cons_succ]) (by simp only [g4, upd_same, upd_ne, ne_eq, Nat.reduceEqDiff, not_false_eq_true, frame0, List.getD_cons_zero, List.getD_cons_succ]) (by simp only [g5, upd_same, upd_ne, ne_eq, Nat.reduceEqDiff, not_false_eq_true, frame0, List.getD_cons_zero, List.getD_cons_succ]) (by simp only [upd_same, upd_ne, ne_eq, Nat.reduceEqDiff, not_false_eq_true, frame0, List.getD_cons_zero, List.getD_cons_succ]) ⟨rfl, fun _ _ => rfl⟩ hcur
        · simp only [n16, r16, g1, g2, g4, g5, g6, y0, y1, yo, hlt, hidx, hld0, hlds, e0, eD, hw1, hlG, encB, encX_len, hil, hp0, hp1, hsi, hst, SB, Nat.reduceLT, callee, aOp, ne_eq, Nat.reduceEqDiff, aBin, aUn, if_true, if_false, reduceCtorEq, frame0, place, notTuple, Nat.reduceAdd, Nat.reduceLeDiff, resVal, dite_true, dite_false, Int.reduceEq, Int.reduceLT, Int.reduceLE]
          exact next _ G' _ _ (by rw [hcl, hh, show lost.getD j false = false by rw [List.getD_eq_getElem?_getD, List.getElem?_eq_none (by omega)]; rfl]; simp [hq]) (by simp only [g1, upd_same, upd_ne, ne_eq, Nat.reduceEqDiff, not_false_eq_true, frame0, List.getD_cons_zero, List.getD_cons_succ]) (by simp only [g2, upd_same, upd_ne, ne_eq, Nat.reduceEqDiff, not_false_eq_true, frame0, List.getD_cons_zero, List.getD_cons_succ]) (by simp only [g4, upd_same, upd_ne, ne_eq, Nat.reduceEqDiff, not_false_eq_true, frame0, List.getD_cons_zero, List.getD_cons_succ]) (by simp only [g5, upd_same, upd_ne, ne_eq, Nat.reduceEqDiff, not_false_eq_true, frame0, List.getD_cons_zero, List.getD_cons_succ]) (by simp only [upd_same, upd_ne, ne_eq, Nat.reduceEqDiff, not_false_eq_true, frame0, List.getD_cons_zero, List.getD_cons_succ]) hm fun _ => hG'
    · obtain rfl : j = pend.length := by omega
      obtain ⟨G', hset, hGD, hm⟩ := mut_set (show H.length + 1 < G.length by omega) (.cells false [.slice (some ⟨S, 0, none⟩) safe.length cap, .slice none 0 0])
      have hz := fun Y => (Ext.refl.app (X := Y)).cells hGD
      simp only [n16, r16, g1, g2, g4, g5, g6, y0, y1, yo, hlt, hset, show lim ≤ H.length + 1 by omega, hz, SB, Nat.reduceLT, callee, aOp, ne_eq, Nat.reduceEqDiff, aBin, aUn, if_true, if_false, reduceCtorEq, frame0, place, notTuple, Nat.reduceAdd, Nat.reduceLeDiff, resVal, dite_true, dite_false, Int.reduceEq, Int.reduceLT, Int.reduceLE]
      refine hQ _ _ _ (((hC.pre.mono (B := []) fun q hq h => ?_).mut hm (.inr (by omega))).app) (Sl.app ?_ _)
      · simp at h; omega
      · rw [ha, List.drop_length, crashGo]
        by_cases hne : safe = []
        · subst hne
          have : cur = [] := List.length_eq_zero_iff.1 hcl
          subst this
          exact ⟨rfl, fun h => absurd rfl h⟩
        · exact Sl.lit encX_len (by rw [hm.cells (hcur hne) (by omega)]; rfl) (by rw [hm.cells (hcur hne) (by omega)]; rfl)
  by_cases hne : safe = []
  · subst hne
    simp only [n16, r16, append_new0, hl, SB, Nat.reduceLT, callee, aOp, ne_eq, Nat.reduceEqDiff, aBin, aUn, if_true, if_false, reduceCtorEq, frame0, place, notTuple, Nat.reduceAdd, Nat.reduceLeDiff, resVal, dite_true, dite_false, Int.reduceEq, Int.reduceLT, Int.reduceLE]
    refine key (H.length + 3) (H.length + 2) _ _ _ (by simp only [upd_same, upd_ne, ne_eq, Nat.reduceEqDiff, not_false_eq_true, frame0, List.getD_cons_zero, List.getD_cons_succ]) (by simp only [upd_same, upd_ne, ne_eq, Nat.reduceEqDiff, not_false_eq_true, frame0, List.getD_cons_zero, List.getD_cons_succ]) (by simp only [upd_same, upd_ne, ne_eq, Nat.reduceEqDiff, not_false_eq_true, frame0, List.getD_cons_zero, List.getD_cons_succ]) (by simp only [upd_same, upd_ne, ne_eq, Nat.reduceEqDiff, not_false_eq_true, frame0, List.getD_cons_zero, List.getD_cons_succ]) (by simp only [upd_same, upd_ne, ne_eq, Nat.reduceEqDiff, not_false_eq_true, frame0, List.getD_cons_zero, List.getD_cons_succ]) (by rw [hget_new0]; rfl) (by rw [hget_new]; rfl) (by omega) (by rw [hget_new]; rfl) (fun h => absurd rfl h) (by omega) (by omega)
  · have happ := fun X (h : hget (H ++ X) (H.length + 2) = .cells false []) => append_newN (lim := lim) (b := H.length + 2) (bytes := 32) (c := k1) h (hS.app X) (by decide) (by unfold maxBytes; omega) (by omega) hne
    simp only [n16, r16, happ, hl, SB, Nat.reduceLT, callee, aOp, ne_eq, Nat.reduceEqDiff, aBin, aUn, if_true, if_false, reduceCtorEq, frame0, place, notTuple, Nat.reduceAdd, Nat.reduceLeDiff, resVal, dite_true, dite_false, Int.reduceEq, Int.reduceLT, Int.reduceLE]
    refine key (H.length + 4) (H.length + 3) _ _ _ (by simp only [upd_same, upd_ne, ne_eq, Nat.reduceEqDiff, not_false_eq_true, frame0, List.getD_cons_zero, List.getD_cons_succ]) (by simp only [upd_same, upd_ne, ne_eq, Nat.reduceEqDiff, not_false_eq_true, frame0, List.getD_cons_zero, List.getD_cons_succ]) (by simp only [upd_same, upd_ne, ne_eq, Nat.reduceEqDiff, not_false_eq_true, frame0, List.getD_cons_zero, List.getD_cons_succ]) (by simp only [upd_same, upd_ne, ne_eq, Nat.reduceEqDiff, not_false_eq_true, frame0, List.getD_cons_zero, List.getD_cons_succ]) (by simp only [upd_same, upd_ne, ne_eq, Nat.reduceEqDiff, not_false_eq_true, frame0, List.getD_cons_zero, List.getD_cons_succ]) (by rw [hget_new0]; rfl) (by rw [hget_new]; rfl) (by omega) (by rw [hget_new]; rfl) (fun _ => by rw [hget_new]; rfl) (by omega) (by omega)
end Go.Proofs.Ytdddehniepofmaa.Fn
namespace Go.Proofs.Ytdddehniepofmaa.Fn
open Go.AM Go.AM.Sym
set_option maxRecDepth 100000
set_option linter.unusedVariables false
set_option linter.unusedSimpArgs false
set_option maxHeartbeats 4000000

def byteN (n i : Nat) : UInt8 := UInt8.ofNat (n / 2 ^ (24 - 8 * i))
def putN (l : List UInt8) (at' n : Nat) : Nat → List UInt8
  | 0 => l
  | i + 1 => (putN l at' n i).set (at' + i) (byteN n i)
theorem putN_len {l : List UInt8} {at' n : Nat} : ∀ i, (putN l at' n i).length = l.length
  | 0 => rfl
  | i + 1 => by rw [putN, List.length_set, putN_len i]
theorem byte_val {n i : Nat} (hi : i < 4) : Value.int .u8 (IntKind.u8.wrap (Int.fdiv (n : Int) (2 ^ min (24 - 8 * i) IntKind.i64.bits))) = u8 (byteN n i) := by
  have e : Int.fdiv (n : Int) (2 ^ min (24 - 8 * i) IntKind.i64.bits) = ((n / 2 ^ (24 - 8 * i) : Nat) : Int) := by
    rw [show min (24 - 8 * i) IntKind.i64.bits = 24 - 8 * i from Nat.min_eq_left (by show 24 - 8 * i ≤ 64; omega), Int.fdiv_eq_ediv_of_nonneg _ (by exact_mod_cast Nat.zero_le _)]
    norm_cast
  rw [e]
  simp only [u8, byteN, Value.int.injEq, true_and, UInt8.toNat_ofNat']
  simp only [IntKind.wrap, IntKind.bits, IntKind.signed]
  simp
theorem map_set_u8 {l : List UInt8} {i : Nat} {b : UInt8} : (l.set i b).map u8 = (l.map u8).set i (u8 b) := List.map_set
theorem put_ok {lim R at' n : Nat} {l : List UInt8} {H : Heap} {Q : Value → Heap → Prop} (hR : hget H R = .cells false (l.map u8)) (hl : l.length = 32) (hlim : lim ≤ R) (hat : at' + 4 ≤ 32)
    (hQ : ∀ H', Chg [R] H H' → H'.length = H.length → hget H' R = .cells false ((putN l at' n 4).map u8) → Q (.tuple #[]) (H' ++ [])) :
    CallR E false lim 53 [.pointer (some ⟨R, 0, none⟩), .int .i64 (at' : Int), .int .i64 (n : Int)] H Q := by
  refine runs (by decide) e53 rfl ?_
  rw [b53, c53]
  simp only [n53, r53, SB, Nat.reduceLT, callee, aOp, ne_eq, Nat.reduceEqDiff, aBin, aUn, if_true, if_false, reduceCtorEq, frame0, place, notTuple, Nat.reduceAdd, Nat.reduceLeDiff, resVal, dite_true, dite_false, Int.reduceEq, Int.reduceLT, Int.reduceLE]
  have hRl := hget_alive hR
  refine Ret_rounds (fun i => 4 - i) (fun i fr G => i ≤ 4 ∧ fr 0 = .pointer (some ⟨R, 0, none⟩) ∧ fr 1 = .int .i64 (at' : Int) ∧ fr 2 = .int .i64 (n : Int) ∧ fr 7 = .int .i64 (i : Int) ∧ Chg [R] H G ∧ G.length = H.length ∧ hget G R = .cells false ((putN l at' n i).map u8)) 0
    ⟨Nat.zero_le _, (by simp only [upd_same, upd_ne, ne_eq, Nat.reduceEqDiff, not_false_eq_true, frame0, List.getD_cons_zero, List.getD_cons_succ]), (by simp only [upd_same, upd_ne, ne_eq, Nat.reduceEqDiff, not_false_eq_true, frame0, List.getD_cons_zero, List.getD_cons_succ]), (by simp only [upd_same, upd_ne, ne_eq, Nat.reduceEqDiff, not_false_eq_true, frame0, List.getD_cons_zero, List.getD_cons_succ]), by rfl, by rw [List.append_nil]; exact Chg.refl, by simp, by rw [List.append_nil]; exact hR⟩ ?_
  intro i fr G ⟨hi, g0, g1, g2, g7, hC, hlG, hg⟩ hN
  rw [Ret_code l53_1.eq_1]
  refine Ret_pad ?_
  by_cases hlt : i < 4
  · have hlt' : (i : Int) < 4 := by omega
    have hw1 : IntKind.i64.wrap ((i : Int) + 1) = ((i + 1 : Nat) : Int) := wrap_nat (by omega)
    have wa : IntKind.i64.wrap ((at' : Int) + (i : Int)) = ((at' + i : Nat) : Int) := by rw [wrap_id (by omega) (by omega)]; omega
    have w8 : IntKind.i64.wrap (8 * (i : Int)) = ((8 * i : Nat) : Int) := by rw [wrap_id (by omega) (by omega)]; omega
    have w24 : IntKind.i64.wrap (24 - ((8 * i : Nat) : Int)) = ((24 - 8 * i : Nat) : Int) := by rw [wrap_id (by omega) (by omega)]; omega
    have hb := byte_val (n := n) hlt
    obtain ⟨G', hset, hG', hm⟩ := mut_set (hget_alive hg) (.cells false ((putN l at' n (i + 1)).map u8))
    have hgX := fun X => (Ext.refl.app (X := X)).cells hg
    have hpl : ((putN l at' n i).map u8).length = 32 := by rw [List.length_map, putN_len, hl]
    have hin : ((at' + i : Nat) : Int) < 32 := by omega
    have h32 : at' + (i + 1) ≤ 32 := by omega
    have hset' : ((putN l at' n i).map u8).set (at' + i) (u8 (byteN n i)) = (putN l at' n (i + 1)).map u8 := by rw [putN, map_set_u8]
    have hb' : IntKind.u8.wrap (Int.fdiv (n : Int) (2 ^ min (24 - 8 * i) IntKind.i64.bits)) = ((byteN n i).toNat : Int) := by
      simpa only [u8, Value.int.injEq, true_and] using hb
    have hset2 : ((putN l at' n i).map u8).set (at' + i) (.int .u8 (byteN n i).toNat) = (putN l at' n (i + 1)).map u8 := hset'
    simp only [n53, r53, g0, g1, g2, g7, hlt', hw1, wa, w8, w24, hb', hgX, hin, Nat.mul_one, hpl, h32, hset2, hset, hlim, nat_nn, SB, Nat.reduceLT, callee, aOp, ne_eq, Nat.reduceEqDiff, aBin, aUn, if_true, if_false, reduceCtorEq, frame0, place, notTuple, Nat.reduceAdd, Nat.reduceLeDiff, resVal, dite_true, dite_false, Int.reduceEq, Int.reduceLT, Int.reduceLE]
    exact hN (i + 1) _ _ ⟨by omega, (by simp only [g0, upd_same, upd_ne, ne_eq, Nat.reduceEqDiff, not_false_eq_true, frame0, List.getD_cons_zero, List.getD_cons_succ]), (by simp only [g1, upd_same, upd_ne, ne_eq, Nat.reduceEqDiff, not_false_eq_true, frame0, List.getD_cons_zero, List.getD_cons_succ]), (by simp only [g2, upd_same, upd_ne, ne_eq, Nat.reduceEqDiff, not_false_eq_true, frame0, List.getD_cons_zero, List.getD_cons_succ]), (by simp only [upd_same, upd_ne, ne_eq, Nat.reduceEqDiff, not_false_eq_true, frame0, List.getD_cons_zero, List.getD_cons_succ]), (hC.mut hm (.inl (by simp))).app, by simp [hm.len, hlG], (Ext.refl.app).cells hG'⟩ (by omega)
  obtain rfl : i = 4 := by omega
  simp only [n53, r53, g0, g1, g2, g7, SB, Nat.reduceLT, callee, aOp, ne_eq, Nat.reduceEqDiff, aBin, aUn, if_true, if_false, reduceCtorEq, frame0, place, notTuple, Nat.reduceAdd, Nat.reduceLeDiff, resVal, dite_true, dite_false, Int.reduceEq, Int.reduceLT, Int.reduceLE]
  exact hQ G hC hlG hg

/-- The pieces of a record: flags, bytes. -/
def pcsGo : Nat → Nat → List UInt8 → List (Nat × List UInt8)
  | 0, _, _ => []
  | f + 1, fl, b => if b.length ≤ 18 then [(fl + 2, b)] else (fl, b.take 18) :: pcsGo f 0 (b.drop 18)
def pcs (b : List UInt8) : List (Nat × List UInt8) := pcsGo (b.length + 1) 1 b
theorem pcsGo_fuel : ∀ (f g fl : Nat) (b : List UInt8), b.length < f → b.length < g → pcsGo f fl b = pcsGo g fl b
  | 0, g, fl, b, h, _ => by omega
  | f + 1, 0, fl, b, _, h => by omega
  | f + 1, g + 1, fl, b, h1, h2 => by
    simp only [pcsGo]
    split
    · rfl
    · rw [pcsGo_fuel f g 0 (b.drop 18) (by simp; omega) (by simp; omega)]
/-- A sector with a piece. -/
def psec (x : Nat × List UInt8) : List UInt8 := (List.replicate 12 0 ++ [UInt8.ofNat x.1, UInt8.ofNat x.2.length]) ++ x.2 ++ List.replicate (18 - x.2.length) 0
theorem psec_len {x : Nat × List UInt8} (h : x.2.length ≤ 18) : (psec x).length = 32 := by simp [psec]; omega
theorem or2 {f : Nat} (h : f ≤ 1) : IntKind.u8.wrap ((BitVec.ofInt IntKind.u8.bits (f : Int) ||| BitVec.ofInt IntKind.u8.bits 2).toNat : Int) = ((f + 2 : Nat) : Int) := by
  rcases (show f = 0 ∨ f = 1 by omega) with rfl | rfl <;> decide
theorem min18 {n : Nat} : aMinMaxAll false (.int .i64 (n : Int)) [.int .i64 18] = some (.int .i64 ((min n 18 : Nat) : Int)) := by
  simp only [aMinMaxAll, aMinMax, if_true, Bool.false_eq_true, if_false]
  split
  · rw [Nat.min_eq_right (by omega)]; rfl
  · rw [Nat.min_eq_left (by omega)]
/-- A piece's bytes are laid into its sector. -/
theorem piece_copy {lim R c f : Nat} {p : Option Addr} {b : List UInt8} {H : Heap} (hs : Sl H encb 1 p b) (hz : b = [] → p = none) (hb : b.length ≤ 18) (hf : f ≤ 3) (hR : hget H R = .cells false ((List.replicate 12 (Value.int .u8 0) ++ [Value.int .u8 (f : Int), Value.int .u8 (b.length : Int)]) ++ List.replicate 18 (.int .u8 0))) (hlim : lim ≤ R) :
    copyV lim 1 (.slice (some ⟨R, 14, none⟩) 18 18) (.slice p b.length c) H = some (.int .i64 ((b.length : Nat) : Int), H.set R (.cells false ((psec (f, b)).map u8))) := by
  have hRl := hget_alive hR
  have hpre : (List.replicate 12 (Value.int .u8 0) ++ [Value.int .u8 (f : Int), Value.int .u8 (b.length : Int)]) = (List.replicate 12 0 ++ [UInt8.ofNat f, UInt8.ofNat b.length]).map u8 := by
    rw [List.map_append, ← zeros_u8]
    simp only [List.map_cons, List.map_nil, u8]
    rw [UInt8.toNat_ofNat_of_lt' (by show f < 256; omega), UInt8.toNat_ofNat_of_lt' (by show b.length < 256; omega)]
  have em : b.flatMap encb = b.map u8 := by
    clear hs hz hb hR hpre
    induction b with
    | nil => rfl
    | cons x l ih => rw [List.map_cons, List.flatMap_cons, ih]; rfl
  have hst := setAll_mid (b.map u8) ((List.replicate 12 0 ++ [UInt8.ofNat f, UInt8.ofNat b.length]).map u8) (List.replicate b.length (.int .u8 0)) (List.replicate (18 - b.length) (.int .u8 0)) (by simp)
  rw [List.append_assoc, List.replicate_append_replicate, show b.length + (18 - b.length) = 18 by omega, ← hpre] at hst
  have hl14 : (List.replicate 12 (Value.int .u8 0) ++ [Value.int .u8 (f : Int), Value.int .u8 (b.length : Int)]).length = 14 := by simp
  rw [hl14] at hst
  have hps : (psec (f, b)).map u8 = (List.replicate 12 (Value.int .u8 0) ++ [Value.int .u8 (f : Int), Value.int .u8 (b.length : Int)]) ++ b.map u8 ++ List.replicate (18 - b.length) (.int .u8 0) := by
    unfold psec
    rw [List.map_append, List.map_append, ← hpre, ← zeros_u8]
  simp only [copyV, lenOf, Nat.min_eq_left hb]
  by_cases hn : b = []
  · subst hn
    rw [hz rfl]
    have hps0 : (psec (f, [])).map u8 = (List.replicate 12 (Value.int .u8 0) ++ [Value.int .u8 (f : Int), Value.int .u8 (([] : List UInt8).length : Int)]) ++ List.replicate 18 (.int .u8 0) := by rw [hps]; simp
    have hset : H.set R (.cells false ((psec (f, [])).map u8)) = H := by
      rw [hps0, ← hR]
      apply List.ext_getElem (by simp)
      intro i h1 h2
      rw [List.getElem_set]
      split
      · rename_i h; subst h
        have := hget_lt h2
        rw [List.getElem?_eq_getElem h2] at this
        exact (Option.some.inj this).symm
      · rfl
    rw [hset]
    simp [copyCells]
  · obtain ⟨a', rfl, e2⟩ := hs.cells hn
    have h0 : ¬ b.length = 0 := fun h => hn (List.length_eq_zero_iff.1 h)
    rw [em] at e2
    simp only [copyCells, e2, h0, if_false, storeAt_lit, hR]
    rw [if_pos ⟨hlim, by simp; omega⟩, hst, hps]
    rfl

theorem piece_base {f n : Nat} : ((((List.replicate 32 (Value.int .u8 0)).set 12 (.int .u8 (f : Int))).set 13 (.int .u8 (n : Int)))) = (List.replicate 12 (Value.int .u8 0) ++ [Value.int .u8 (f : Int), Value.int .u8 (n : Int)]) ++ List.replicate 18 (.int .u8 0) := rfl
/-- The iterator: each piece is handed to the round, which keeps I. -/
theorem pieces_rule {lim Y Bx c : Nat} {p : Option Addr} {b : List UInt8} {H : Heap} {Q : Value → Heap → Prop} (I : List (Nat × List UInt8) → Heap → Prop) (K : List Nat)
    (hI : ∀ rest H H', I rest H → Chg [Bx] H H' → I rest H')
    (hround : ∀ x rest H, x.2.length ≤ 18 → x.1 ≤ 3 → I (x :: rest) H → CallY E false lim Y [.agg ((psec x).map u8).toArray] H fun v H' => v = .bool true ∧ I rest H' ∧ H.length ≤ H'.length ∧ ∀ j ∈ K, hget H' j = hget H j)
    (hBx : hget H Bx = .cells false [.slice p b.length c]) (hlim : lim ≤ Bx) (hK : Bx ∈ K) (hs : Sl H encb 1 p b) (hc : CapOk 1 c b.length) (hz : b = [] → p = none) (hp : ∀ a, p = some a → b ≠ [] → a.block ∈ K ∧ a.block ≠ Bx) (hb : b.length < 2 ^ 40)
    (h0 : I (pcs b) H) (hQ : ∀ H', I [] H' → Q (.tuple #[]) H') :
    CallR E false lim 60 [.func (.yield Y) #[] #[], .pointer (some ⟨Bx, 0, none⟩)] H Q := by
  refine runs (by decide) e60 rfl ?_
  rw [b60, c60]
  simp only [n60, r60, SB, Nat.reduceLT, callee, aOp, ne_eq, Nat.reduceEqDiff, aBin, aUn, if_true, if_false, reduceCtorEq, frame0, place, notTuple, Nat.reduceAdd, Nat.reduceLeDiff, resVal, dite_true, dite_false, Int.reduceEq, Int.reduceLT, Int.reduceLE]
  refine Ret_rounds (fun s : (Option Addr × Nat × List UInt8) × Nat × Nat => s.1.2.2.length) (fun s fr G => fr 0 = .func (.yield Y) #[] #[] ∧ fr 1 = .pointer (some ⟨Bx, 0, none⟩) ∧ fr 3 = .int .u8 (s.2.1 : Int) ∧ s.2.1 ≤ 1 ∧ hget G Bx = .cells false [.slice s.1.1 s.1.2.2.length s.1.2.1] ∧ Sl G encb 1 s.1.1 s.1.2.2 ∧ CapOk 1 s.1.2.1 s.1.2.2.length ∧ (s.1.2.2 = [] → s.1.1 = none) ∧
      (∀ a, s.1.1 = some a → s.1.2.2 ≠ [] → a.block ∈ K ∧ a.block ≠ Bx) ∧ s.1.2.2.length < s.2.2 ∧ s.1.2.2.length ≤ b.length ∧ I (pcsGo s.2.2 s.2.1 s.1.2.2) G) ((p, c, b), 1, b.length + 1)
    ⟨(by simp only [upd_same, upd_ne, ne_eq, Nat.reduceEqDiff, not_false_eq_true, frame0, List.getD_cons_zero, List.getD_cons_succ]), (by simp only [upd_same, upd_ne, ne_eq, Nat.reduceEqDiff, not_false_eq_true, frame0, List.getD_cons_zero, List.getD_cons_succ]), by rfl, Nat.le_refl _, (Ext.refl.app).cells hBx, hs.app _, hc, hz, hp, Nat.lt_succ_self _, Nat.le_refl _, hI _ _ _ h0 (Chg.refl.app)⟩ ?_
  rintro ⟨⟨p, c, r⟩, f, fuel⟩ fr G ⟨g0, g1, g3, hf, gB, hS, hcap, hz, hp, hfu, hrb, hi⟩ hN
  simp only at g3 hf gB hS hcap hz hp hfu hrb hi
  rw [Ret_code l60_1.eq_1]
  refine Ret_pad ?_
  have gBX := fun X => (Ext.refl.app (X := X)).cells gB
  have hBl := hget_alive gB
  have hlG : lim ≤ G.length := by omega
  obtain ⟨fu, rfl⟩ : ∃ fu, fuel = fu + 1 := ⟨fuel - 1, by omega⟩
  simp only [pcsGo] at hi
  have wn : ∀ k : Nat, k ≤ 18 → IntKind.u8.wrap (k : Int) = (k : Int) := fun k hk => by
    simp only [IntKind.wrap, IntKind.bits, IntKind.signed]
    simp; omega
  have zz : [Value.int .u8 0, Value.int .u8 0, Value.int .u8 0, Value.int .u8 0, Value.int .u8 0, Value.int .u8 0, Value.int .u8 0, Value.int .u8 0, Value.int .u8 0, Value.int .u8 0, Value.int .u8 0, Value.int .u8 0, Value.int .u8 0, Value.int .u8 0, Value.int .u8 0, Value.int .u8 0, Value.int .u8 0, Value.int .u8 0, Value.int .u8 0, Value.int .u8 0, Value.int .u8 0, Value.int .u8 0, Value.int .u8 0, Value.int .u8 0, Value.int .u8 0, Value.int .u8 0, Value.int .u8 0, Value.int .u8 0, Value.int .u8 0, Value.int .u8 0, Value.int .u8 0, Value.int .u8 0] = List.replicate 32 (Value.int .u8 0) := rfl
  have s14 : ∀ b : Nat, sliceAV 32 1 (.pointer (some ⟨b, 0, none⟩)) (some (.int .i64 14)) none none = some (.slice (some ⟨b, 14, none⟩) 18 18) := fun b => by
    have := sliceAV_cut (n := 32) (e := 1) (a := ⟨b, 0, none⟩) (lo := 14) (hi := 32) (vlo := some (.int .i64 14)) (vhi := none) (by rw [bv_100 (by decide) (by decide)]; rfl) (by decide) (by decide)
    rw [this]; simp [addr_add]
  by_cases hle : r.length ≤ 18
  · rw [if_pos hle] at hi
    have hm : min r.length 18 = r.length := Nat.min_eq_left hle
    obtain ⟨q, cq, e1, s1, _, m1, _⟩ := slice_cut (vlo := none) (vhi := some (.int .i64 (r.length : Int))) (lo := 0) (hi := r.length) hS hcap encb_len (fun cap hcap => by rw [bv_010 (by omega) (by omega), Int.toNat_natCast]) (Nat.zero_le _) (Nat.le_refl _) (by omega)
    rw [Nat.sub_zero] at e1
    rw [List.take_length, List.drop_zero] at s1
    have hcp := piece_copy (lim := lim) (R := G.length) (c := cq) (f := f + 2) (H := G ++ [.cells false ((List.replicate 12 (Value.int .u8 0) ++ [Value.int .u8 ((f + 2 : Nat) : Int), Value.int .u8 (r.length : Int)]) ++ List.replicate 18 (.int .u8 0))]) (s1.app _) (fun h => by
      cases hq : q with
      | none => rfl
      | some a => obtain ⟨a', h1, _⟩ := m1 a hq; rw [hz h] at h1; cases h1) hle (by omega) (by rw [hget_new0]; rfl) hlG
    rw [set_new0, List.set_cons_zero] at hcp
    simp only [List.append_assoc, List.cons_append, List.nil_append] at hcp
    have hpl : ((psec (f + 2, r)).map u8).length = 32 := by rw [List.length_map]; exact psec_len hle
    simp only [n60, r60, g0, g1, g3, gBX, min18, hm, zz, s14, decide_true, Nat.mul_one, Int.reduceToNat, List.length_replicate, List.length_set, piece_base, take_all, hlG, or2 hf, wn _ hle, e1, hcp, hpl, SB, Nat.reduceLT, callee, aOp, ne_eq, Nat.reduceEqDiff, aBin, aUn, if_true, if_false, reduceCtorEq, frame0, place, notTuple, Nat.reduceAdd, Nat.reduceLeDiff, resVal, dite_true, dite_false, Int.reduceEq, Int.reduceLT, Int.reduceLE]
    refine (hround (f + 2, r) [] _ hle (by show f + 2 ≤ 3; omega) (hI _ _ _ hi Chg.refl.app)).mono fun v H' hv => ?_
    obtain ⟨rfl, hi', hl', hk⟩ := hv
    have gB' := fun X => (Ext.refl.app (X := X)).cells ((hk Bx hK).trans (gBX _))
    refine Ret_pad ?_
    simp only [n60, r60, g0, g1, g3, gBX, min18, hm, zz, s14, decide_true, Nat.mul_one, Int.reduceToNat, List.length_replicate, List.length_set, piece_base, take_all, hlG, gB', SB, Nat.reduceLT, callee, aOp, ne_eq, Nat.reduceEqDiff, aBin, aUn, if_true, if_false, reduceCtorEq, frame0, place, notTuple, Nat.reduceAdd, Nat.reduceLeDiff, resVal, dite_true, dite_false, Int.reduceEq, Int.reduceLT, Int.reduceLE]
    exact hQ _ (hI _ _ _ hi' Chg.refl.app)
  · rw [if_neg hle] at hi
    have hm : min r.length 18 = 18 := Nat.min_eq_right (by omega)
    have hne : ((18 : Int) = (r.length : Int)) = False := eq_false (by omega)
    have w18 : IntKind.u8.wrap 18 = 18 := by decide
    have l18 : (r.take 18).length = 18 := by simp; omega
    have rne : r ≠ [] := by rintro rfl; simp at hle
    obtain ⟨q, cq, e1, s1, _, m1, _⟩ := slice_cut (vlo := none) (vhi := some (.int .i64 18)) (lo := 0) (hi := 18) hS hcap encb_len (fun cap hcap => by rw [bv_010 (by decide) (by omega)]; rfl) (Nat.zero_le _) (by omega) (by omega)
    rw [Nat.sub_zero] at e1
    rw [List.drop_zero] at s1
    have hcp := piece_copy (lim := lim) (R := G.length) (c := cq) (f := f) (H := G ++ [.cells false ((List.replicate 12 (Value.int .u8 0) ++ [Value.int .u8 (f : Int), Value.int .u8 ((r.take 18).length : Int)]) ++ List.replicate 18 (.int .u8 0))]) (s1.app _) (fun h => by rw [h] at l18; simp at l18) (by omega) (by omega) (by rw [hget_new0]; rfl) hlG
    rw [set_new0, List.set_cons_zero, l18] at hcp
    have hpl : ((psec (f, r.take 18)).map u8).length = 32 := by rw [List.length_map]; exact psec_len (by show (r.take 18).length ≤ 18; omega)
    have pb : ((((List.replicate 32 (Value.int .u8 0)).set 12 (.int .u8 (f : Int))).set 13 (.int .u8 18))) = (List.replicate 12 (Value.int .u8 0) ++ [Value.int .u8 (f : Int), Value.int .u8 ((18 : Nat) : Int)]) ++ List.replicate 18 (.int .u8 0) := rfl
    have ct : ((18 : Nat) : Int) = 18 := rfl
    rw [ct] at pb hcp
    simp only [List.append_assoc, List.cons_append, List.nil_append] at hcp
    obtain ⟨q2, c2, e2, s2, k2, m2, _⟩ := slice_cut (vlo := some (.int .i64 18)) (vhi := none) (lo := 18) (hi := r.length) hS hcap encb_len (fun cap hcap => by rw [bv_100 (by decide) (by omega)]; rfl) (by omega) (Nat.le_refl _) (by omega)
    rw [List.take_length] at s2
    have ld : (r.drop 18).length = r.length - 18 := by simp
    simp only [n60, r60, g0, g1, g3, gBX, min18, hm, zz, s14, decide_true, Nat.mul_one, Int.reduceToNat, List.length_replicate, List.length_set, piece_base, take_all, hlG, hne, w18, e1, pb, hcp, hpl, SB, Nat.reduceLT, callee, aOp, ne_eq, Nat.reduceEqDiff, aBin, aUn, if_true, if_false, reduceCtorEq, frame0, place, notTuple, Nat.reduceAdd, Nat.reduceLeDiff, resVal, dite_true, dite_false, Int.reduceEq, Int.reduceLT, Int.reduceLE]
    refine (hround (f, r.take 18) (pcsGo fu 0 (r.drop 18)) _ (by show (r.take 18).length ≤ 18; omega) (by show f ≤ 3; omega) (hI _ _ _ hi Chg.refl.app)).mono fun v H' hv => ?_
    obtain ⟨rfl, hi', hl', hk⟩ := hv
    have gB1 := (hk Bx hK).trans (gBX _)
    have gB' := fun X => (Ext.refl.app (X := X)).cells gB1
    obtain ⟨G3, hset, hG3, hm3⟩ := mut_set (hget_alive gB1) (.cells false [.slice q2 (r.drop 18).length c2])
    refine Ret_pad ?_
    rw [← ld] at e2
    simp only [List.length_append, List.length_cons, List.length_nil] at hl'
    simp only [n60, r60, g0, g1, g3, gBX, min18, hm, zz, s14, decide_true, Nat.mul_one, Int.reduceToNat, List.length_replicate, List.length_set, piece_base, take_all, hlG, hne, gB', e2, hset, hlim, SB, Nat.reduceLT, callee, aOp, ne_eq, Nat.reduceEqDiff, aBin, aUn, if_true, if_false, reduceCtorEq, frame0, place, notTuple, Nat.reduceAdd, Nat.reduceLeDiff, resVal, dite_true, dite_false, Int.reduceEq, Int.reduceLT, Int.reduceLE]
    have pK : ∀ a, q2 = some a → a.block ∈ K ∧ a.block ≠ Bx := fun a e => by
      obtain ⟨a', h1, h2⟩ := m2 a e
      rw [h2]; exact hp a' h1 rne
    have bl : ∀ a, q2 = some a → a.block < G.length := fun a e => by
      obtain ⟨a', h1, h2⟩ := m2 a e
      rw [h2]; exact (h1 ▸ hS).lt rne
    refine hN ((q2, c2, r.drop 18), 0, fu) _ _ ⟨(by simp only [g0, upd_same, upd_ne, ne_eq, Nat.reduceEqDiff, not_false_eq_true, frame0, List.getD_cons_zero, List.getD_cons_succ]), (by simp only [g1, upd_same, upd_ne, ne_eq, Nat.reduceEqDiff, not_false_eq_true, frame0, List.getD_cons_zero, List.getD_cons_succ]), by rfl, Nat.zero_le _, (Ext.refl.app).cells hG3, ?_, ?_, ?_, fun a e _ => pK a e, ?_, ?_, ?_⟩ ?_
    · show Sl (G3 ++ []) encb 1 q2 (r.drop 18)
      refine Sl.app (s2.same fun a e hn => ?_) _
      rw [hm3.other _ (pK a e).2, hk _ (pK a e).1, hget_old (bl a e)]
    · show CapOk 1 c2 (r.drop 18).length
      rw [ld]; exact k2
    · intro h
      have : (r.drop 18).length = 0 := by rw [show r.drop 18 = [] from h]; rfl
      omega
    · show (r.drop 18).length < fu; omega
    · show (r.drop 18).length ≤ b.length; omega
    · show I (pcsGo fu 0 (r.drop 18)) (G3 ++ [])
      exact hI _ _ _ hi' ((Chg.refl.mut hm3 (.inl (by simp))).app)
    · show (r.drop 18).length < r.length
      omega
end Go.Proofs.Ytdddehniepofmaa.Fn
