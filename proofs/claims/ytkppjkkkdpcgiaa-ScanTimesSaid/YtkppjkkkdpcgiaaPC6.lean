/-
  Joined texts, 6 of 9. A part of the claim that the last text states.
-/
import Derived.ProofKit
import Derived.Deep.Slices
import Derived.OpenShut
import Derived.Test.YtkppjkkkdpcgiaaPC5
set_option linter.unusedVariables false
set_option linter.unusedSimpArgs false
namespace Go.AM
open Go.ChangeShapes Go.WideShapes Go.ChangeAt Go.RowKit
inductive Ty where
  | int (k : IntKind) | bool | str | slice (t : Ty) | arr (n : Nat) (t : Ty) | nil | pair (a b : Ty)
def Ty.size : Ty → Nat
  | .nil => 0
  | .arr n t => n * t.size
  | .pair a b => a.size + b.size
  | _ => 1
abbrev Ty.den : Ty → Type
  | .int _ => Int
  | .bool => Bool
  | .str => ByteArray
  | .slice t => List t.den
  | .arr _ t => List t.den
  | .nil => Unit
  | .pair a b => a.den × b.den
def Rep : (t : Ty) → Heap → t.den → List Value → Prop
  | .int k, _, n, cs => cs = [.int k n] ∧ k.min ≤ n ∧ n ≤ k.max
  | .bool, _, b, cs => cs = [.bool b]
  | .str, _, s, cs => cs = [.string s] ∧ s.size ≤ maxLen
  | .slice t, H, l, cs => l.length ≤ maxLen ∧ ∃ p cap, cs = [.slice p l.length cap] ∧ (p = none → l = [] ∧ cap = 0) ∧
      ∀ a, p = some a → a.spot = none ∧ a.off = 0 ∧ cap = loose t.size ∧ (l ≠ [] → ∃ es : List (List Value), hget H a.block = .cells true es.flatten ∧ es.length = l.length ∧ ∀ (i : Nat) x e, l[i]? = some x → es[i]? = some e → Rep t H x e)
  | .arr n t, H, l, cs => ∃ es : List (List Value), cs = es.flatten ∧ es.length = n ∧ l.length = n ∧ ∀ (i : Nat) x e, l[i]? = some x → es[i]? = some e → Rep t H x e
  | .nil, _, _, cs => cs = []
  | .pair a b, H, x, cs => ∃ c1 c2, cs = c1 ++ c2 ∧ Rep a H x.1 c1 ∧ Rep b H x.2 c2
theorem Rep.app : ∀ {t : Ty} {H : Heap} {x : t.den} {cs : List Value} (_ : Rep t H x cs) (X : Heap), Rep t (H ++ X) x cs
  | .int _, _, _, _, h, _ => h
  | .bool, _, _, _, h, _ => h
  | .str, _, _, _, h, _ => h
  | .nil, _, _, _, h, _ => h
  | .pair a b, _, _, _, ⟨c1, c2, e, h1, h2⟩, X => ⟨c1, c2, e, h1.app X, h2.app X⟩
  | .arr n t, H, l, cs, ⟨es, e, h1, h2, h3⟩, X => ⟨es, e, h1, h2, fun i x c hx hc => (h3 i x c hx hc).app X⟩
  | .slice t, H, l, cs, ⟨h0, p, cap, e, h1, h2⟩, X => by
    refine ⟨h0, p, cap, e, h1, fun a ha => ?_⟩
    obtain ⟨k1, k2, k3, k4⟩ := h2 a ha
    refine ⟨k1, k2, k3, fun hl => ?_⟩
    obtain ⟨es, m1, m2, m3⟩ := k4 hl
    exact ⟨es, by rw [hget_old (hget_alive m1)]; exact m1, m2, fun i x e hx he => (m3 i x e hx he).app X⟩
theorem flatten_len {k : Nat} : ∀ {es : List (List Value)}, (∀ e ∈ es, e.length = k) → es.flatten.length = es.length * k
  | [], _ => by simp
  | e :: es, h => by
    rw [List.flatten_cons, List.length_append, h e (by simp), flatten_len (fun x hx => h x (by simp [hx])), List.length_cons, Nat.succ_mul]; omega
theorem Rep.len : ∀ {t : Ty} {H : Heap} {x : t.den} {cs : List Value} (_ : Rep t H x cs), cs.length = t.size
  | .int _, _, _, _, h => by rw [h.1]; rfl
  | .bool, _, _, _, h => by simp only [Rep] at h; rw [h]; rfl
  | .str, _, _, _, h => by rw [h.1]; rfl
  | .nil, _, _, _, h => by simp only [Rep] at h; rw [h]; rfl
  | .pair a b, _, _, _, ⟨c1, c2, e, h1, h2⟩ => by rw [e, List.length_append, h1.len, h2.len]; rfl
  | .slice t, H, l, cs, ⟨h0, p, cap, e, h1, h2⟩ => by rw [e]; rfl
  | .arr n t, H, l, cs, ⟨es, e, h1, h2, h3⟩ => by
    rw [e, flatten_len (k := t.size), h1]; · rfl
    intro c hc
    obtain ⟨i, hi, rfl⟩ := List.mem_iff_getElem.1 hc
    exact (h3 i _ _ (List.getElem?_eq_getElem (by omega)) (List.getElem?_eq_getElem hi)).len
section
variable {w : World} {Pg : Prg} {W : Nat → Prop} {lim : Nat}
def NoOwn (H : Heap) : Prop := ∀ (i : Nat) b, H[i]? = some b → owned b = false
theorem NoOwn.snoc {H : Heap} (h : NoOwn H) {b : Blk} (hb : owned b = false) : NoOwn (H ++ [b]) := by
  intro i x hx
  by_cases hi : i < H.length
  · rw [List.getElem?_append_left hi] at hx; exact h i x hx
  · rw [List.getElem?_append_right (by omega)] at hx
    have := (List.getElem?_eq_some_iff.1 hx).1
    have e : i - H.length = 0 := by simp at this; omega
    rw [e] at hx; simp at hx; subst hx; exact hb
def Opens (Pg : Prg) (W : Nat → Prop) (lim : Nat) (w : World) (t : Ty) (cs : List Value) : Prop :=
  ∀ σ H, Inv Pg W lim σ H w → NoOwn H → ∃ X σ' as x, Inv Pg W lim σ' (H ++ X) w ∧ NoOwn (H ++ X) ∧ Sig.le σ σ' ∧ LRel σ' as cs ∧ Rep t (H ++ X) x as ∧ ∀ v ∈ cs, v.oneCell' = true
theorem Opens.atom1 {t : Ty} {v : Value} {x : t.den} (hv : atom v = true) (ho : v.oneCell' = true) (hr : ∀ H, Rep t H x [v]) : Opens Pg W lim w t [v] := fun σ H h hn =>
  ⟨[], σ, [v], x, by simpa using h, by simpa using hn, Sig.le_refl _, LRel.cons (.atom hv) LRel.nil, hr _, fun u hu => by simp at hu; subst hu; exact ho⟩
theorem Opens.int {k : IntKind} {n : Int} (h : (Lit.int k n).wf = true) : Opens Pg W lim w (.int k) [.int k n] := by
  refine Opens.atom1 (x := n) rfl rfl fun H => ⟨rfl, ?_⟩
  simpa [Lit.wf] using h
theorem Opens.bool {b : Bool} : Opens Pg W lim w .bool [.bool b] := Opens.atom1 (t := .bool) (x := b) rfl rfl fun H => rfl
theorem Opens.str {s : ByteArray} (h : s.size ≤ maxLen) : Opens Pg W lim w .str [.string s] := Opens.atom1 (t := .str) (x := s) rfl rfl fun H => ⟨rfl, h⟩
theorem Opens.nil : Opens Pg W lim w .nil [] := fun σ H h hn => ⟨[], σ, [], (), by simpa using h, by simpa using hn, Sig.le_refl _, LRel.nil, rfl, fun u hu => by simp at hu⟩
theorem Opens.pair {a b : Ty} {c1 c2 : List Value} (h1 : Opens Pg W lim w a c1) (h2 : Opens Pg W lim w b c2) : Opens Pg W lim w (.pair a b) (c1 ++ c2) := by
  intro σ H h hn
  obtain ⟨X, σ1, as, x, k1, k1', k2, k3, k4, k5⟩ := h1 σ H h hn
  obtain ⟨Y, σ2, bs, y, m1, m1', m2, m3, m4, m5⟩ := h2 σ1 _ k1 k1'
  refine ⟨X ++ Y, σ2, as ++ bs, (x, y), by rw [← List.append_assoc]; exact m1, by rw [← List.append_assoc]; exact m1', Sig.le_trans k2 m2, LRel.append (k3.mono m2) m3, ⟨as, bs, rfl, ?_, ?_⟩, fun v hv => ?_⟩
  · rw [← List.append_assoc]; exact k4.app Y
  · rw [← List.append_assoc]; exact m4
  · rcases List.mem_append.1 hv with hv | hv
    · exact k5 v hv
    · exact m5 v hv
def sigAt (σ : Sig) (n : Nat) (L : Loc) : Sig := fun i => if i = n then some L else σ i
theorem sigAt_same {σ : Sig} {n : Nat} {L : Loc} : sigAt σ n L n = some L := if_pos rfl
theorem sigAt_ne {σ : Sig} {n i : Nat} {L : Loc} (h : i ≠ n) : sigAt σ n L i = σ i := if_neg h
theorem Inv.snoc {σ : Sig} {H : Heap} (h : Inv Pg W lim σ H w) (hn : NoOwn H) (L : Loc) (b : Blk) (hb : owned b = false) (hr : BlkRel Pg (sigAt σ H.length L) w L b) :
    Inv Pg W lim (sigAt σ H.length L) (H ++ [b]) w ∧ Sig.le σ (sigAt σ H.length L) := by
  have hle : Sig.le σ (sigAt σ H.length L) := by
    intro i K hi
    have := h.lt hi
    rw [sigAt_ne (by omega)]; exact hi
  have hno := hn.snoc hb
  refine ⟨⟨?_, fun i j bi bj Li Lj hi hj hne ho => ?_, fun i x K hx ho => ?_, h.fresh, fun i hi => ?_⟩, hle⟩
  · intro i x hx ha
    by_cases hi : i < H.length
    · rw [List.getElem?_append_left hi] at hx
      obtain ⟨K, h1, h2⟩ := h.blk i x hx ha
      exact ⟨K, hle i K h1, h2.mono hle fun _ => rfl⟩
    · rw [List.getElem?_append_right (by omega)] at hx
      have := (List.getElem?_eq_some_iff.1 hx).1
      have e : i = H.length := by simp at this; omega
      subst e
      rw [Nat.sub_self] at hx; simp at hx; subst hx
      exact ⟨L, sigAt_same, hr⟩
  · rw [hno i bi hi] at ho; cases ho
  · rw [hno i x hx] at ho; cases ho
  · simp at hi
    rw [sigAt_ne (by omega)]
    exact h.dom i (by omega)
theorem opens_elems {t : Ty} {n : Nat} {cs : Nat → List Value} (hel : ∀ i, i < n → Opens Pg W lim w t (cs i)) {σ : Sig} {H : Heap} (h : Inv Pg W lim σ H w) (hn : NoOwn H) :
    ∃ X σ', ∃ es : List (List Value), ∃ xs : List t.den, Inv Pg W lim σ' (H ++ X) w ∧ NoOwn (H ++ X) ∧ Sig.le σ σ' ∧ es.length = n ∧ xs.length = n ∧
      ∀ (i : Nat) x e, xs[i]? = some x → es[i]? = some e → Rep t (H ++ X) x e ∧ LRel σ' e (cs i) ∧ ∀ v ∈ cs i, v.oneCell' = true := by
  induction n with
  | zero => exact ⟨[], σ, [], [], by simpa using h, by simpa using hn, Sig.le_refl _, rfl, rfl, fun i x e hx => by simp at hx⟩
  | succ n ih =>
    obtain ⟨X, σ1, es, xs, k1, k2, k3, k4, k5, k6⟩ := ih fun i hi => hel i (by omega)
    obtain ⟨Y, σ2, as, x, m1, m2, m3, m4, m5, m6⟩ := hel n (by omega) σ1 _ k1 k2
    refine ⟨X ++ Y, σ2, es ++ [as], xs ++ [x], by rw [← List.append_assoc]; exact m1, by rw [← List.append_assoc]; exact m2, Sig.le_trans k3 m3, by simp [k4], by simp [k5], fun i y e hy he => ?_⟩
    rw [← List.append_assoc]
    by_cases hi : i < n
    · rw [List.getElem?_append_left (by omega)] at hy he
      obtain ⟨q1, q2, q3⟩ := k6 i y e hy he
      exact ⟨q1.app Y, q2.mono m3, q3⟩
    · have hi' : i = n := by
        have := (List.getElem?_eq_some_iff.1 hy).1
        simp at this; omega
      subst hi'
      rw [List.getElem?_append_right (by omega), k5] at hy
      rw [List.getElem?_append_right (by omega), k4] at he
      simp at hy he
      subst hy he
      exact ⟨m5, m4, m6⟩
theorem flatten_at {e : Nat} : ∀ (es : List (List Value)), (∀ x ∈ es, x.length = e) → ∀ (j : Nat) v, es.flatten[j]? = some v → ∃ x, es[j / e]? = some x ∧ x[j % e]? = some v
  | [], _, j, v, h => by simp at h
  | x :: es, he, j, v, h => by
    have hx := he x (by simp)
    rw [List.flatten_cons] at h
    by_cases hj : j < x.length
    · rw [List.getElem?_append_left hj] at h
      rw [hx] at hj
      rw [Nat.div_eq_of_lt hj, Nat.mod_eq_of_lt hj]
      exact ⟨x, rfl, h⟩
    · rw [List.getElem?_append_right (by omega), hx] at h
      rw [hx] at hj
      obtain ⟨y, h1, h2⟩ := flatten_at es (fun z hz => he z (by simp [hz])) _ _ h
      have hpos : 0 < e := by
        rcases Nat.eq_zero_or_pos e with h0 | h0
        · subst h0
          have hz : y.length = 0 := he y (by have := List.mem_of_getElem? h1; simp [this])
          rw [List.length_eq_zero_iff.1 hz] at h2; simp at h2
        · exact h0
      have e1 : j / e = (j - e) / e + 1 := by rw [← Nat.add_div_right _ hpos]; congr 1; omega
      have e2 : j % e = (j - e) % e := by rw [Nat.mod_eq_sub_mod (by omega)]
      rw [e1, e2]
      exact ⟨y, by simpa using h1, h2⟩
theorem Opens.arr {t : Ty} {n : Nat} {cs : List Value} (hl : cs.length = n * t.size) (hel : ∀ i, i < n → Opens Pg W lim w t ((cs.drop (i * t.size)).take t.size)) : Opens Pg W lim w (.arr n t) cs := by
  intro σ H h hn
  obtain ⟨X, σ1, es, xs, k1, k2, k3, k4, k5, k6⟩ := opens_elems (n := n) (cs := fun i => (cs.drop (i * t.size)).take t.size) hel h hn
  have hes : ∀ e ∈ es, e.length = t.size := by
    intro e he
    obtain ⟨i, hi, rfl⟩ := List.mem_iff_getElem.1 he
    exact (k6 i _ _ (List.getElem?_eq_getElem (by omega)) (List.getElem?_eq_getElem hi)).1.len
  have hat : ∀ (j : Nat) v, cs[j]? = some v → j / t.size < n ∧ j % t.size < t.size ∧ ((cs.drop (j / t.size * t.size)).take t.size)[j % t.size]? = some v := by
    intro j v hj
    have hjl : j < n * t.size := by rw [← hl]; exact (List.getElem?_eq_some_iff.1 hj).1
    have hpos : 0 < t.size := by
      rcases Nat.eq_zero_or_pos t.size with h0 | h0
      · rw [h0] at hjl; simp at hjl
      · exact h0
    have hm := Nat.mod_lt j hpos
    refine ⟨(Nat.div_lt_iff_lt_mul hpos).2 hjl, hm, ?_⟩
    rw [List.getElem?_take, if_pos hm, List.getElem?_drop, Nat.div_add_mod' j t.size]
    exact hj
  refine ⟨X, σ1, es.flatten, xs, k1, k2, k3, ⟨by rw [flatten_len hes, k4, hl], fun j a v ha hv => ?_⟩, ⟨es, rfl, k4, k5, fun i x e hx he => (k6 i x e hx he).1⟩, fun v hv => ?_⟩
  · obtain ⟨h1, h2, h3⟩ := hat j v hv
    obtain ⟨e, e1, e2⟩ := flatten_at es hes j a ha
    exact (k6 _ _ e (List.getElem?_eq_getElem (by omega)) e1).2.1.2 _ _ _ e2 h3
  · obtain ⟨j, hj⟩ := List.mem_iff_getElem?.1 hv
    obtain ⟨h1, h2, h3⟩ := hat j v hj
    exact (k6 (j / t.size) _ _ (List.getElem?_eq_getElem (by omega)) (List.getElem?_eq_getElem (by omega))).2.2 v (List.mem_of_getElem? h3)
theorem Opens.nilslice {t : Ty} : Opens Pg W lim w (.slice t) [.slice none 0 0] := by
  refine Opens.atom1 (t := .slice t) (x := ([] : List t.den)) rfl rfl fun H => ⟨Nat.zero_le _, none, 0, rfl, fun _ => ⟨rfl, rfl⟩, fun a ha => by cases ha⟩
theorem Opens.slice {t : Ty} {a : Addr} {len cap : Nat} {cs : Nat → List Value} (hl : len ≤ cap) (hc : cap ≤ maxLen) (hsz : t.size ≠ 0)
    (hel : ∀ i, i < cap → w.cells? 0 (a.add (i * t.size)) t.size = some (cs i) ∧ Opens Pg W lim w t (cs i)) : Opens Pg W lim w (.slice t) [.slice (some a) len cap] := by
  intro σ H h hn
  by_cases h0 : len = 0
  · subst h0
    obtain ⟨m1, m2⟩ := h.snoc hn ⟨a.block, a.off, cap * t.size⟩ .dead rfl trivial
    refine ⟨[.dead], _, [.slice (some ⟨H.length, 0, none⟩) 0 (loose t.size)], [], m1, hn.snoc rfl, m2, LRel.cons ?_ LRel.nil, ⟨Nat.zero_le _, some ⟨H.length, 0, none⟩, loose t.size, rfl, fun h => (by cases h), fun b hb => ?_⟩, fun v hv => by simp at hv; subst hv; rfl⟩
    · by_cases hcap : cap = 0
      · subst hcap
        exact .eslice sigAt_same (.inr ⟨_, rfl⟩)
      · have hsp : a.spot = none := by
          obtain ⟨h1, h2⟩ := hel 0 (by omega)
          obtain ⟨_, h3, h4⟩ := World.cells?_some h1
          have h5 := h4 0 (by omega)
          rw [List.getElem?_eq_getElem (by omega)] at h5
          have := World.cell?_spot h5
          simpa [Addr.add] using this
        obtain ⟨b, o, s⟩ := a
        simp only at hsp; subst hsp
        exact .lslice (L := ⟨b, o, cap * t.size⟩) (k := 0) sigAt_same hl (by simp)
    · cases hb
      exact ⟨rfl, rfl, rfl, fun h => absurd rfl h⟩
  · obtain ⟨X, σ1, es, xs, k1, k2, k3, k4, k5, k6⟩ := opens_elems (n := len) (cs := cs) (fun i hi => (hel i (by omega)).2) h hn
    have hsp : a.spot = none := by
      obtain ⟨h1, h2⟩ := hel 0 (by omega)
      obtain ⟨_, h3, h4⟩ := World.cells?_some h1
      have h5 := h4 0 (by omega)
      rw [List.getElem?_eq_getElem (by omega)] at h5
      have := World.cell?_spot h5
      simpa [Addr.add] using this
    have hcell : ∀ i, i < len → ∀ j, j < t.size → ∃ v, (cs i)[j]? = some v ∧ w.cell? ⟨a.block, a.off + (i * t.size + j), none⟩ = some v := by
      intro i hi j hj
      obtain ⟨_, h3, h4⟩ := World.cells?_some (hel i (by omega)).1
      have h5 := h4 j hj
      have hg : (cs i)[j]? = some ((cs i)[j]'(by omega)) := List.getElem?_eq_getElem _
      rw [hg, Go.Deep.add_add] at h5
      refine ⟨_, hg, ?_⟩
      rw [← h5]
      congr 1
      obtain ⟨b, o, s⟩ := a
      simp only at hsp; subst hsp
      exact (addr_add (b := b) (o := o)).symm
    obtain ⟨v0, _, hv0⟩ := hcell 0 (by omega) 0 (by omega)
    have hheap : ∃ cells el fz, w.heap[a.block]? = some (.cells cells el fz) := by
      unfold World.cell? at hv0
      split at hv0
      · rename_i c el fz hh; exact ⟨c, el, fz, hh⟩
      · cases hv0
    obtain ⟨cells, el, fz, hh⟩ := hheap
    have hes : ∀ e ∈ es, e.length = t.size := by
      intro e he
      obtain ⟨i, hi, rfl⟩ := List.mem_iff_getElem.1 he
      exact (k6 i _ _ (List.getElem?_eq_getElem (by omega)) (List.getElem?_eq_getElem hi)).1.len
    have hblk : BlkRel Pg (sigAt σ1 (H ++ X).length ⟨a.block, a.off, cap * t.size⟩) w ⟨a.block, a.off, cap * t.size⟩ (.cells true es.flatten) := by
      refine ⟨cells, el, fz, hh, fun j v hv => ?_, fun h => by cases h⟩
      obtain ⟨e, h1, h2⟩ := flatten_at es hes j v hv
      have hi : j / t.size < len := by have := (List.getElem?_eq_some_iff.1 h1).1; omega
      have hj : j % t.size < t.size := Nat.mod_lt _ (by omega)
      obtain ⟨q1, q2, q3⟩ := k6 _ _ e (List.getElem?_eq_getElem (by omega)) h1
      obtain ⟨u, r1, r2⟩ := hcell _ hi _ hj
      refine ⟨u, ?_, (q2.2 _ _ _ h2 r1).mono ?_, q3 u (List.mem_of_getElem? r1)⟩
      · rw [Nat.div_add_mod' j t.size] at r2
        simpa [World.cell?, hh] using r2
      · intro i K hi
        have := k1.lt hi
        rw [sigAt_ne (by omega)]; exact hi
    obtain ⟨m1, m2⟩ := k1.snoc k2 _ _ rfl hblk
    refine ⟨X ++ [.cells true es.flatten], _, [.slice (some ⟨(H ++ X).length, 0, none⟩) len (loose t.size)], xs, by rw [← List.append_assoc]; exact m1, by rw [← List.append_assoc]; exact k2.snoc rfl, Sig.le_trans k3 m2, LRel.cons ?_ LRel.nil, ?_, fun v hv => by simp at hv; subst hv; rfl⟩
    · obtain ⟨b, o, s⟩ := a
      simp only at hsp; subst hsp
      exact .lslice (L := ⟨b, o, cap * t.size⟩) (k := 0) sigAt_same hl (by simp)
    · refine ⟨by rw [k5]; omega, some ⟨(H ++ X).length, 0, none⟩, loose t.size, by rw [k5], (fun h => (by cases h)), fun b hb => ?_⟩
      cases hb
      refine ⟨rfl, rfl, rfl, fun _ => ⟨es, ?_, by omega, fun i x e hx he => ?_⟩⟩
      · rw [← List.append_assoc]; exact hget_new0
      · rw [← List.append_assoc]; exact (k6 i x e hx he).1.app _
section
variable (P : Program)
def tyFields (f : TypeId → Option Ty) : List Field → Nat → Option Ty
  | [], _ => some .nil
  | fd :: fs, off => if fd.offset = off then match f fd.type with
    | some ty => if ty.size = P.cellsOf fd.type then match tyFields f fs (off + ty.size) with
      | some r => some (.pair ty r)
      | none => none
      else none
    | none => none
    else none
def tyOf : Nat → TypeId → Option Ty
  | 0, _ => none
  | n + 1, t => match P.underlying t with
    | some .bool => some .bool
    | some (.int k) => some (.int k)
    | some .string => some .str
    | some (.slice e) => match tyOf n e with
      | some ty => if ty.size = P.cellsOf e ∧ ty.size ≠ 0 then some (.slice ty) else none
      | none => none
    | some (.array k e) => match tyOf n e with
      | some ty => if ty.size = P.cellsOf e ∧ k * ty.size = P.cellsOf t then some (.arr k ty) else none
      | none => none
    | some (.struct fs) => match tyFields P (tyOf n) fs.toList 0 with
      | some ty => if ty.size = P.cellsOf t then some ty else none
      | none => none
    | _ => none
end
variable {P : Program} {H : Type} {enc : TypeId × Value → H} {held : Bool}
theorem opens_fields {n m : Nat} {cs : List Value} (ih : ∀ t ty cs x, tyOf P n t = some ty → DataW.trod enc P w 0 (fun _ => true) held m t cs = some x → Opens Pg W lim w ty cs) :
    ∀ (fs : List Field) (off : Nat) (xs : List (DataW H × List MemPlace)) (ty : Ty), tyFields P (tyOf P n) fs off = some ty → off + ty.size = cs.length → (∀ (i : Nat) f, fs[i]? = some f → DataW.trod enc P w 0 (fun _ => true) held m f.type ((cs.drop f.offset).take (P.cellsOf f.type)) = xs[i]?) → xs.length = fs.length → Opens Pg W lim w ty (cs.drop off)
  | [], off, xs, ty, ht, hl, hx, hxl => by
    simp only [tyFields, Option.some.injEq] at ht
    subst ht
    rw [List.drop_eq_nil_of_le (by simp [Ty.size] at hl; omega)]
    exact Opens.nil
  | fd :: fs, off, xs, ty, ht, hl, hx, hxl => by
    simp only [tyFields] at ht
    split at ht
    case isFalse => cases ht
    rename_i ho
    split at ht
    case h_2 => cases ht
    rename_i ty1 h1
    split at ht
    case isFalse => cases ht
    rename_i hs
    split at ht
    case h_2 => cases ht
    rename_i r hr
    cases ht
    simp only [Ty.size] at hl
    match xs, hxl with
    | x0 :: xs, hxl =>
      have h2 := hx 0 fd rfl
      simp only [List.getElem?_cons_zero] at h2
      have h3 := ih _ _ _ _ h1 h2
      have h4 := opens_fields (cs := cs) ih fs (off + ty1.size) xs r hr (by omega) (fun i f hf => by simpa using hx (i + 1) f (by simpa using hf)) (by simpa using hxl)
      rw [ho, ← hs] at h3
      have := Opens.pair h3 h4
      rw [← List.drop_drop, List.take_append_drop] at this
      exact this
theorem opens_trod : ∀ (n m : Nat) {t : TypeId} {ty : Ty} {cs : List Value} {x : DataW H × List MemPlace}, tyOf P n t = some ty → DataW.trod enc P w 0 (fun _ => true) held m t cs = some x → Opens Pg W lim w ty cs
  | 0, _, t, ty, cs, x, ht, _ => by simp [tyOf] at ht
  | n + 1, m, t, ty, cs, x, ht, h => by
    simp only [tyOf] at ht
    split at ht
    · rename_i hu; cases ht
      obtain ⟨b, rfl, _⟩ := DataW.trod_bool hu h
      exact Opens.bool
    · rename_i k hu; cases ht
      obtain ⟨b, rfl, _, hw⟩ := DataW.trod_int hu h
      exact Opens.int hw
    · rename_i hu; cases ht
      obtain ⟨b, rfl, _, hw⟩ := DataW.trod_string hu h
      exact Opens.str hw
    · rename_i e hu
      split at ht
      case h_2 => cases ht
      rename_i ty' he
      split at ht
      case isFalse => cases ht
      rename_i hs
      cases ht
      rcases Go.Deep.open_slice hu h with ⟨rfl, _⟩ | ⟨a, len, cap, mm, m', D, Pl, rfl, hb, hl, hm, hmm, hx, hi⟩
      · exact Opens.nilslice
      · simp only [if_true] at hmm
        subst hmm
        have hel : ∀ i, ∃ cs', i < mm → w.cells? 0 (a.add (i * ty'.size)) ty'.size = some cs' ∧ Opens Pg W lim w ty' cs' := by
          intro i
          by_cases him : i < mm
          · obtain ⟨cs', h1, h2⟩ := hi i him
            exact ⟨cs', fun _ => ⟨by rw [hs.1]; exact h1, opens_trod n m' he h2⟩⟩
          · exact ⟨[], fun h => absurd h him⟩
        exact Opens.slice (cs := fun i => Classical.choose (hel i)) hl hm hs.2 fun i hi => Classical.choose_spec (hel i) hi
    · rename_i k e hu
      split at ht
      case h_2 => cases ht
      rename_i ty' he
      split at ht
      case isFalse => cases ht
      rename_i hs
      cases ht
      obtain ⟨xs, m', _, _, hcl, hxl, hf⟩ := DataW.trod_array hu h
      refine Opens.arr (by rw [hcl, hs.2]) fun i hi => ?_
      have h1 := hf i hi
      rw [List.getElem?_eq_getElem (by omega)] at h1
      rw [hs.1]
      exact opens_trod n m' he h1
    · rename_i fs hu
      split at ht
      case h_2 => cases ht
      rename_i ty' he
      split at ht
      case isFalse => cases ht
      rename_i hs
      cases ht
      obtain ⟨xs, m', _, _, hcl, hxl, hf⟩ := DataW.trod_struct hu h
      have := opens_fields (cs := cs) (fun t ty cs x h1 h2 => opens_trod n m' h1 h2) fs.toList 0 xs ty he (by omega) (fun i f hf' => hf i f (by simpa using hf')) (by simpa using hxl)
      simpa using this
    · cases ht
end
def isRow : Ty → Bool
  | .nil => true
  | .pair _ _ => true
  | .arr _ _ => true
  | _ => false
def RepV (t : Ty) (H : Heap) (x : t.den) (v : Value) : Prop := if isRow t = true then ∃ as, v = .agg as.toArray ∧ Rep t H x as else Rep t H x [v]
abbrev dens : List Ty → Type
  | [] => Unit
  | t :: ts => t.den × dens ts
def RepAll : (ts : List Ty) → Heap → dens ts → List Value → Prop
  | [], _, _, vs => vs = []
  | t :: ts, H, x, vs => ∃ v r, vs = v :: r ∧ RepV t H x.1 v ∧ RepAll ts H x.2 r
theorem RepV.app {t : Ty} {H : Heap} {x : t.den} {v : Value} (h : RepV t H x v) (X : Heap) : RepV t (H ++ X) x v := by
  unfold RepV at *
  split
  · rename_i hr
    rw [if_pos hr] at h
    obtain ⟨as, e, k⟩ := h
    exact ⟨as, e, k.app X⟩
  · rename_i hr
    rw [if_neg hr] at h
    exact h.app X
section
variable {P : Program} {H : Type} {enc : TypeId × Value → H} {w : World} {Pg : Prg} {W : Nat → Prop} {lim : Nat}
theorem tyFields_row {f : TypeId → Option Ty} : ∀ {fs : List Field} {off : Nat} {ty : Ty}, tyFields P f fs off = some ty → isRow ty = true
  | [], off, ty, h => by simp only [tyFields, Option.some.injEq] at h; subst h; rfl
  | fd :: fs, off, ty, h => by
    simp only [tyFields] at h
    split at h
    · split at h
      · split at h
        · split at h
          · cases h; rfl
          · cases h
        · cases h
      · cases h
    · cases h
theorem arg_cells {n : Nat} {t : TypeId} {ty : Ty} {v : Value} {r : Reach} {base : Nat} (ht : tyOf P n t = some ty) (hv : Value.okWide P w r base t v) : if isRow ty = true then ∃ cs, v = .agg cs else v.cells.toList = [v] := by
  cases n with
  | zero => simp [tyOf] at ht
  | succ n =>
    simp only [tyOf] at ht
    split at ht
    · rename_i hu; cases ht
      obtain ⟨b, rfl⟩ := okWide_bool hu hv
      rfl
    · rename_i k hu; cases ht
      obtain ⟨b, rfl⟩ := okWide_int hu hv
      rfl
    · rename_i hu; cases ht
      obtain ⟨b, rfl⟩ := okWide_string hu hv
      rfl
    · rename_i e hu
      split at ht
      case h_2 => cases ht
      split at ht
      case isFalse => cases ht
      cases ht
      obtain ⟨a, l, c, rfl⟩ := okWide_slice hu hv
      rfl
    · rename_i k e hu
      split at ht
      case h_2 => cases ht
      rename_i ty' he
      split at ht
      case isFalse => cases ht
      cases ht
      have hv2 := hv
      simp only [Value.okWide, hu] at hv2
      obtain ⟨cs, rfl, _⟩ := hv2
      exact ⟨cs, rfl⟩
    · rename_i fs hu
      split at ht
      case h_2 => cases ht
      rename_i ty' he
      split at ht
      case isFalse => cases ht
      cases ht
      obtain ⟨cs, rfl, _⟩ := okWide_struct hu hv
      rw [if_pos (tyFields_row he)]
      exact ⟨cs, rfl⟩
    · cases ht
theorem opens_args {n : Nat} {r : Reach} {base : Nat} : ∀ {ts : List TypeId} {vs : List Value} {ds : List (DataW H)} {ps : List MemPlace} {tys : List Ty}, DataW.TrodAll enc P w 0 (fun _ => true) true ts vs ds ps → ts.mapM (tyOf P n) = some tys →
    (∀ (j : Nat) t v, ts[j]? = some t → vs[j]? = some v → Value.okWide P w r base t v) → ∀ σ H, Inv Pg W lim σ H w → NoOwn H →
    ∃ X σ' as x, Inv Pg W lim σ' (H ++ X) w ∧ NoOwn (H ++ X) ∧ Sig.le σ σ' ∧ LRel σ' as vs ∧ RepAll tys (H ++ X) x as
  | [], [], [], ps, tys, _, ht, _, σ, Hp, hi, hn => by
    simp at ht; subst ht
    exact ⟨[], σ, [], (), by simpa using hi, by simpa using hn, Sig.le_refl _, LRel.nil, rfl⟩
  | t :: ts, v :: vs, d :: ds, ps, tys, hA, ht, hv, σ, Hp, hi, hn => by
    obtain ⟨p, q, h1, h2, rfl⟩ := hA
    rw [List.mapM_cons] at ht
    obtain ⟨ty, hty, ht⟩ := opt_bind ht
    obtain ⟨tr, htr, ht⟩ := opt_bind ht
    cases ht
    obtain ⟨m, hm⟩ := h1
    have hc := arg_cells hty (hv 0 t v rfl rfl)
    obtain ⟨X, σ1, as, x, k1, k2, k3, k4, k5, k6⟩ := opens_trod n m hty hm σ Hp hi hn
    obtain ⟨Y, σ2, bs, y, m1, m2, m3, m4, m5⟩ := opens_args h2 htr (fun j t' v' e1 e2 => hv (j + 1) t' v' (by simpa using e1) (by simpa using e2)) σ1 _ k1 k2
    have key : ∃ av, VRel σ1 av v ∧ RepV ty (Hp ++ X) x av := by
      split at hc
      · rename_i hr
        obtain ⟨cs, rfl⟩ := hc
        refine ⟨.agg as.toArray, VRel.agg_iff.2 ⟨by simpa [Value.cells] using k4, by simpa [Value.cells] using k6⟩, ?_⟩
        unfold RepV; rw [if_pos hr]
        exact ⟨as, rfl, k5⟩
      · rename_i hr
        rw [hc] at k4
        have hl := k4.1
        match as, hl, k4, k5 with
        | [a], _, k4, k5 =>
          refine ⟨a, k4.head, ?_⟩
          unfold RepV; rw [if_neg hr]
          exact k5
    obtain ⟨av, q1, q2⟩ := key
    refine ⟨X ++ Y, σ2, av :: bs, (x, y), by rw [← List.append_assoc]; exact m1, by rw [← List.append_assoc]; exact m2, Sig.le_trans k3 m3, LRel.cons (q1.mono m3) m4, av, bs, rfl, ?_, ?_⟩
    · rw [← List.append_assoc]; exact q2.app Y
    · rw [← List.append_assoc]; exact m5
  | [], [], _ :: _, _, _, hA, _, _, _, _, _, _ => hA.elim
  | [], _ :: _, _, _, _, hA, _, _, _, _, _, _ => hA.elim
  | _ :: _, [], _, _, _, hA, _, _, _, _, _, _ => hA.elim
  | _ :: _, _ :: _, [], _, _, hA, _, _, _, _, _, _ => hA.elim
theorem trodAll_stays (hl : laidOutB P = true) {w' : World} (hb : Below w.heap.size w w') : ∀ {ts : List TypeId} {vs : List Value} {ds : List (DataW H)} {ps : List MemPlace}, (∀ t ∈ ts, P.readableRec t = true ∧ t < P.types.size) → DataW.TrodAll enc P w 0 (fun _ => true) true ts vs ds ps →
    (∀ x ∈ ps, x.block < w.heap.size) → DataW.TrodAll enc P w' 0 (fun b => decide (b < w.heap.size)) true ts vs ds ps
  | [], [], [], ps, _, h, _ => h
  | t :: ts, v :: vs, d :: ds, ps, hr, h, hlt => by
    obtain ⟨p, q, h1, h2, rfl⟩ := h
    exact ⟨p, q, Below.trod hl (hr t (by simp)).1 (hr t (by simp)).2 h1 hb fun x hx => hlt x (by simp [hx]), trodAll_stays hl hb (fun t' ht' => hr t' (by simp [ht'])) h2 fun x hx => hlt x (by simp [hx]), rfl⟩
  | [], [], _ :: _, _, _, hA, _ => hA.elim
  | [], _ :: _, _, _, _, hA, _ => hA.elim
  | _ :: _, [], _, _, _, hA, _ => hA.elim
  | _ :: _, _ :: _, [], _, _, hA, _ => hA.elim
theorem trodAll_length : ∀ {ts : List TypeId} {vs : List Value} {ds : List (DataW H)} {ps : List MemPlace}, DataW.TrodAll enc P w 0 (fun _ => true) true ts vs ds ps → ds.length = ts.length
  | [], [], [], ps, _ => rfl
  | t :: ts, v :: vs, d :: ds, ps, h => by
    obtain ⟨p, q, h1, h2, rfl⟩ := h
    simp [trodAll_length h2]
  | [], [], _ :: _, _, hA => hA.elim
  | [], _ :: _, _, _, hA => hA.elim
  | _ :: _, [], _, _, hA => hA.elim
  | _ :: _, _ :: _, [], _, hA => hA.elim
end
theorem law_returns {C : Checked} {os : Os} {g : FuncId} {fn : Func} {s : ChangeSpec} {E : Env} {tys : List Ty} {tb : TypeId} {conds : List PathCond} {H : Type} {enc : TypeId × Value → H}
    (own : ownKnob C.prog.godebug = none) (started : os.Started) (noInit : C.prog.inits.idxOf? g = none) (hfn : C.prog.funcs[g]? = some fn) (hvars : s.vars = [])
    (hspec : ∀ ds : List (DataW H), ds.length = fn.params.size → s.fn H ds = { results := [.lit (.bool true)], args := ds })
    (hres : fn.resultTypes = #[tb]) (hb : C.prog.underlying tb = some .bool) (htys : fn.params.toList.mapM (tyOf C.prog 9) = some tys)
    (hread : ∀ t ∈ fn.params.toList, C.prog.readableRec t = true ∧ t < C.prog.types.size) (hlaid : laidOutB C.prog = true) (hE : EnvOk C.prog E)
    (witness : ∃ (w : World) (tape : Tape) (i : Input), w.os = os ∧ (w.forCall tape i).Shaped C.prog ∧ i.vars = [] ∧ Input.okWide C.prog (w.forCall tape i) .any w.heap.size g i ∧
      s.pre6 enc C.prog fn conds false (w.forCall tape i).memory i.args ∧ ({} : Assume).holds C.prog (lone (Frame.enter C.prog g i.args .normal) [] (w.forCall tape i)))
    (run : ∀ H vs x, RepAll tys H x vs → CallR E false H.length g vs H fun v _ => v = .bool true) :
    ReturnsInHanded {} C os g .any (s.pre6 enc C.prog fn conds false) (s.post enc C.prog fn false true false false) := by
  refine returnsInHanded_of_change own started noInit hfn witness ?_
  intro w base args ds gs before hval hW hcnd hholds
  have hW' := hW
  obtain ⟨p, q, hA, hV, rfl, hfz, hnd⟩ := hW
  rw [hvars] at hV
  obtain ⟨rfl, rfl⟩ := trodVars_none hV
  obtain ⟨X, σ, as, x, k1, k2, k3, k4, k5⟩ := opens_args hA htys (fun j t v h1 h2 => hval j t v (by simpa using h1) (by simpa using h2)) (fun _ => none) [] (Inv.nil (P := C.prog) (E := E) w) (fun i b hb => by simp at hb)
  rw [List.nil_append] at k1 k2 k5
  have k1' : Inv (Prg.mk C.prog E.pure) (fun k => w.heap.size ≤ k) X.length σ X w := ⟨k1.blk, k1.inj, (fun i b L hb ho => by rw [k2 i b hb] at ho; cases ho), k1.fresh, k1.dom⟩
  obtain ⟨n, LL, hx, hrun⟩ := run X as x k5
  have hcall := (callOkS hE n).calls _ _ _ _ _ _ hx (Nat.le_refl _) _ _ _ _ k1' k4
  rw [show args.toList.toArray = args by simp] at hcall
  refine hcall.mono fun e w' hp => ?_
  obtain ⟨r, hr, v', σ', rfl, hv, hinv, hst, _⟩ := hp
  rw [hrun.2 r hr] at hv
  rw [hv.bool_left]
  have hbel : Below w.heap.size w w' := ⟨hst.os, hst.tape, hst.output, hst.size, fun k hk => hst.block k (by omega)⟩
  have hlt : ∀ x ∈ p, x.block < w.heap.size := fun x hx => by
    have := hW'.lt x (by simpa using hx)
    simpa using this
  have hs := hspec ds (by simpa using trodAll_length hA)
  refine ⟨_, rfl, _, _, _, [], p, [], hW', ?_, ?_, ?_, hbel.frame _, fun h => by cases h⟩
  · rw [List.append_nil, hs, hres]
    exact trodAll_mk1 (shut_bool hb true)
  · rw [List.append_nil, hs]
    exact trodAll_stays hlaid hbel hread hA hlt
  · rw [List.append_nil, hs, hvars]
    rfl
theorem Rep.sl {t : Ty} {H : Heap} {l : List t.den} {cs : List Value} {α : Type} (f : t.den → α) (enc : α → List Value) (he : ∀ H x c, Rep t H x c → c = enc (f x)) (h : Rep (.slice t) H l cs) :
    ∃ p cap, cs = [.slice p (l.map f).length cap] ∧ Sl H enc t.size p (l.map f) ∧ l.length < 2 ^ 63 := by
  obtain ⟨h0, p, cap, e, h1, h2⟩ := h
  have hlen : l.length < 2 ^ 63 := by unfold maxLen at h0; omega
  refine ⟨p, cap, by rw [e, List.length_map], ?_, hlen⟩
  cases p with
  | none => simp only [Sl]; rw [(h1 rfl).1]; rfl
  | some a =>
    obtain ⟨k1, k2, k3, k4⟩ := h2 a rfl
    refine ⟨k1, fun hn => ?_⟩
    obtain ⟨es, m1, m2, m3⟩ := k4 (by rintro rfl; exact hn rfl)
    have key : es.flatten = (l.map f).flatMap enc := by
      have : es = l.map fun x => enc (f x) := by
        apply List.ext_getElem (by simpa using m2)
        intro i i1 i2
        have i3 : i < l.length := by simpa using i2
        have := he _ _ _ (m3 i l[i] es[i] (List.getElem?_eq_getElem _) (List.getElem?_eq_getElem _))
        rw [this]; simp
      rw [this, List.flatMap_def, List.map_map]
      rfl
    have hfl : es.flatten.length = l.length * t.size := by
      have : ∀ (es : List (List Value)), (∀ x ∈ es, x.length = t.size) → es.flatten.length = es.length * t.size := by
        intro es
        induction es with
        | nil => simp
        | cons x es ih => intro h; simp [ih fun y hy => h y (by simp [hy]), h x (by simp), Nat.add_mul, Nat.add_comm]
      rw [this es, m2]
      intro x hx
      obtain ⟨i, hi, rfl⟩ := List.mem_iff_getElem.1 hx
      exact (m3 i _ _ (List.getElem?_eq_getElem (by omega)) (List.getElem?_eq_getElem hi)).len
    refine ⟨true, _, m1, ?_, ?_⟩
    · rw [k2, hfl, List.length_map]; omega
    · rw [k2, List.drop_zero, key, List.take_of_length_le]
      rw [← key, hfl, List.length_map]
      exact Nat.le_refl _
theorem RepV.row {t : Ty} {H : Heap} {x : t.den} {v : Value} (hr : isRow t = true) (h : RepV t H x v) : ∃ cs, v = .agg cs.toArray ∧ Rep t H x cs := by
  unfold RepV at h
  rw [if_pos hr] at h
  exact h
theorem RepV.one {t : Ty} {H : Heap} {x : t.den} {v : Value} (hr : isRow t = false) (h : RepV t H x v) : Rep t H x [v] := by
  unfold RepV at h
  rw [if_neg (by rw [hr]; decide)] at h
  exact h
end Go.AM

set_option linter.unusedVariables false
set_option linter.unusedSimpArgs false
namespace Go.AM
structure Chg (A : List Nat) (H H' : Heap) : Prop where
  len : H.length ≤ H'.length
  other : ∀ j, j < H.length → j ∉ A → hget H' j = hget H j
section
variable {A B : List Nat} {H H' K : Heap}
theorem Chg.refl : Chg A H H := ⟨Nat.le_refl _, fun _ _ _ => rfl⟩
theorem Chg.trans (h : Chg A H H') (k : Chg A H' K) : Chg A H K := ⟨Nat.le_trans h.len k.len, fun j hj hA => (k.other j (by have := h.len; omega) hA).trans (h.other j hj hA)⟩
theorem Chg.mono (h : Chg A H H') (hs : ∀ j, j < H.length → j ∈ A → j ∈ B) : Chg B H H' := ⟨h.len, fun j hj hB => h.other j hj fun hA => hB (hs j hj hA)⟩
theorem Chg.app (h : Chg A H H') {X : Heap} : Chg A H (H' ++ X) := ⟨by have := h.len; simp; omega, fun j hj hA => by rw [hget_old (by have := h.len; omega)]; exact h.other j hj hA⟩
theorem Chg.pre (h : Chg A (H ++ K) H') : Chg A H H' := ⟨by have := h.len; simp at this; omega, fun j hj hA => by rw [h.other j (by simp; omega) hA, hget_old hj]⟩
theorem Chg.mut {R : Nat} (h : Chg A H H') (m : Mut H' K R) (hR : R ∈ A ∨ H.length ≤ R) : Chg A H K := ⟨by rw [m.len]; exact h.len, fun j hj hA => by
  rw [m.other j (by rintro rfl; rcases hR with h1 | h1; exact hA h1; omega)]; exact h.other j hj hA⟩
theorem Chg.set {R : Nat} {b : Blk} (h : Chg A H H') (hR : R ∈ A ∨ H.length ≤ R) : Chg A H (H'.set R b) := h.mut (R := R) ⟨by simp, fun j hj => hget_set_ne hj⟩ hR
theorem Chg.get (h : Chg A H H') {j : Nat} {b : Blk} (hj : hget H j = b) (hl : j < H.length) (hA : j ∉ A) : hget H' j = b := by rw [h.other j hl hA]; exact hj
theorem Chg.cells (h : Chg A H H') {j : Nat} {ro : Bool} {c : List Value} (hj : hget H j = .cells ro c) (hA : j ∉ A) : hget H' j = .cells ro c := h.get hj (hget_alive hj) hA
theorem Chg.sl {α : Type} {enc : α → List Value} {e : Nat} {p : Option Addr} {l : List α} (h : Chg A H H') (hs : Sl H enc e p l) (hp : ∀ a, p = some a → l ≠ [] → a.block ∉ A) : Sl H' enc e p l := by
  cases p with
  | none => exact hs
  | some a =>
    refine ⟨hs.1, fun hn => ?_⟩
    obtain ⟨ro, c, h2, h3⟩ := hs.2 hn
    exact ⟨ro, c, h.cells h2 (hp a rfl hn), h3⟩
theorem Ext.chg (h : Ext H H') : Chg A H H' := by obtain ⟨X, rfl⟩ := h; exact Chg.refl.app
theorem Chg.ext (h : Chg [] H H') : Ext H H' := by
  refine ⟨H'.drop H.length, ?_⟩
  apply List.ext_getElem
  · have := h.len; simp; omega
  intro i h1 h2
  by_cases hi : i < H.length
  · rw [List.getElem_append_left hi]
    have := h.other i hi (by simp)
    unfold hget at this
    rw [List.getD_eq_getElem?_getD, List.getD_eq_getElem?_getD, List.getElem?_eq_getElem h1, List.getElem?_eq_getElem hi] at this
    exact this
  · rw [List.getElem_append_right (by omega), List.getElem_drop]
    congr 1
    omega
end
theorem Sl.lt {α : Type} {H : Heap} {enc : α → List Value} {e : Nat} {a : Addr} {l : List α} (h : Sl H enc e (some a) l) (hn : l ≠ []) : a.block < H.length := by
  obtain ⟨ro, c, h2, _⟩ := h.2 hn
  exact hget_alive h2
theorem Sl.some {α : Type} {H : Heap} {enc : α → List Value} {e : Nat} {p : Option Addr} {l : List α} (h : Sl H enc e p l) (hn : l ≠ []) : ∃ a, p = some a := by
  cases p with
  | none => exact absurd h hn
  | some a => exact ⟨a, rfl⟩
section
variable {α : Type} [Inhabited α] {H : Heap} {enc : α → List Value} {e : Nat} {p : Option Addr} {l : List α}
end
theorem Own.step {α : Type} {lim lim' e bytes cap : Nat} {G : Heap} {enc : α → List Value} {p : Option Addr} {l : List α} (h : Own lim G enc e p cap l) (hll : lim' ≤ lim) (he : ∀ x, (enc x).length = e) (he0 : e ≠ 0) (x : α) (hb : (l.length + 1) * bytes ≤ maxBytes) (hn : l.length + 1 < 2 ^ 61) (hlG : lim ≤ G.length)
    (X : Heap) (b k : Nat) (hx : hget (G ++ X) b = .cells false (enc x)) :
    ∃ G2, aAppend lim' none e bytes false (.slice p l.length cap) (.slice (some ⟨b, 0, none⟩) 1 k) (G ++ X) = some (.slice (some ⟨G.length + X.length, 0, none⟩) (l.length + 1) (loose e), G2 ++ []) ∧
      Own lim (G2 ++ []) enc e (some ⟨G.length + X.length, 0, none⟩) (loose e) (l ++ [x]) ∧ (∀ A H0, H0.length ≤ lim → Chg A H0 G → Chg A H0 (G2 ++ [])) ∧ (∀ j, j < G.length → (∀ a, p = some a → j ≠ a.block) → hget (G2 ++ []) j = hget G j) ∧ G2.length = G.length + X.length + 1 ∧
      (∀ j, j < X.length → hget (G2 ++ []) (G.length + j) = X.getD j .dead) := by
  obtain ⟨G', R, hR1, hR2, hm, _, hp⟩ := h.push1 (lim' := lim') (bytes := bytes) hll he he0 x hb hn
  have hRl : lim ≤ R := by
    rcases Option.eq_none_or_eq_some p with h1 | ⟨a, h1⟩
    · rw [hR1 h1]; exact hlG
    · rw [hR2 a h1]; exact (h.block h1).1
  refine ⟨G' ++ (X ++ [.cells false ((l ++ [x]).flatMap enc)]), by rw [List.append_nil]; exact hp X b k hx, ?_, fun A H0 h1 h2 => ?_, fun j hj hp => ?_, by simp [hm.len]; omega, fun j hj => ?_⟩
  · rw [List.append_nil]
    refine Own.new ?_ (by omega)
    rw [← List.append_assoc, ← hm.len, ← List.length_append]
    exact hget_new0
  · rw [List.append_nil]
    exact (h2.mut hm (.inr (by omega))).app
  · rw [List.append_nil, hget_old (by rw [hm.len]; exact hj)]
    refine hm.other j ?_
    rcases Option.eq_none_or_eq_some p with h1 | ⟨a, h1⟩
    · rw [hR1 h1]; omega
    · rw [hR2 a h1]; exact hp a h1
  · rw [List.append_nil, ← hm.len, hget_new, List.getD_eq_getElem?_getD, List.getElem?_append_left hj, List.getD_eq_getElem?_getD]
theorem append_newN {α : Type} {lim b e bytes c : Nat} {H : Heap} {enc : α → List Value} {p : Option Addr} {l : List α} (hb : hget H b = .cells false []) (hs : Sl H enc e p l) (h1 : e ≠ 0) (h2 : l.length * bytes ≤ maxBytes) (h3 : l.length < 2 ^ 62) (hn : l ≠ []) :
    aAppend lim none e bytes false (.slice (some ⟨b, 0, none⟩) 0 0) (.slice p l.length c) H = some (.slice (some ⟨H.length, 0, none⟩) l.length (loose e), H ++ [.cells false (l.flatMap enc)]) := by
  obtain ⟨a, rfl⟩ := hs.some hn
  have h0 : l.length ≠ 0 := fun h => hn (List.length_eq_zero_iff.1 h)
  obtain ⟨k1, k2⟩ := hs
  obtain ⟨ro, cs, k3, k4, k5⟩ := k2 hn
  have hl : AM.loadCells H a (l.length * e) = some (l.flatMap enc) := by
    obtain ⟨ab, ao, as'⟩ := a
    simp only [loadCells_lit]
    simp only at k3 k4 k5
    simp only [k3]
    rw [if_pos k4, k5]
  have h0' : AM.loadCells H ⟨b, 0, none⟩ (0 * e) = some [] := by simp [loadCells_lit, hb]
  simp only [aAppend, firstCells, lenOf, hl, h0', h0, Nat.zero_add, Nat.not_lt_zero, or_false, h1, false_or, Bool.false_eq_true, if_false]
  rw [if_neg (by omega), if_neg (by unfold loose; omega), if_pos (by decide), if_neg (by omega)]
  simp [place]
theorem append_new0 {lim b c e bytes : Nat} {dest : Option Nat} {H : Heap} {p : Option Addr} (h1 : e ≠ 0) : aAppend lim dest e bytes false (.slice (some ⟨b, 0, none⟩) 0 0) (.slice p 0 c) H = some (.slice (some ⟨b, 0, none⟩) 0 0, H) := by
  have : firstCells H e false (.slice p 0 c) = some [] := by cases p <;> simp [firstCells]
  simp [aAppend, this, lenOf, h1]
theorem setAll_mid : ∀ (vs a b c : List Value), vs.length = b.length → setAll (a ++ b ++ c) a.length vs = a ++ vs ++ c := by
  intro vs
  induction vs with
  | nil => intro a b c h; simp at h; have : b = [] := List.length_eq_zero_iff.1 h.symm; subst this; rfl
  | cons v vs ih =>
    intro a b c h
    match b, h with
    | x :: b, h =>
      rw [setAll_cons]
      have e1 : (a ++ x :: b ++ c).set a.length v = (a ++ [v]) ++ b ++ c := by simp
      rw [e1]
      have := ih (a ++ [v]) b c (by simpa using h)
      rw [List.length_append] at this
      simp only [List.length_cons, List.length_nil, Nat.zero_add] at this
      rw [this]; simp
theorem Sl.pre {α : Type} {H : Heap} {enc : α → List Value} {e : Nat} {p : Option Addr} {l m : List α} (h : Sl H enc e p (l ++ m)) (he : ∀ x, (enc x).length = e) : Sl H enc e p l := by
  cases p with
  | none => simp only [Sl] at h; exact (List.append_eq_nil_iff.1 h).1
  | some a =>
    refine ⟨h.1, fun hn => ?_⟩
    obtain ⟨ro, c, h1, h2, h3⟩ := h.2 (by simp [hn])
    have hle : l.length * e ≤ (l ++ m).length * e := Nat.mul_le_mul_right e (by simp)
    refine ⟨ro, c, h1, by omega, ?_⟩
    have h4 := congrArg (List.take (l.length * e)) h3
    rw [List.take_take, Nat.min_eq_left hle, List.flatMap_append, List.take_append_of_le_length (by rw [flat_len he]; exact Nat.le_refl _), List.take_of_length_le (l := l.flatMap enc) (by rw [flat_len he]; exact Nat.le_refl _)] at h4
    exact h4
theorem Sl.row {α : Type} {H : Heap} {enc : α → List Value} {e R : Nat} {l : List α} (he : ∀ x, (enc x).length = e) {ro : Bool} (h : hget H R = .cells ro (l.flatMap enc)) : Sl H enc e (Option.some ⟨R, 0, none⟩) l := Sl.lit he (by rw [h]; rfl) (by rw [h]; rfl)
theorem Own.chg {α : Type} {A : List Nat} {lim e cap : Nat} {G H' : Heap} {enc : α → List Value} {p : Option Addr} {l : List α} (h : Own lim G enc e p cap l) (hc : Chg A G H') (hp : ∀ a, p = some a → a.block ∉ A) : Own lim H' enc e p cap l := by
  rcases h with h | ⟨R, h1, h2, h3, h4⟩
  · exact .inl h
  · exact .inr ⟨R, h1, h2, hc.cells h3 (hp _ h1), h4⟩
def CapOk (e c n : Nat) : Prop := c = loose e ∨ (n ≤ c ∧ c < 2 ^ 62)
theorem flat_take {α : Type} {enc : α → List Value} {e : Nat} (he : ∀ x, (enc x).length = e) : ∀ (l : List α) (k : Nat), (l.take k).flatMap enc = (l.flatMap enc).take (k * e)
  | [], k => by simp
  | x :: l, 0 => by simp
  | x :: l, k + 1 => by
    rw [List.take_succ_cons, List.flatMap_cons, List.flatMap_cons, flat_take he l k, List.take_append, he, List.take_of_length_le (l := enc x) (by rw [he, Nat.succ_mul]; omega), Nat.succ_mul, Nat.add_sub_cancel]
theorem flat_dropN {α : Type} {enc : α → List Value} {e : Nat} (he : ∀ x, (enc x).length = e) : ∀ (l : List α) (k : Nat), (l.drop k).flatMap enc = (l.flatMap enc).drop (k * e)
  | [], k => by simp
  | x :: l, 0 => by simp
  | x :: l, k + 1 => by
    rw [List.drop_succ_cons, List.flatMap_cons, flat_dropN he l k, List.drop_append, he, List.drop_eq_nil_of_le (as := enc x) (by rw [he, Nat.succ_mul]; omega), List.nil_append, Nat.succ_mul, Nat.add_sub_cancel]
theorem Sl.sub {α : Type} {H : Heap} {enc : α → List Value} {e : Nat} {a : Addr} {l : List α} (h : Sl H enc e (Option.some a) l) (he : ∀ x, (enc x).length = e) {lo hi : Nat} (h1 : lo ≤ hi) (h2 : hi ≤ l.length) : Sl H enc e (Option.some (a.add (lo * e))) ((l.take hi).drop lo) := by
  obtain ⟨b, o, s⟩ := a
  have hs := h.1
  simp only at hs; subst hs
  rw [addr_add]
  refine ⟨rfl, fun hn => ?_⟩
  have hne : l ≠ [] := by rintro rfl; simp at hn
  obtain ⟨ro, c, k1, k2, k3⟩ := h.2 hne
  have hlen : ((l.take hi).drop lo).length = hi - lo := by simp; omega
  have e1 : (hi - lo) * e + lo * e = hi * e := by rw [← Nat.add_mul, Nat.sub_add_cancel h1]
  have e2 : hi * e ≤ l.length * e := Nat.mul_le_mul_right e h2
  refine ⟨ro, c, k1, by simp only [hlen] at *; omega, ?_⟩
  simp only at k2 k3 ⊢
  rw [hlen, flat_dropN he, flat_take he, ← k3, List.take_take, Nat.min_eq_left e2, List.drop_take, List.drop_drop, show hi * e - lo * e = (hi - lo) * e by omega]
theorem slice_cut {α : Type} {H : Heap} {enc : α → List Value} {e : Nat} {p : Option Addr} {l : List α} {c lo hi : Nat} {vlo vhi : Option Value} (hs : Sl H enc e p l) (hc : CapOk e c l.length) (he : ∀ x, (enc x).length = e) (hb : ∀ cap, l.length ≤ cap → boundsV l.length cap vlo vhi none = some (lo, hi, cap)) (h1 : lo ≤ hi) (h2 : hi ≤ l.length) (hn : l.length < 2 ^ 63) :
    ∃ p' c', sliceV e (.slice p l.length c) vlo vhi none = some (.slice p' (hi - lo) c') ∧ Sl H enc e p' ((l.take hi).drop lo) ∧ CapOk e c' (hi - lo) ∧ (∀ a', p' = some a' → ∃ a, p = some a ∧ a'.block = a.block) ∧ (l ≠ [] → ∀ a', p' = some a' → AM.loadCells H a' 0 = some []) := by
  have h0 : l ≠ [] → ∀ a, p = some a → ∀ k, k ≤ l.length → AM.loadCells H (a.add (k * e)) 0 = some [] := by
    intro hne a ha k hk
    subst ha
    obtain ⟨b, o, s⟩ := a
    have hs' := hs.1
    simp only at hs'; subst hs'
    obtain ⟨ro, cs, k1, k2, k3⟩ := hs.2 hne
    simp only at k1 k2
    have := Nat.mul_le_mul_right e hk
    rw [addr_add, loadCells_lit, k1]
    simp only [Nat.add_zero, List.take_zero]
    rw [if_pos (by omega)]
  have h00 : l ≠ [] → ∀ a, p = some a → AM.loadCells H a 0 = some [] := by
    intro hne a ha
    have := h0 hne a ha 0 (Nat.zero_le _)
    subst ha
    obtain ⟨b, o, s⟩ := a
    have hs' := hs.1
    simp only at hs'; subst hs'
    rw [Nat.zero_mul, addr_add, Nat.add_zero] at this
    exact this
  have hB : ∀ cap, l.length ≤ cap → bounds unV l.length cap (vlo.map .const) (vhi.map .const) none = some (lo, hi, cap) := fun cap hcap => by
    rw [bounds_V, ← hb cap hcap]
    cases vlo <;> cases vhi <;> rfl
  have hblk : ∀ (a : Addr) (n : Nat), (a.add n).block = a.block := fun a n => by
    unfold Addr.add
    split <;> rfl
  rcases hc with rfl | ⟨c1, c2⟩
  · refine ⟨p.map (·.add (lo * e)), loose e, ?_, ?_, .inl rfl, fun a' h => ?_, fun hne a' h => ?_⟩
    · simp only [sliceV, aSliceS, Option.map_none, if_true, hB _ (Nat.le_refl _)]
    · cases p with
      | none => simp only [Sl] at hs; subst hs; simp [Sl]
      | some a => exact hs.sub he h1 h2
    · cases p with
      | none => cases h
      | some a => cases h; exact ⟨a, rfl, hblk _ _⟩
    · cases p with
      | none => cases h
      | some a => cases h; exact h0 hne a rfl lo (by omega)
  · have hnl : ¬ c = loose e := by unfold loose; omega
    refine ⟨if c = lo then p else p.map (·.add (lo * e)), c - lo, ?_, ?_, .inr ⟨by omega, by omega⟩, fun a' h => ?_, fun hne a' h => ?_⟩
    · simp only [sliceV, aSliceS, Option.map_none, if_neg hnl, if_pos c2, hB c c1]
    · split
      · have h0 : (l.take hi).drop lo = [] := List.drop_eq_nil_of_le (by simp; omega)
        rw [h0]
        cases p with
        | none => rfl
        | some a => exact ⟨hs.1, fun h => absurd rfl h⟩
      · cases p with
        | none => simp only [Sl] at hs; subst hs; simp [Sl]
        | some a => exact hs.sub he h1 h2
    · split at h
      · exact ⟨a', h, rfl⟩
      · cases p with
        | none => cases h
        | some a => cases h; exact ⟨a, rfl, hblk _ _⟩
    · split at h
      · exact h00 hne a' h
      · cases p with
        | none => cases h
        | some a => cases h; exact h0 hne a rfl lo (by omega)
theorem slice_arg {t : Ty} {H : Heap} {l : List t.den} {v : Value} {α : Type} (f : t.den → α) (enc : α → List Value) (he : ∀ H x c, Rep t H x c → c = enc (f x)) (h : RepV (.slice t) H l v) :
    ∃ p cap, v = .slice p (l.map f).length cap ∧ Sl H enc t.size p (l.map f) ∧ CapOk t.size cap (l.map f).length ∧ (l.map f).length < 2 ^ 63 := by
  have h0 := RepV.one rfl h
  obtain ⟨p, cap, e, h1, h2⟩ := Rep.sl f enc he h0
  refine ⟨p, cap, List.singleton_inj.1 e, h1, ?_, by simpa using h2⟩
  obtain ⟨_, p', cap', e', k1, k2⟩ := h0
  rw [e] at e'
  simp only [List.cons.injEq, Value.slice.injEq, and_true] at e'
  obtain ⟨e1, _, e3⟩ := e'
  subst e1 e3
  cases p with
  | none => obtain ⟨q1, q2⟩ := k1 rfl; exact .inr (by rw [q1, q2]; simp)
  | some a => exact .inl (k2 a rfl).2.2.1
theorem Sl.same {α : Type} {H G : Heap} {enc : α → List Value} {e : Nat} {p : Option Addr} {l : List α} (h : Sl H enc e p l) (hg : ∀ a, p = Option.some a → l ≠ [] → hget G a.block = hget H a.block) : Sl G enc e p l := by
  cases p with
  | none => exact h
  | some a =>
    refine ⟨h.1, fun hn => ?_⟩
    obtain ⟨ro, c, h2, h3⟩ := h.2 hn
    exact ⟨ro, c, by rw [hg a rfl hn]; exact h2, h3⟩
theorem Ext.get' {H G : Heap} (h : Ext H G) {j : Nat} {b : Blk} (hj : hget H j = b) (hl : j < H.length) : hget G j = b := by
  obtain ⟨X, rfl⟩ := h
  rw [hget_old hl]; exact hj
end Go.AM

namespace Go.Proofs.Ytkppjkkkdpcgiaa.Fn
open Go.AM Go.AM.Sym
set_option maxRecDepth 100000
set_option linter.unusedVariables false
set_option linter.unusedSimpArgs false
set_option maxHeartbeats 4000000
class OB where
  on : FuncId → Bool
def orc [OB] (g : FuncId) (as : List Value) : Option Value := if (g=11) ∧ OB.on g = true ∧ as = [] then some (.bool true) else none
def E [OB] : Env := ⟨tr, pf, orc, true⟩
def Ef [OB] : Env := ⟨tr, pf, orc, false⟩
instance dtE [OB] : DT E E := ⟨rfl⟩
instance dtF [OB] : DT Ef E := ⟨rfl⟩
section
variable {mp : Bool} {lim : Nat} {g : FuncId} {as : List Value} {v : Value} {af : AFunc} {H : Heap} {Q : Value → Heap → Prop}
theorem pc [OB] (h : g≠11) (ht : tr g = some af) (hp : pf g = true) (hf : flat 4 v = true) (hr : Ret E af H.length [.code af.body] (frame0 as) (H ++ []) fun v' _ => v' = v) : CallR E mp lim g as H Q = Q v H :=
  CallR_pure (E := E) (by simp [E, orc, h]) ht hp hf (Ret_pad hr)
theorem runs' [OB] (h : g≠11) (ht : tr g = some af) (hp : pf g = false) (hr : Ret E af lim [.code af.body] (frame0 as) (H ++ []) Q) : CallR E false lim g as H Q := by
  rw [CallR_run (E := E) (by simp [E, orc, h]) ht hp rfl]; exact Ret_pad hr
theorem runsF [OB] (h : g≠11) (ht : tr g = some af) (hp : pf g = false) (hr : Ret Ef af lim [.code af.body] (frame0 as) (H ++ []) Q) : CallR Ef false lim g as H Q := by
  rw [CallR_run (E := Ef) (by simp [Ef, orc, h]) ht hp rfl]; exact Ret_pad hr
theorem CallR.eqF [OB] (h : CallR E mp lim g as H fun v' H1 => v' = v ∧ H1 = H) : CallR Ef mp lim g as H Q = Q v H := CallR.eq (CallR.weak (E := Ef) h)
theorem CallR.eqF' [OB] {H' : Heap} (h : CallR E mp lim g as H fun v' H1 => v' = v ∧ H1 = H') : CallR Ef mp lim g as H Q = Q v H' := CallR.eq (CallR.weak (E := Ef) h)
theorem CallR.one [OB] (h : CallR E mp lim g as H Q) : ∃ n v H', aCall E n mp lim (.inl g) as H = some [(v, H')] ∧ Q v H' := by
  obtain ⟨n, L, h1, h2, h3⟩ := h
  obtain ⟨⟨v, H'⟩, rfl⟩ := h2 rfl
  exact ⟨n, v, H', h1, h3 _ (List.mem_singleton.mpr rfl)⟩
end
def encI (n : Int) : List Value := [.int .i64 n]
theorem encI_len (n : Int) : (encI n).length = 1 := id rfl
theorem hget_alive' {H : Heap} {i : Nat} {es : List (Value × Value)} (h : hget H i = .map es) : i < H.length := by
  rcases Nat.lt_or_ge i H.length with h1 | h1
  · exact h1
  · unfold hget at h
    rw [List.getD_eq_getElem?_getD, List.getElem?_eq_none h1] at h
    cases h
end Go.Proofs.Ytkppjkkkdpcgiaa.Fn

namespace Go.Proofs.Ytkppjkkkdpcgiaa.Fn
open Go.AM Go.AM.Sym Go.Scan
set_option maxRecDepth 100000
set_option linter.unusedVariables false
set_option linter.unusedSimpArgs false
set_option maxHeartbeats 4000000
section
variable {κ ν : Type} [DecidableEq κ]
def getK (k : κ) : List (κ × ν) → Option ν
  | [] => none
  | (k', v) :: l => if k' = k then some v else getK k l
def putK (k : κ) (v : ν) : List (κ × ν) → List (κ × ν)
  | [] => [(k, v)]
  | (k', v') :: l => if k' = k then (k', v) :: l else (k', v') :: putK k v l
def fk (k : κ) : List (κ × ν) → Nat → Option (Nat × ν)
  | [], _ => none
  | (k', v) :: l, i => if k' = k then some (i, v) else fk k l (i + 1)
theorem fk_get (k : κ) : ∀ (l : List (κ × ν)) (i : Nat), (fk k l i).map (·.2) = getK k l
  | [], _ => rfl
  | (k', v) :: l, i => by
    unfold fk getK
    by_cases h : k' = k
    · rw [if_pos h, if_pos h]; rfl
    · rw [if_neg h, if_neg h]; exact fk_get k l (i + 1)
theorem fk_some {k : κ} {v v' : ν} : ∀ {l : List (κ × ν)} {i j : Nat}, fk k l i = some (j, v) → i ≤ j ∧ j - i < l.length ∧ l.set (j - i) (k, v') = putK k v' l
  | [], _, _, h => by cases h
  | (k2, v2) :: l, i, j, h => by
    unfold fk at h
    unfold putK
    by_cases h2 : k2 = k
    · rw [if_pos h2] at h
      cases h
      rw [if_pos h2, Nat.sub_self, h2]
      exact ⟨Nat.le_refl _, by simp, rfl⟩
    · rw [if_neg h2] at h
      obtain ⟨i1, i2, i3⟩ := fk_some (v' := v') h
      rw [if_neg h2]
      have e : j - i = (j - (i + 1)) + 1 := by omega
      rw [e, List.set_cons_succ, i3]
      exact ⟨by omega, by simp only [List.length_cons]; omega, rfl⟩
theorem fk_none {k : κ} {v' : ν} : ∀ {l : List (κ × ν)} {i : Nat}, fk k l i = none → l ++ [(k, v')] = putK k v' l
  | [], _, _ => rfl
  | (k2, v2) :: l, i, h => by
    unfold fk at h
    unfold putK
    by_cases h2 : k2 = k
    · rw [if_pos h2] at h; cases h
    · rw [if_neg h2] at h
      rw [if_neg h2, ← fk_none h, List.cons_append]
theorem getK_put {k k' : κ} {v : ν} : ∀ {l : List (κ × ν)}, getK k' (putK k v l) = if k' = k then some v else getK k' l
  | [] => by
    unfold putK getK
    by_cases h : k' = k
    · rw [if_pos h.symm, if_pos h]
    · rw [if_neg fun q => h q.symm, if_neg h]; rfl
  | (k2, v2) :: l => by
    unfold putK
    by_cases h2 : k2 = k
    · rw [if_pos h2]
      subst h2
      by_cases h : k' = k2
      · rw [if_pos h]; unfold getK; rw [if_pos h.symm]
      · rw [if_neg h]; unfold getK; rw [if_neg fun q => h q.symm, if_neg fun q => h q.symm]
    · rw [if_neg h2]
      by_cases h : k2 = k'
      · have : ¬ k' = k := fun q => h2 (h.trans q)
        rw [if_neg this]; unfold getK; rw [if_pos h, if_pos h]
      · unfold getK; rw [if_neg h, if_neg h]; exact getK_put
theorem putK_len {k : κ} {v : ν} : ∀ {l : List (κ × ν)}, (putK k v l).length ≤ l.length + 1
  | [] => by simp [putK]
  | (k2, v2) :: l => by
    unfold putK
    split
    · simp
    · have := putK_len (k := k) (v := v) (l := l); simp only [List.length_cons]; omega
def encM (kv : κ → Value) (vv : ν → Value) (es : List (κ × ν)) : List (Value × Value) := es.map fun x => (kv x.1, vv x.2)
def KeyEq (kv : κ → Value) : Prop := ∀ a b, keyEq (kv a) (kv b) = some (decide (a = b))
variable {kv : κ → Value} {vv : ν → Value}
theorem findKey_enc (hk : KeyEq kv) (k : κ) : ∀ (es : List (κ × ν)) (i : Nat), findKey (kv k) (encM kv vv es) i = some ((fk k es i).map fun x => (x.1, vv x.2))
  | [], _ => rfl
  | (k', v) :: l, i => by
    unfold encM
    rw [List.map_cons]
    unfold findKey fk
    rw [hk]
    by_cases h : k' = k
    · rw [if_pos h, decide_eq_true h.symm]; rfl
    · rw [if_neg h, decide_eq_false fun q => h q.symm]
      exact findKey_enc hk k l (i + 1)
end
def kM (k : Int × Int) : Value := .agg #[.int .i64 k.1, .int .i64 k.2]
def kS (k : Int × Int × Int) : Value := .agg #[.int .i64 k.1, .int .i64 k.2.1, .int .u8 k.2.2]
def vI (n : Int) : Value := .int .i64 n
theorem kM_eq : KeyEq kM := fun a b => by
  obtain ⟨a1, a2⟩ := a; obtain ⟨b1, b2⟩ := b
  simp only [kM, keyEq, intsEq, if_true, Option.map_some, Bool.and_true, Prod.mk.injEq, Bool.decide_and]
  rfl
theorem kS_eq : KeyEq kS := fun a b => by
  obtain ⟨a1, a2, a3⟩ := a; obtain ⟨b1, b2, b3⟩ := b
  simp only [kS, keyEq, intsEq, if_true, Option.map_some, Bool.and_true, Prod.mk.injEq, Bool.decide_and]
  rfl
theorem kM_ok {k : Int × Int} : keyOk (.ints [.i64, .i64]) (kM k) = true := by simp [kM, keyOk, intsOk]
theorem kS_ok {k : Int × Int × Int} : keyOk (.ints [.i64, .i64, .u8]) (kS k) = true := by simp [kS, keyOk, intsOk]
theorem getM_K (k : Int × Int) : ∀ l, getM k l = getK k l
  | [] => rfl
  | (k', v) :: l => by unfold getM getK; rw [getM_K k l]
theorem putM_K (k : Int × Int) (m : Mk) : ∀ l, putM k m l = putK k m l
  | [] => rfl
  | (k', v) :: l => by unfold putM putK; rw [putM_K k m l]
theorem mapL_all {α β : Type} {f : α → Option β} {g : α → β} : ∀ {l : List α}, (∀ x ∈ l, f x = some (g x)) → mapL f l = some (l.map g)
  | [], _ => rfl
  | x :: l, h => by
    unfold mapL
    rw [h x (by simp), mapL_all (l := l) fun y hy => h y (by simp [hy])]
    rfl
theorem next_free {H : Heap} {I R lim : Nat} {es : List (Value × Value)} {seen : List Nat} {Q : Value → Heap → Prop} (hi : hget H I = .iter (some R) es.length seen) (hl : lim ≤ I) (hm : hget H R = .map es) (hk : ∀ e ∈ es, keyFlat e.1 = true)
    (h0 : unmet es.length seen = [] → Q (.tuple #[.bool false]) H)
    (h1 : ∀ j e, j ∈ unmet es.length seen → es[j]? = some e → Q (.tuple #[.bool true, e.1, e.2]) (H.set I (.iter (some R) es.length (seen ++ [j])))) :
    nxK false (aNext lim (.pointer (some ⟨I, 0, none⟩)) H) Q := by
  have hn : aNext lim (.pointer (some ⟨I, 0, none⟩)) H = match unmet es.length seen with
      | [] => some [(.tuple #[.bool false], H)]
      | j :: l => mapL (fun j => match es[j]? with
        | some e => if keyFlat e.1 then some (.tuple #[.bool true, e.1, e.2], H.set I (.iter (some R) es.length (seen ++ [j]))) else none
        | none => none) (j :: l) := by
    unfold aNext
    simp only [hi, hl, if_true, mapEntries_some, hm]
    cases unmet es.length seen <;> rfl
  rw [hn]
  have hu : ∀ j ∈ unmet es.length seen, j < es.length := fun j hj => by
    unfold unmet at hj
    exact List.mem_range.mp (List.mem_filter.mp hj).1
  split
  · rename_i e
    exact ⟨fun h => (by cases h), fun r hr => by
      rw [List.mem_singleton] at hr; subst hr; exact h0 e⟩
  · rename_i j l e
    rw [← e]
    rw [mapL_all (g := fun j => (.tuple #[.bool true, (es.getD j (undef, undef)).1, (es.getD j (undef, undef)).2], H.set I (.iter (some R) es.length (seen ++ [j])))) fun j hj => by
      have hlt := hu j hj
      have e1 : es[j]? = some es[j] := List.getElem?_eq_getElem hlt
      have e2 : es.getD j (undef, undef) = es[j] := by rw [List.getD_eq_getElem?_getD, e1]; rfl
      rw [e1, e2]
      simp only [hk _ (List.getElem_mem hlt), if_true]]
    refine ⟨fun h => (by cases h), fun r hr => ?_⟩
    obtain ⟨j', hj, rfl⟩ := List.mem_map.mp hr
    have hlt := hu j' hj
    have e1 : es[j']? = some es[j'] := List.getElem?_eq_getElem hlt
    have e2 : es.getD j' (undef, undef) = es[j'] := by rw [List.getD_eq_getElem?_getD, e1]; rfl
    have := h1 j' _ hj e1
    simp only [e2]
    exact this
theorem entry_free {H : Heap} {I R : Nat} {es : List (Value × Value)} {seen : List Nat} {j : Nat} {e : Value × Value} (hi : hget H I = .iter (some R) es.length (seen ++ [j])) (hm : hget H R = .map es) (he : es[j]? = some e) (hk : keyFlat e.1 = true) :
    aEntry (.pointer (some ⟨I, 0, none⟩)) H = some (.tuple #[e.1, e.2], H) := by
  unfold aEntry
  simp only [hi, mapEntries_some, hm, List.getLast?_concat, he, hk, if_true]
theorem range_free {H : Heap} {R : Nat} {es : List (Value × Value)} (hm : hget H R = .map es) : aRangeMap (.map (some R)) H = some (.pointer (some ⟨H.length, 0, none⟩), H ++ [.iter (some R) es.length []]) := by
  unfold aRangeMap
  simp only [mapEntries_some, hm]
structure MetOk (n : Nat) (seen : List Nat) : Prop where
  nd : seen.Nodup
  lt : ∀ j ∈ seen, j < n
theorem MetOk.add {n : Nat} {seen : List Nat} (h : MetOk n seen) {j : Nat} (hj : j ∈ unmet n seen) : MetOk n (seen ++ [j]) := by
  unfold unmet at hj
  obtain ⟨h1, h2⟩ := List.mem_filter.mp hj
  have hn : j ∉ seen := by simpa using h2
  refine ⟨List.nodup_append.mpr ⟨h.nd, List.pairwise_singleton _ _, fun a ha b hb hab => ?_⟩, fun k hk => ?_⟩
  · rw [List.mem_singleton] at hb; subst hb; subst hab; exact hn ha
  · rcases List.mem_append.mp hk with hk | hk
    · exact h.lt k hk
    · rw [List.mem_singleton] at hk; subst hk; exact List.mem_range.mp h1
theorem MetOk.len {n : Nat} {seen : List Nat} (h : MetOk n seen) : seen.length ≤ n := by
  have := h.nd.length_le_of_subset (l₂ := List.range n) fun j hj => List.mem_range.mpr (h.lt j hj)
  simpa using this
theorem MetOk.perm {n : Nat} {seen : List Nat} (h : MetOk n seen) (hu : unmet n seen = []) : seen.Perm (List.range n) := by
  refine (List.perm_ext_iff_of_nodup h.nd List.nodup_range).mpr fun j => ⟨fun hj => List.mem_range.mpr (h.lt j hj), fun hj => ?_⟩
  unfold unmet at hu
  rw [List.filter_eq_nil_iff] at hu
  simpa using hu j hj
def metV {κ ν : Type} [Inhabited ν] (es : List (κ × ν)) (seen : List Nat) : List ν := seen.map fun j => gt (es.map (·.2)) j
theorem metV_all {κ ν : Type} [Inhabited ν] {es : List (κ × ν)} {seen : List Nat} (h : MetOk es.length seen) (hu : unmet es.length seen = []) : (metV es seen).Perm (es.map (·.2)) := by
  have e : (List.range es.length).map (fun j => gt (es.map (·.2)) j) = es.map (·.2) := by
    refine List.ext_getElem (by simp) fun i h1 h2 => ?_
    rw [List.getElem_map, List.getElem_range, gt_lt h2]
  have hp : (seen.map fun j => gt (es.map (·.2)) j).Perm ((List.range es.length).map fun j => gt (es.map (·.2)) j) := (h.perm hu).map _
  rw [e] at hp
  exact hp
def encE (e : Ev) : List Value := [.int .i64 e.item, .int .i64 e.place, .int .i64 e.scanner, .int .u8 e.kind, .int .i64 e.at', .int .i64 e.seen, .int .i64 e.time]
def encN (e : Ev) : List Value := [.int .i64 e.item, .int .i64 e.place, .int .i64 e.scanner, .int .u8 e.kind, .int .i64 e.at', .int .i64 e.seen]
def encK (m : Mk) : List Value := [.int .i64 m.scanner, .int .i64 m.at', .int .i64 m.off]
theorem encE_len (e : Ev) : (encE e).length = 7 := id rfl
theorem encN_len (e : Ev) : (encN e).length = 6 := id rfl
theorem encK_len (e : Mk) : (encK e).length = 3 := id rfl
theorem encE_0 {e : Ev} : (encE e)[0]? = some (.int .i64 e.item) := id rfl
theorem encE_1 {e : Ev} : (encE e)[1]? = some (.int .i64 e.place) := id rfl
theorem encE_2 {e : Ev} : (encE e)[2]? = some (.int .i64 e.scanner) := id rfl
theorem encE_3 {e : Ev} : (encE e)[3]? = some (.int .u8 e.kind) := id rfl
theorem encE_4 {e : Ev} : (encE e)[4]? = some (.int .i64 e.at') := id rfl
theorem encE_5 {e : Ev} : (encE e)[5]? = some (.int .i64 e.seen) := id rfl
theorem encE_6 {e : Ev} : (encE e)[6]? = some (.int .i64 e.time) := id rfl
theorem encN_0 {e : Ev} : (encN e)[0]? = some (.int .i64 e.item) := id rfl
theorem encN_1 {e : Ev} : (encN e)[1]? = some (.int .i64 e.place) := id rfl
theorem encN_2 {e : Ev} : (encN e)[2]? = some (.int .i64 e.scanner) := id rfl
theorem encN_3 {e : Ev} : (encN e)[3]? = some (.int .u8 e.kind) := id rfl
theorem encN_4 {e : Ev} : (encN e)[4]? = some (.int .i64 e.at') := id rfl
theorem encN_5 {e : Ev} : (encN e)[5]? = some (.int .i64 e.seen) := id rfl
theorem encK_0 {m : Mk} : (encK m)[0]? = some (.int .i64 m.scanner) := id rfl
theorem encK_1 {m : Mk} : (encK m)[1]? = some (.int .i64 m.at') := id rfl
theorem encK_2 {m : Mk} : (encK m)[2]? = some (.int .i64 m.off) := id rfl
theorem isid_ok [OB] {mp : Bool} {lim : Nat} {a : Int} {H : Heap} {Q : Value → Heap → Prop} : CallR E mp lim 43 [.int .i64 a] H Q = Q (.bool (decide (1 ≤ a ∧ a ≤ 999999))) H := by
  refine pc (by decide) e43 rfl rfl ?_
  rw [b43, c43]
  by_cases h1 : 1 ≤ a
  · simp only [n43, r43, eq_true h1, SB, Nat.reduceLT, callee, aOp, ne_eq, Nat.reduceEqDiff, aBin, aUn, if_true, if_false, reduceCtorEq, frame0, place, notTuple, Nat.reduceAdd, Nat.reduceLeDiff, resVal, dite_true, dite_false, Int.reduceEq, Int.reduceLT, Int.reduceLE]
  · simp only [n43, r43, eq_false h1, SB, Nat.reduceLT, callee, aOp, ne_eq, Nat.reduceEqDiff, aBin, aUn, if_true, if_false, reduceCtorEq, frame0, place, notTuple, Nat.reduceAdd, Nat.reduceLeDiff, resVal, dite_true, dite_false, Int.reduceEq, Int.reduceLT, Int.reduceLE]
theorem istime_ok [OB] {mp : Bool} {lim : Nat} {a : Int} {H : Heap} {Q : Value → Heap → Prop} : CallR E mp lim 44 [.int .i64 a] H Q = Q (.bool (decide (0 ≤ a ∧ a ≤ maxT))) H := by
  refine pc (by decide) e44 rfl rfl ?_
  rw [b44, c44]
  unfold maxT
  by_cases h1 : 0 ≤ a
  · simp only [n44, r44, eq_true h1, SB, Nat.reduceLT, callee, aOp, ne_eq, Nat.reduceEqDiff, aBin, aUn, if_true, if_false, reduceCtorEq, frame0, place, notTuple, Nat.reduceAdd, Nat.reduceLeDiff, resVal, dite_true, dite_false, Int.reduceEq, Int.reduceLT, Int.reduceLE]
  · simp only [n44, r44, eq_false h1, SB, Nat.reduceLT, callee, aOp, ne_eq, Nat.reduceEqDiff, aBin, aUn, if_true, if_false, reduceCtorEq, frame0, place, notTuple, Nat.reduceAdd, Nat.reduceLeDiff, resVal, dite_true, dite_false, Int.reduceEq, Int.reduceLT, Int.reduceLE]
theorem sright_ok [OB] {mp : Bool} {lim : Nat} {e : Ev} {H : Heap} {Q : Value → Heap → Prop} : CallR E mp lim 34 [.agg (encN e).toArray] H Q = Q (.bool (decide (FineE e))) H := by
  refine pc (by decide) e34 rfl rfl ?_
  rw [b34, c34]
  have no : ¬ FineE e → decide (FineE e) = false := fun h => decide_eq_false h
  by_cases h1 : 1 ≤ e.item ∧ e.item ≤ 999999
  case neg => simp only [n34, r34, encN, isid_ok, istime_ok, decide_eq_false h1, no (fun h => h1 h.1), SB, Nat.reduceLT, callee, aOp, ne_eq, Nat.reduceEqDiff, aBin, aUn, if_true, if_false, reduceCtorEq, frame0, place, notTuple, Nat.reduceAdd, Nat.reduceLeDiff, resVal, dite_true, dite_false, Int.reduceEq, Int.reduceLT, Int.reduceLE]
  by_cases h2 : 1 ≤ e.place ∧ e.place ≤ 999999
  case neg => simp only [n34, r34, encN, isid_ok, istime_ok, decide_eq_true h1, decide_eq_false h2, no (fun h => h2 h.2.1), SB, Nat.reduceLT, callee, aOp, ne_eq, Nat.reduceEqDiff, aBin, aUn, if_true, if_false, reduceCtorEq, frame0, place, notTuple, Nat.reduceAdd, Nat.reduceLeDiff, resVal, dite_true, dite_false, Int.reduceEq, Int.reduceLT, Int.reduceLE]
  by_cases h3 : 1 ≤ e.scanner ∧ e.scanner ≤ 999999
  case neg => simp only [n34, r34, encN, isid_ok, istime_ok, decide_eq_true h1, decide_eq_true h2, decide_eq_false h3, no (fun h => h3 h.2.2.1), SB, Nat.reduceLT, callee, aOp, ne_eq, Nat.reduceEqDiff, aBin, aUn, if_true, if_false, reduceCtorEq, frame0, place, notTuple, Nat.reduceAdd, Nat.reduceLeDiff, resVal, dite_true, dite_false, Int.reduceEq, Int.reduceLT, Int.reduceLE]
  by_cases h4 : 1 ≤ e.kind
  case neg => simp only [n34, r34, encN, isid_ok, istime_ok, decide_eq_true h1, decide_eq_true h2, decide_eq_true h3, eq_false h4, no (fun h => h4 h.2.2.2.1.1), SB, Nat.reduceLT, callee, aOp, ne_eq, Nat.reduceEqDiff, aBin, aUn, if_true, if_false, reduceCtorEq, frame0, place, notTuple, Nat.reduceAdd, Nat.reduceLeDiff, resVal, dite_true, dite_false, Int.reduceEq, Int.reduceLT, Int.reduceLE]
  by_cases h5 : e.kind ≤ 4
  case neg => simp only [n34, r34, encN, isid_ok, istime_ok, decide_eq_true h1, decide_eq_true h2, decide_eq_true h3, eq_true h4, eq_false h5, no (fun h => h5 h.2.2.2.1.2), SB, Nat.reduceLT, callee, aOp, ne_eq, Nat.reduceEqDiff, aBin, aUn, if_true, if_false, reduceCtorEq, frame0, place, notTuple, Nat.reduceAdd, Nat.reduceLeDiff, resVal, dite_true, dite_false, Int.reduceEq, Int.reduceLT, Int.reduceLE]
  by_cases h6 : 0 ≤ e.at' ∧ e.at' ≤ maxT
  case neg => simp only [n34, r34, encN, isid_ok, istime_ok, decide_eq_true h1, decide_eq_true h2, decide_eq_true h3, eq_true h4, eq_true h5, decide_eq_false h6, no (fun h => h6 h.2.2.2.2.1), SB, Nat.reduceLT, callee, aOp, ne_eq, Nat.reduceEqDiff, aBin, aUn, if_true, if_false, reduceCtorEq, frame0, place, notTuple, Nat.reduceAdd, Nat.reduceLeDiff, resVal, dite_true, dite_false, Int.reduceEq, Int.reduceLT, Int.reduceLE]
  have hh : decide (FineE e) = decide (0 ≤ e.seen ∧ e.seen ≤ maxT) := by
    rw [decide_eq_decide]
    exact ⟨fun h => h.2.2.2.2.2, fun h => ⟨h1, h2, h3, ⟨h4, h5⟩, h6, h⟩⟩
  simp only [n34, r34, encN, isid_ok, istime_ok, decide_eq_true h1, decide_eq_true h2, decide_eq_true h3, eq_true h4, eq_true h5, decide_eq_true h6, hh, SB, Nat.reduceLT, callee, aOp, ne_eq, Nat.reduceEqDiff, aBin, aUn, if_true, if_false, reduceCtorEq, frame0, place, notTuple, Nat.reduceAdd, Nat.reduceLeDiff, resVal, dite_true, dite_false, Int.reduceEq, Int.reduceLT, Int.reduceLE]
theorem isNaN_ok [OB] {mp : Bool} {lim : Nat} {n : Int} {H : Heap} {Q : Value → Heap → Prop} : CallR E mp lim 65 [.int .i64 n] H Q = Q (.bool false) H := by
  refine pc (by decide) e65 rfl rfl ?_
  rw [b65, c65]
  simp only [n65, r65, SB, Nat.reduceLT, callee, aOp, ne_eq, Nat.reduceEqDiff, aBin, aUn, if_true, if_false, reduceCtorEq, frame0, place, notTuple, Nat.reduceAdd, Nat.reduceLeDiff, resVal, dite_true, dite_false, Int.reduceEq, Int.reduceLT, Int.reduceLE]
theorem isNaN8_ok [OB] {mp : Bool} {lim : Nat} {n : Int} {H : Heap} {Q : Value → Heap → Prop} : CallR E mp lim 79 [.int .u8 n] H Q = Q (.bool false) H := by
  refine pc (by decide) e79 rfl rfl ?_
  rw [b79, c79]
  simp only [n79, r79, SB, Nat.reduceLT, callee, aOp, ne_eq, Nat.reduceEqDiff, aBin, aUn, if_true, if_false, reduceCtorEq, frame0, place, notTuple, Nat.reduceAdd, Nat.reduceLeDiff, resVal, dite_true, dite_false, Int.reduceEq, Int.reduceLT, Int.reduceLE]
def cmpI (a b : Int) : Int := if a < b then -1 else if b < a then 1 else 0
theorem cmp_ok [OB] {mp : Bool} {lim : Nat} {a b : Int} {H : Heap} {Q : Value → Heap → Prop} : CallR E mp lim 53 [.int .i64 a, .int .i64 b] H Q = Q (.int .i64 (cmpI a b)) H := by
  refine pc (by decide) e53 rfl rfl ?_
  rw [b53, c53]
  simp only [n53, r53, isNaN_ok, SB, Nat.reduceLT, callee, aOp, ne_eq, Nat.reduceEqDiff, aBin, aUn, if_true, if_false, reduceCtorEq, frame0, place, notTuple, Nat.reduceAdd, Nat.reduceLeDiff, resVal, dite_true, dite_false, Int.reduceEq, Int.reduceLT, Int.reduceLE]
  repeat' ((first | refine wantK_dec (fun hw => ?_) (fun hw => ?_) | refine condK_dec (fun hw => ?_) (fun hw => ?_) | refine wantK_any (fun hw => ?_) (fun hw => ?_) | refine condK_any (fun hw => ?_) (fun hw => ?_)) <;> (try simp only [hw, n53, r53, isNaN_ok, SB, Nat.reduceLT, callee, aOp, ne_eq, Nat.reduceEqDiff, aBin, aUn, if_true, if_false, reduceCtorEq, frame0, place, notTuple, Nat.reduceAdd, Nat.reduceLeDiff, resVal, dite_true, dite_false, Int.reduceEq, Int.reduceLT, Int.reduceLE]))
  all_goals simp [cmpI, *]
theorem cmp8_ok [OB] {mp : Bool} {lim : Nat} {a b : Int} {H : Heap} {Q : Value → Heap → Prop} : CallR E mp lim 61 [.int .u8 a, .int .u8 b] H Q = Q (.int .i64 (cmpI a b)) H := by
  refine pc (by decide) e61 rfl rfl ?_
  rw [b61, c61]
  simp only [n61, r61, isNaN8_ok, SB, Nat.reduceLT, callee, aOp, ne_eq, Nat.reduceEqDiff, aBin, aUn, if_true, if_false, reduceCtorEq, frame0, place, notTuple, Nat.reduceAdd, Nat.reduceLeDiff, resVal, dite_true, dite_false, Int.reduceEq, Int.reduceLT, Int.reduceLE]
  repeat' ((first | refine wantK_dec (fun hw => ?_) (fun hw => ?_) | refine condK_dec (fun hw => ?_) (fun hw => ?_) | refine wantK_any (fun hw => ?_) (fun hw => ?_) | refine condK_any (fun hw => ?_) (fun hw => ?_)) <;> (try simp only [hw, n61, r61, isNaN8_ok, SB, Nat.reduceLT, callee, aOp, ne_eq, Nat.reduceEqDiff, aBin, aUn, if_true, if_false, reduceCtorEq, frame0, place, notTuple, Nat.reduceAdd, Nat.reduceLeDiff, resVal, dite_true, dite_false, Int.reduceEq, Int.reduceLT, Int.reduceLE]))
  all_goals simp [cmpI, *]
def orL : List Int → Int
  | [] => 0
  | x :: l => if x ≠ 0 then x else orL l
theorem orL_drop {l : List Int} {i : Nat} (h : i < l.length) : orL (l.drop i) = if gt l i ≠ 0 then gt l i else orL (l.drop (i + 1)) := by
  rw [List.drop_eq_getElem_cons h, orL, gt_lt h]
theorem or_ok [OB] (mp : Bool) (lim : Nat) {p : Option Addr} {l : List Int} {cap : Nat} {H : Heap} {Q : Value → Heap → Prop} (hs : Sl H encI 1 p l) (hn : l.length < 2 ^ 62) :
    CallR E mp lim 52 [.slice p l.length cap] H Q = Q (.int .i64 (orL l)) H := by
  refine pc (by decide) e52 rfl rfl ?_
  rw [b52, c52]
  simp only [n52, r52, SB, Nat.reduceLT, callee, aOp, ne_eq, Nat.reduceEqDiff, aBin, aUn, if_true, if_false, reduceCtorEq, frame0, place, notTuple, Nat.reduceAdd, Nat.reduceLeDiff, resVal, dite_true, dite_false, Int.reduceEq, Int.reduceLT, Int.reduceLE]
  refine Ret_rounds (fun i => l.length - i) (fun i fr G => i ≤ l.length ∧ fr 6 = .slice p l.length cap ∧ fr 7 = .int .i64 (l.length : Int) ∧ fr 8 = .int .i64 (i : Int) ∧ fr 3 = .int .i64 0 ∧ Sl G encI 1 p l ∧
    orL l = orL (l.drop i)) 0 ⟨Nat.zero_le _, (by simp only [FB, Nat.reduceEqDiff]), (by simp only [FB, Nat.reduceEqDiff]), by rfl, (by simp only [FB, Nat.reduceEqDiff]), hs.app _, rfl⟩ ?_
  intro i fr G ⟨hi, h6, h7, h8, h3, hg, ha⟩ hN
  rw [Ret_code l52_1.eq_1]
  refine Ret_pad ?_
  by_cases hlt : i < l.length
  · have hld := (hg.app []).loadCell0 (fun _ => rfl) hlt (by decide)
    have hidx := fun c (k : IntKind) (H1 : Heap) => hg.idx (c := c) (k := k) (H1 := H1) hlt
    have hw1 : IntKind.i64.wrap ((i : Int) + 1) = ((i + 1 : Nat) : Int) := wrap_nat (by omega)
    rw [orL_drop hlt] at ha
    simp only [n52, r52, h6, h7, h8, h3, hlt, hidx, hld, encI, hw1, SB, Nat.reduceLT, callee, aOp, ne_eq, Nat.reduceEqDiff, aBin, aUn, if_true, if_false, reduceCtorEq, frame0, place, notTuple, Nat.reduceAdd, Nat.reduceLeDiff, resVal, dite_true, dite_false, Int.reduceEq, Int.reduceLT, Int.reduceLE]
    repeat' ((first | refine wantK_dec (fun hw => ?_) (fun hw => ?_) | refine condK_dec (fun hw => ?_) (fun hw => ?_) | refine wantK_any (fun hw => ?_) (fun hw => ?_) | refine condK_any (fun hw => ?_) (fun hw => ?_)) <;> (try simp only [hw, n52, r52, h6, h7, h8, h3, hlt, hidx, hld, encI, hw1, SB, Nat.reduceLT, callee, aOp, ne_eq, Nat.reduceEqDiff, aBin, aUn, if_true, if_false, reduceCtorEq, frame0, place, notTuple, Nat.reduceAdd, Nat.reduceLeDiff, resVal, dite_true, dite_false, Int.reduceEq, Int.reduceLT, Int.reduceLE]))
    · rw [ha, if_pos hw]
    · refine hN (i + 1) _ _ ⟨by omega, (by simp only [h6, FB, Nat.reduceEqDiff]), (by simp only [h7, FB, Nat.reduceEqDiff]), (by simp only [FB, Nat.reduceEqDiff]), (by simp only [h3, FB, Nat.reduceEqDiff]), hg.app _, ?_⟩ (by omega)
      rw [ha, if_neg hw]
  · obtain rfl : i = l.length := by omega
    rw [List.drop_length, orL] at ha
    simp only [n52, r52, h6, h7, h8, h3, hlt, ha, SB, Nat.reduceLT, callee, aOp, ne_eq, Nat.reduceEqDiff, aBin, aUn, if_true, if_false, reduceCtorEq, frame0, place, notTuple, Nat.reduceAdd, Nat.reduceLeDiff, resVal, dite_true, dite_false, Int.reduceEq, Int.reduceLT, Int.reduceLE]
def intsOf : List Value → List Int
  | .int _ a :: r => a :: intsOf r
  | _ => []
def okInts : List Value → Bool
  | .int .i64 _ :: r => okInts r
  | [] => true
  | _ => false
theorem intsOf_cons {j : IntKind} {a : Int} {r : List Value} : intsOf (.int j a :: r) = a :: intsOf r := rfl
theorem intsOf_nil : intsOf [] = [] := rfl
theorem okInts_cons {a : Int} {r : List Value} : okInts (.int .i64 a :: r) = okInts r := id rfl
theorem okInts_nil : okInts [] = true := id rfl
theorem intsOf_ok : ∀ c : List Value, okInts c = true → c = (intsOf c).flatMap encI
  | [], _ => rfl
  | .int .i64 a :: r, h => by
    rw [intsOf_cons, List.flatMap_cons, ← intsOf_ok r h]; rfl
theorem or_lit [OB] {mp : Bool} {lim b n cap : Nat} {H : Heap} {Q : Value → Heap → Prop} (h1 : isCells (hget H b) = true) (h2 : okInts (cellsOf (hget H b)) = true) (h3 : (intsOf (cellsOf (hget H b))).length = n) (h4 : n < 2 ^ 62) :
    CallR E mp lim 52 [.slice (some ⟨b, 0, none⟩) n cap] H Q = Q (.int .i64 (orL (intsOf (cellsOf (hget H b))))) H := by
  subst h3
  rw [or_ok mp lim (Sl.lit (fun _ => rfl) h1 (intsOf_ok _ h2)) h4]
theorem lexC_cons {a b : Int} {x y : List Int} : lexC (a :: x) (b :: y) = if cmpI a b ≠ 0 then cmpI a b else lexC x y := by
  rw [lexC]
  unfold cmpI
  by_cases h1 : a < b
  · simp [h1]
  · by_cases h2 : b < a
    · simp [h1, h2]
    · simp [h1, h2]
theorem lexC_nil : lexC [] [] = 0 := rfl
theorem compM_ok [OB] {mp : Bool} {lim : Nat} {a b : Mk} {H : Heap} {Q : Value → Heap → Prop} : CallR E mp lim 51 [.agg (encK a).toArray, .agg (encK b).toArray] H Q = Q (.int .i64 (lexC (keysM a) (keysM b))) H := by
  refine pc (by decide) e51 rfl rfl ?_
  rw [b51, c51]
  simp only [n51, r51, encK, cmp_ok, cmp8_ok, or_lit, isCells_cells, cellsOf_cells, intsOf_cons, intsOf_nil, okInts_cons, okInts_nil, Nat.reducePow, SB, Nat.reduceLT, callee, aOp, ne_eq, Nat.reduceEqDiff, aBin, aUn, if_true, if_false, reduceCtorEq, frame0, place, notTuple, Nat.reduceAdd, Nat.reduceLeDiff, resVal, dite_true, dite_false, Int.reduceEq, Int.reduceLT, Int.reduceLE]
  simp only [keysM, lexC_cons, lexC_nil, orL]
theorem compE_ok [OB] {mp : Bool} {lim : Nat} {a b : Ev} {H : Heap} {Q : Value → Heap → Prop} : CallR E mp lim 48 [.agg (encE a).toArray, .agg (encE b).toArray] H Q = Q (.int .i64 (lexC (keysE a) (keysE b))) H := by
  refine pc (by decide) e48 rfl rfl ?_
  rw [b48, c48]
  simp only [n48, r48, encE, cmp_ok, cmp8_ok, or_lit, isCells_cells, cellsOf_cells, intsOf_cons, intsOf_nil, okInts_cons, okInts_nil, Nat.reducePow, SB, Nat.reduceLT, callee, aOp, ne_eq, Nat.reduceEqDiff, aBin, aUn, if_true, if_false, reduceCtorEq, frame0, place, notTuple, Nat.reduceAdd, Nat.reduceLeDiff, resVal, dite_true, dite_false, Int.reduceEq, Int.reduceLT, Int.reduceLE]
  simp only [keysE, lexC_cons, lexC_nil, orL]
theorem sameM_ok [OB] {mp : Bool} {lim : Nat} {a b : Mk} {H : Heap} {Q : Value → Heap → Prop} : CallR E mp lim 55 [.agg (encK a).toArray, .agg (encK b).toArray] H Q = Q (.bool (decide (sameM a b))) H := by
  refine pc (by decide) e55 rfl rfl ?_
  rw [b55, c55]
  unfold sameM
  by_cases h1 : a.scanner = b.scanner
  · simp only [n55, r55, encK, eq_true h1, decide_true, true_and, SB, Nat.reduceLT, callee, aOp, ne_eq, Nat.reduceEqDiff, aBin, aUn, if_true, if_false, reduceCtorEq, frame0, place, notTuple, Nat.reduceAdd, Nat.reduceLeDiff, resVal, dite_true, dite_false, Int.reduceEq, Int.reduceLT, Int.reduceLE]
  · simp only [n55, r55, encK, eq_false h1, decide_false, false_and, SB, Nat.reduceLT, callee, aOp, ne_eq, Nat.reduceEqDiff, aBin, aUn, if_true, if_false, reduceCtorEq, frame0, place, notTuple, Nat.reduceAdd, Nat.reduceLeDiff, resVal, dite_true, dite_false, Int.reduceEq, Int.reduceLT, Int.reduceLE]
theorem div_eq {a b : Int} (h : 0 < b) : a / b = if Int.tmod a b < 0 then Int.tdiv a b - 1 else Int.tdiv a b := by
  have h1 := Int.mul_tdiv_add_tmod a b
  by_cases ha : 0 ≤ a
  · rw [if_neg (by have := Int.tmod_nonneg b ha; omega), Int.tdiv_eq_ediv_of_nonneg ha]
  · have hm : Int.tmod a b ≤ 0 := by
      have := Int.tmod_nonneg b (a := -a) (by omega)
      rw [Int.neg_tmod] at this; omega
    have hb : -b < Int.tmod a b := by
      have := Int.tmod_lt_of_pos (-a) h
      rw [Int.neg_tmod] at this; omega
    by_cases h0 : Int.tmod a b < 0
    · rw [if_pos h0]
      exact ((Int.ediv_emod_unique (a := a) (r := Int.tmod a b + b) (q := Int.tdiv a b - 1) h).mpr ⟨by rw [Int.mul_sub, Int.mul_one]; omega, by omega, by omega⟩).1
    · rw [if_neg h0]
      exact ((Int.ediv_emod_unique (a := a) (r := Int.tmod a b) (q := Int.tdiv a b) h).mpr ⟨by omega, by omega, by omega⟩).1
theorem div_ok [OB] {mp : Bool} {lim : Nat} {a b : Int} {H : Heap} {Q : Value → Heap → Prop} (h : 0 < b) (h1 : -2 ^ 62 ≤ a) (h2 : a ≤ 2 ^ 62) : CallR E mp lim 58 [.int .i64 a, .int .i64 b] H Q = Q (.int .i64 (a / b)) H := by
  refine pc (by decide) e58 rfl rfl ?_
  rw [b58, c58]
  have hq : -2 ^ 62 ≤ Int.tdiv a b ∧ Int.tdiv a b ≤ 2 ^ 62 := by
    have := Int.natAbs_tdiv_le_natAbs a b
    omega
  have hb : ¬ b = 0 := by omega
  have e := div_eq (a := a) h
  have w1 : IntKind.i64.wrap (Int.tdiv a b) = Int.tdiv a b := wrap_id (by omega) (by omega)
  have w2 : IntKind.i64.wrap (Int.tdiv a b - 1) = Int.tdiv a b - 1 := wrap_id (by omega) (by omega)
  have w3 : IntKind.i64.wrap (Int.tmod a b) = Int.tmod a b := by
    have m1 := Int.tmod_lt_of_pos a h
    have m2 := Int.natAbs_tmod a b
    have m3 : a.natAbs % b.natAbs ≤ a.natAbs := Nat.mod_le _ _
    exact wrap_id (by omega) (by omega)
  by_cases hm : Int.tmod a b < 0
  · rw [if_pos hm] at e
    simp only [n58, r58, eq_false hb, w1, w2, w3, eq_true hm, e, SB, Nat.reduceLT, callee, aOp, ne_eq, Nat.reduceEqDiff, aBin, aUn, if_true, if_false, reduceCtorEq, frame0, place, notTuple, Nat.reduceAdd, Nat.reduceLeDiff, resVal, dite_true, dite_false, Int.reduceEq, Int.reduceLT, Int.reduceLE]
  · rw [if_neg hm] at e
    simp only [n58, r58, eq_false hb, w1, w2, w3, eq_false hm, e, SB, Nat.reduceLT, callee, aOp, ne_eq, Nat.reduceEqDiff, aBin, aUn, if_true, if_false, reduceCtorEq, frame0, place, notTuple, Nat.reduceAdd, Nat.reduceLeDiff, resVal, dite_true, dite_false, Int.reduceEq, Int.reduceLT, Int.reduceLE]
theorem of11_ok [OB] {mp : Bool} {lim B1 B2 c i : Nat} {o1 o2 : Bool} {p : Option Addr} {M : List Mk} {sc : Int} {H : Heap} {Q : Value → Heap → Prop} (h1 : hget H B1 = .cells o1 [.slice p M.length c]) (h2 : hget H B2 = .cells o2 [.int .i64 sc]) (hs : Sl H encK 3 p M) (hi : i < M.length) :
    CallR E mp lim 68 [.int .i64 (i : Int), .pointer (some ⟨B1, 0, none⟩), .pointer (some ⟨B2, 0, none⟩)] H Q = Q (.bool (decide (sc ≤ (gt M i).scanner))) H := by
  refine pc (by decide) e68 rfl rfl ?_
  rw [b68, c68]
  have q1 := fun X => (Ext.refl.app (X := X)).cells h1
  have q2 := fun X => (Ext.refl.app (X := X)).cells h2
  have hld := fun X => (hs.app X).loadCell (fun _ => rfl) hi (show 0 < 3 by decide)
  have hidx := fun c (k : IntKind) (H1 : Heap) => hs.idx (c := c) (k := k) (H1 := H1) hi
  simp only [n68, r68, q1, q2, hld, hidx, encK_0, ge_iff_le, SB, Nat.reduceLT, callee, aOp, ne_eq, Nat.reduceEqDiff, aBin, aUn, if_true, if_false, reduceCtorEq, frame0, place, notTuple, Nat.reduceAdd, Nat.reduceLeDiff, resVal, dite_true, dite_false, Int.reduceEq, Int.reduceLT, Int.reduceLE]
theorem wrapU {x : Int} : IntKind.u64.wrap x = x % 2 ^ 64 := by
  simp only [IntKind.wrap, IntKind.bits, IntKind.signed]
  simp
theorem search_ok [OB] {mp : Bool} {lim B1 B2 c f : Nat} {o1 o2 : Bool} {p : Option Addr} {M : List Mk} {sc : Int} {H : Heap} {Q : Value → Heap → Prop} (h1 : hget H B1 = .cells o1 [.slice p M.length c]) (h2 : hget H B2 = .cells o2 [.int .i64 sc]) (hs : Sl H encK 3 p M) (hn : M.length < 2 ^ 40)
    (hf : f ≤ M.length) (hlo : ∀ i, i < f → (gt M i).scanner < sc) (hhi : ∀ i, f ≤ i → i < M.length → sc ≤ (gt M i).scanner) :
    CallR E mp lim 67 [.int .i64 (M.length : Int), .func (.func 68) #[] #[.pointer (some ⟨B1, 0, none⟩), .pointer (some ⟨B2, 0, none⟩)]] H Q = Q (.int .i64 (f : Int)) H := by
  refine pc (by decide) e67 rfl rfl ?_
  rw [b67, c67]
  simp only [n67, r67, SB, Nat.reduceLT, callee, aOp, ne_eq, Nat.reduceEqDiff, aBin, aUn, if_true, if_false, reduceCtorEq, frame0, place, notTuple, Nat.reduceAdd, Nat.reduceLeDiff, resVal, dite_true, dite_false, Int.reduceEq, Int.reduceLT, Int.reduceLE]
  refine Ret_rounds (fun s : Nat × Nat => s.2 - s.1) (fun s fr G => s.1 ≤ f ∧ f ≤ s.2 ∧ s.2 ≤ M.length ∧ fr 1 = .func (.func 68) #[] #[.pointer (some ⟨B1, 0, none⟩), .pointer (some ⟨B2, 0, none⟩)] ∧ fr 5 = .int .i64 (s.1 : Int) ∧ fr 6 = .int .i64 (s.2 : Int) ∧ Ext H G) (0, M.length)
    ⟨Nat.zero_le _, hf, Nat.le_refl _, (by simp only [FB, Nat.reduceEqDiff]), by rfl, (by simp only [FB, Nat.reduceEqDiff]), Ext.refl.app⟩ ?_
  rintro ⟨i, j⟩ fr G ⟨k1, k2, k3, g1, g5, g6, hE⟩ hN
  simp only at k1 k2 k3 g5 g6
  rw [Ret_code l67_1.eq_1]
  refine Ret_pad ?_
  have q1 := fun X => (hE.app (X := X)).cells h1
  have q2 := fun X => (hE.app (X := X)).cells h2
  have q3 := fun X => (hE.app (X := X)).sl hs
  have wa : IntKind.i64.wrap ((i : Int) + (j : Int)) = (i : Int) + (j : Int) := wrap_id (by omega) (by omega)
  have wu : IntKind.u64.wrap ((i : Int) + (j : Int)) = (i : Int) + (j : Int) := by rw [wrapU]; omega
  have wc : IntKind.i64.wrap (((i : Int) + (j : Int)).fdiv (2 ^ min (Int.toNat 1) IntKind.u64.bits)) = (((i + j) / 2 : Nat) : Int) := by
    rw [show (2 : Int) ^ min (Int.toNat 1) IntKind.u64.bits = 2 from by decide, Int.fdiv_eq_ediv_of_nonneg _ (by decide)]
    exact (wrap_id (by omega) (by omega)).trans (by omega)
  have wd : IntKind.i64.wrap ((((i + j) / 2 : Nat) : Int) + 1) = (((i + j) / 2 + 1 : Nat) : Int) := wrap_nat (by omega)
  by_cases hij : i < j
  · have ho := fun (H' : Heap) (h1 : _) (h2 : _) (h3 : _) (lim : Nat) (Q : Value → Heap → Prop) => of11_ok (mp := false) (lim := lim) (H := H') (o1 := o1) (o2 := o2) (B1 := B1) (B2 := B2) (c := c) (p := p) (sc := sc) (Q := Q) (M := M) (i := (i + j) / 2) h1 h2 h3 (by omega)
    have ho' := fun (X : Heap) => ho (G ++ X) (q1 X) (q2 X) (q3 X)
    by_cases hh : (i + j) / 2 < f
    · have hl := hlo _ hh
      have hd : decide (sc ≤ (gt M ((i + j) / 2)).scanner) = false := decide_eq_false (by omega)
      simp only [n67, r67, g1, g5, g6, hij, wa, wu, wc, wd, ho', hd, SB, Nat.reduceLT, callee, aOp, ne_eq, Nat.reduceEqDiff, aBin, aUn, if_true, if_false, reduceCtorEq, frame0, place, notTuple, Nat.reduceAdd, Nat.reduceLeDiff, resVal, dite_true, dite_false, Int.reduceEq, Int.reduceLT, Int.reduceLE]
      refine hN ((i + j) / 2 + 1, j) _ _ ⟨by omega, k2, k3, (by simp only [g1, FB, Nat.reduceEqDiff]), (by simp only [FB, Nat.reduceEqDiff]), (by simp only [g6, FB, Nat.reduceEqDiff]), hE.app⟩ (by simp only; omega)
    · have hl := hhi ((i + j) / 2) (by omega) (by omega)
      have hd : decide (sc ≤ (gt M ((i + j) / 2)).scanner) = true := decide_eq_true hl
      simp only [n67, r67, g1, g5, g6, hij, wa, wu, wc, wd, ho', hd, SB, Nat.reduceLT, callee, aOp, ne_eq, Nat.reduceEqDiff, aBin, aUn, if_true, if_false, reduceCtorEq, frame0, place, notTuple, Nat.reduceAdd, Nat.reduceLeDiff, resVal, dite_true, dite_false, Int.reduceEq, Int.reduceLT, Int.reduceLE]
      refine hN (i, (i + j) / 2) _ _ ⟨k1, by simp only; omega, by simp only; omega, (by simp only [g1, FB, Nat.reduceEqDiff]), (by simp only [g5, FB, Nat.reduceEqDiff]), (by simp only [FB, Nat.reduceEqDiff]), hE.app⟩ (by simp only; omega)
  · obtain rfl : i = f := by omega
    simp only [n67, r67, g1, g5, g6, hij, SB, Nat.reduceLT, callee, aOp, ne_eq, Nat.reduceEqDiff, aBin, aUn, if_true, if_false, reduceCtorEq, frame0, place, notTuple, Nat.reduceAdd, Nat.reduceLeDiff, resVal, dite_true, dite_false, Int.reduceEq, Int.reduceLT, Int.reduceLE]
def runM (sc : Int) (D : List Mk) (i : Nat) : List Mk := (D.drop i).takeWhile fun m => m.scanner == sc
theorem runM_yes {sc : Int} {D : List Mk} {i : Nat} (h : i < D.length) (hs : (gt D i).scanner = sc) : runM sc D i = gt D i :: runM sc D (i + 1) := by
  unfold runM
  rw [List.drop_eq_getElem_cons h, ← gt_lt h, List.takeWhile_cons_of_pos (by simpa using hs)]
theorem runM_no {sc : Int} {D : List Mk} {i : Nat} (h : i < D.length) (hs : ¬ (gt D i).scanner = sc) : runM sc D i = [] := by
  unfold runM
  rw [List.drop_eq_getElem_cons h, ← gt_lt h, List.takeWhile_cons_of_neg (by simpa using hs)]
theorem runM_end {sc : Int} {D : List Mk} : runM sc D D.length = [] := by
  unfold runM; rw [List.drop_length]; rfl
def firstM (sc : Int) (M : List Mk) : Nat := (M.takeWhile fun m => decide (m.scanner < sc)).length
def ScLe (M : List Mk) : Prop := M.Pairwise fun a b => a.scanner ≤ b.scanner
theorem scLe_of {M : List Mk} (h : M.Pairwise ltM) : ScLe M := h.imp fun {a b} q => by unfold ltM at q; omega
theorem firstM_split {sc : Int} : ∀ {M : List Mk}, ScLe M → firstM sc M ≤ M.length ∧ (∀ i, i < firstM sc M → (gt M i).scanner < sc) ∧ (∀ i, firstM sc M ≤ i → i < M.length → sc ≤ (gt M i).scanner) ∧ runM sc (M.drop (firstM sc M)) 0 = ofN M sc
  | [], _ => ⟨Nat.le_refl _, fun i h => absurd h (by simp [firstM]), fun i _ h => absurd h (by simp), rfl⟩
  | m :: M, h => by
    obtain ⟨h1, h2⟩ := List.pairwise_cons.mp h
    obtain ⟨i1, i2, i3, i4⟩ := firstM_split (sc := sc) h2
    by_cases hm : m.scanner < sc
    · have e : firstM sc (m :: M) = firstM sc M + 1 := by
        unfold firstM
        rw [List.takeWhile_cons_of_pos (by simpa using hm), List.length_cons]
      rw [e]
      refine ⟨by simp only [List.length_cons]; omega, fun i hi => ?_, fun i hi hl => ?_, ?_⟩
      · cases i with
        | zero => rw [gt_cons_zero]; exact hm
        | succ i => rw [gt_cons_succ]; exact i2 i (by omega)
      · cases i with
        | zero => omega
        | succ i => rw [gt_cons_succ]; exact i3 i (by omega) (by simpa using hl)
      · rw [List.drop_succ_cons, i4]
        unfold ofN
        rw [List.filter_cons_of_neg (by simp; omega)]
    · have e : firstM sc (m :: M) = 0 := by
        unfold firstM
        rw [List.takeWhile_cons_of_neg (by simpa using hm)]; rfl
      rw [e]
      refine ⟨Nat.zero_le _, fun i hi => absurd hi (Nat.not_lt_zero i), fun i _ hl => ?_, ?_⟩
      · cases i with
        | zero => rw [gt_cons_zero]; omega
        | succ i =>
          rw [gt_cons_succ]
          have hl' : i < M.length := by simpa using hl
          have := h1 _ (gt_mem hl'); omega
      · rw [List.drop_zero]
        unfold runM ofN
        rw [List.drop_zero]
        clear i1 i2 i3 i4 e
        have key : ∀ L : List Mk, ScLe L → (∀ x ∈ L, sc ≤ x.scanner) → (L.takeWhile fun m => m.scanner == sc) = L.filter fun m => m.scanner == sc := by
          intro L
          induction L with
          | nil => intros; rfl
          | cons x L ih =>
            intro hL hge
            obtain ⟨k1, k2⟩ := List.pairwise_cons.mp hL
            by_cases hx : x.scanner = sc
            · rw [List.takeWhile_cons_of_pos (by simpa using hx), List.filter_cons_of_pos (by simpa using hx), ih k2 fun y hy => hge y (List.mem_cons_of_mem _ hy)]
            · rw [List.takeWhile_cons_of_neg (by simpa using hx), List.filter_cons_of_neg (by simpa using hx)]
              symm
              rw [List.filter_eq_nil_iff]
              intro y hy
              have a1 := k1 y hy
              have a2 := hge x List.mem_cons_self
              simp; omega
        exact key _ h fun x hx => by
          rcases List.mem_cons.mp hx with rfl | hx
          · omega
          · have := h1 x hx; omega
theorem of_ok [OB] {lim c n : Nat} {p : Option Addr} {sc : Int} {H : Heap} {Q : Value → Heap → Prop} :
    CallR E false lim 57 [.slice p n c, .int .i64 sc] H Q = Q (.func (.func 66) #[] #[.pointer (some ⟨H.length, 0, none⟩), .pointer (some ⟨H.length + 1, 0, none⟩)]) (H ++ [.cells false [.slice p n c], .cells false [.int .i64 sc]]) := by
  refine CallR.eq ?_
  refine runs' (by decide) e57 rfl ?_
  rw [b57, c57]
  simp only [n57, r57, SB, Nat.reduceLT, callee, aOp, ne_eq, Nat.reduceEqDiff, aBin, aUn, if_true, if_false, reduceCtorEq, frame0, place, notTuple, Nat.reduceAdd, Nat.reduceLeDiff, resVal, dite_true, dite_false, Int.reduceEq, Int.reduceLT, Int.reduceLE]
def Keeps (K : Nat → Prop) (H H' : Heap) : Prop := H.length ≤ H'.length ∧ ∀ j, K j → hget H' j = hget H j
theorem Keeps.sl {α : Type} {K : Nat → Prop} {H H' : Heap} {enc : α → List Value} {e : Nat} {p : Option Addr} {l : List α} (h : Keeps K H H') (hs : Sl H enc e p l) (hp : ∀ a, p = some a → K a.block) : Sl H' enc e p l := by
  cases p with
  | none => exact hs
  | some a =>
    refine ⟨hs.1, fun hl => ?_⟩
    obtain ⟨ro, c, h1, h2⟩ := hs.2 hl
    exact ⟨ro, c, (h.2 _ (hp a rfl)).trans h1, h2⟩
theorem of_rule [OB] {lim Y B1 B2 c : Nat} {p : Option Addr} {M : List Mk} {sc : Int} {H : Heap} {Q : Value → Heap → Prop} (I : List Mk → Heap → Prop) (K : Nat → Prop)
    (hI : ∀ rest H H', I rest H → Chg [] H H' → I rest H')
    (hround : ∀ m rest G, m ∈ M → m.scanner = sc → H.length ≤ G.length → I (m :: rest) G → CallY E false lim Y [.agg (encK m).toArray] G fun v H' => Keeps K G H' ∧ (v = .bool true ∧ I rest H' ∨ v = .bool false ∧ ∀ X, Q (.tuple #[]) (H' ++ X)))
    (h1 : hget H B1 = .cells false [.slice p M.length c]) (h2 : hget H B2 = .cells false [.int .i64 sc]) (hs : Sl H encK 3 p M) (hc : CapOk 3 c M.length) (hn : M.length < 2 ^ 40) (hM : ScLe M) (hl : lim ≤ H.length)
    (hK2 : K B2) (hKp : M ≠ [] → ∀ a, p = some a → K a.block) (h0 : I (ofN M sc) H) (hQ : ∀ H', I [] H' → Q (.tuple #[]) H') :
    CallR E false lim 66 [.func (.yield Y) #[] #[], .pointer (some ⟨B1, 0, none⟩), .pointer (some ⟨B2, 0, none⟩)] H Q := by
  refine runs' (by decide) e66 rfl ?_
  rw [b66, c66]
  obtain ⟨f1, f2, f3, f4⟩ := firstM_split (sc := sc) hM
  have q1 := fun X => (Ext.refl.app (X := X)).cells h1
  have q2 := fun X => (Ext.refl.app (X := X)).cells h2
  have q3 := fun X => (Ext.refl.app (H := H) (X := X)).sl hs
  have hse := fun (X : Heap) (lim : Nat) (Q : Value → Heap → Prop) => search_ok (mp := false) (lim := lim) (Q := Q) (sc := sc) (q1 X) (q2 X) (q3 X) hn f1 f2 f3
  generalize hfm : firstM sc M = f at *
  obtain ⟨q, cq, e1, s1, m0, m1, _⟩ := slice_cut (vlo := some (.int .i64 (f : Int))) (vhi := none) (lo := f) (hi := M.length) hs hc encK_len (fun cap hcap => by rw [bv_100 (by omega) (by omega), Int.toNat_natCast]) f1 (Nat.le_refl _) (by omega)
  rw [List.take_length] at s1
  have hD : (M.drop f).length = M.length - f := List.length_drop
  simp only [n66, r66, q1, q2, hse, e1, SB, Nat.reduceLT, callee, aOp, ne_eq, Nat.reduceEqDiff, aBin, aUn, if_true, if_false, reduceCtorEq, frame0, place, notTuple, Nat.reduceAdd, Nat.reduceLeDiff, resVal, dite_true, dite_false, Int.reduceEq, Int.reduceLT, Int.reduceLE]
  refine Ret_rounds (fun i => M.length - f - i) (fun i fr G => i ≤ M.length - f ∧ fr 0 = .func (.yield Y) #[] #[] ∧ fr 2 = .pointer (some ⟨B2, 0, none⟩) ∧ fr 13 = .slice q (M.length - f) cq ∧ fr 14 = .int .i64 ((M.length - f : Nat) : Int) ∧ fr 15 = .int .i64 (i : Int) ∧
    hget G B2 = .cells false [.int .i64 sc] ∧ Sl G encK 3 q (M.drop f) ∧ H.length ≤ G.length ∧ I (runM sc (M.drop f) i) G) 0
    ⟨Nat.zero_le _, (by simp only [FB, Nat.reduceEqDiff]), (by simp only [FB, Nat.reduceEqDiff]), (by simp only [FB, Nat.reduceEqDiff]), (by simp only [FB, Nat.reduceEqDiff]), by rfl, q2 _, s1.app _, by simp, by rw [f4]; exact hI _ _ _ h0 (Chg.refl.app)⟩ ?_
  rintro i fr G ⟨hi, g0, g2, g13, g14, g15, gB, gS, gL, gI⟩ hN
  rw [Ret_code l66_1.eq_1]
  refine Ret_pad ?_
  by_cases hlt : i < M.length - f
  · have hid : i < (M.drop f).length := by omega
    have gBX := fun X => (Ext.refl.app (X := X)).cells gB
    have hld := fun X => (gS.app X).loadCells encK_len hid
    have hidx : ∀ (c : Nat) (k : IntKind) (H1 : Heap), idxK 3 (.slice q (M.length - f) c) (.int k (i : Int)) H1 = some (.pointer (some (elt q 3 i)), H1) := fun c k H1 => by
      rw [← hD]; exact gS.idx hid
    have hw1 : IntKind.i64.wrap ((i : Int) + 1) = ((i + 1 : Nat) : Int) := wrap_nat (by omega)
    have hlG : lim ≤ G.length := by omega
    have hmem : gt (M.drop f) i ∈ M := List.mem_of_mem_drop (gt_mem hid)
    by_cases hsc : (gt (M.drop f) i).scanner = sc
    · rw [runM_yes hid hsc] at gI
      simp only [n66, r66, g0, g2, g13, g14, g15, gBX, int_lt_cast, hlt, hld, hidx, hw1, hlG, setAll_full, encK_len, encK_0, encK_1, encK_2, take_all, eq_true hsc, encK, not_true, decide_false, decide_true, SB, Nat.reduceLT, callee, aOp, ne_eq, Nat.reduceEqDiff, aBin, aUn, if_true, if_false, reduceCtorEq, frame0, place, notTuple, Nat.reduceAdd, Nat.reduceLeDiff, resVal, dite_true, dite_false, Int.reduceEq, Int.reduceLT, Int.reduceLE]
      refine (hround _ _ _ hmem hsc (by simp; omega) (hI _ _ _ gI Chg.refl.app)).mono fun v H' hv => ?_
      obtain ⟨hk, ⟨rfl, hi'⟩ | ⟨rfl, hq⟩⟩ := hv
      · refine Ret_pad ?_
        simp only [n66, r66, g0, g2, g13, g14, g15, hw1, SB, Nat.reduceLT, callee, aOp, ne_eq, Nat.reduceEqDiff, aBin, aUn, if_true, if_false, reduceCtorEq, frame0, place, notTuple, Nat.reduceAdd, Nat.reduceLeDiff, resVal, dite_true, dite_false, Int.reduceEq, Int.reduceLT, Int.reduceLE]
        refine hN (i + 1) _ _ ⟨by omega, (by simp only [g0, FB, Nat.reduceEqDiff]), (by simp only [g2, FB, Nat.reduceEqDiff]), (by simp only [g13, FB, Nat.reduceEqDiff]), (by simp only [g14, FB, Nat.reduceEqDiff]), (by simp only [FB, Nat.reduceEqDiff]), ?_, ?_, ?_, ?_⟩ (by omega)
        · exact (Ext.refl.app).cells ((hk.2 _ hK2).trans (gBX _))
        · exact (hk.sl (gS.app _) fun a ha => by
            obtain ⟨b, hb, e⟩ := m1 a ha
            rw [e]; exact hKp (fun h => by rw [h] at hlt; simp at hlt) b hb).app _
        · have := hk.1
          simp at this ⊢; omega
        · exact hI _ _ _ hi' Chg.refl.app
      · refine Ret_pad ?_
        simp only [n66, r66, g0, g2, g13, g14, g15, hw1, SB, Nat.reduceLT, callee, aOp, ne_eq, Nat.reduceEqDiff, aBin, aUn, if_true, if_false, reduceCtorEq, frame0, place, notTuple, Nat.reduceAdd, Nat.reduceLeDiff, resVal, dite_true, dite_false, Int.reduceEq, Int.reduceLT, Int.reduceLE]
        exact hq _
    · rw [runM_no hid hsc] at gI
      simp only [n66, r66, g0, g2, g13, g14, g15, gBX, int_lt_cast, hlt, hld, hidx, hw1, hlG, setAll_full, encK_len, encK_0, encK_1, encK_2, take_all, eq_false hsc, encK, not_false_eq_true, decide_false, decide_true, SB, Nat.reduceLT, callee, aOp, ne_eq, Nat.reduceEqDiff, aBin, aUn, if_true, if_false, reduceCtorEq, frame0, place, notTuple, Nat.reduceAdd, Nat.reduceLeDiff, resVal, dite_true, dite_false, Int.reduceEq, Int.reduceLT, Int.reduceLE]
      exact hQ _ (hI _ _ _ gI Chg.refl.app)
  · obtain rfl : i = M.length - f := by omega
    rw [← hD, runM_end] at gI
    simp only [n66, r66, g0, g2, g13, g14, g15, int_lt_cast, hlt, SB, Nat.reduceLT, callee, aOp, ne_eq, Nat.reduceEqDiff, aBin, aUn, if_true, if_false, reduceCtorEq, frame0, place, notTuple, Nat.reduceAdd, Nat.reduceLeDiff, resVal, dite_true, dite_false, Int.reduceEq, Int.reduceLT, Int.reduceLE]
    exact hQ _ (hI _ _ _ gI Chg.refl.app)
structure OSt (L : Nat) (fr0 : Nat → Value) (t r : Int) (last : Mk) (st : Nat) (pd : Option ACode) (G : Heap) : Prop where
  bt : hget G L = .cells false [.int .i64 t]
  br : hget G (L + 1) = .cells false [.int .i64 r]
  bl : hget G (L + 2) = .cells false (encK last)
  dfr : hget G (L + 5) = .dfr
  loop : hget G (L + 6) = .loop ⟨st, pd, fr0, 46, [12], ga45_1, gb45_1⟩
  len : L + 7 ≤ G.length
theorem OSt.chg {L : Nat} {fr0 : Nat → Value} {t r : Int} {last : Mk} {st : Nat} {pd : Option ACode} {G G' : Heap} (h : OSt L fr0 t r last st pd G) (hC : Chg [] G G') : OSt L fr0 t r last st pd G' := by
  have len := h.len
  exact ⟨hC.cells h.bt (by simp), hC.cells h.br (by simp), hC.cells h.bl (by simp), hC.get h.dfr (by omega) (by simp), hC.get h.loop (by omega) (by simp), by have := hC.len; omega⟩
def GoodM (t : Int) (last : Mk) (rest : List Mk) : Prop := (last = zeroM ∨ fineM last ∧ last.at' < t) ∧ (∀ m ∈ rest, fineM m ∧ (last = zeroM ∨ last.at' < m.at')) ∧ AtLt rest
theorem GoodM.next {t : Int} {last m : Mk} {rest : List Mk} (h : GoodM t last (m :: rest)) (hm : m.at' < t) : GoodM t m rest := by
  obtain ⟨h1, h2, h3⟩ := h
  obtain ⟨k1, k2⟩ := List.pairwise_cons.mp h3
  exact ⟨.inr ⟨(h2 m List.mem_cons_self).1, hm⟩, fun x hx => ⟨(h2 x (List.mem_cons_of_mem _ hx)).1, .inr (k1 x hx)⟩, k2⟩
theorem encK_inj {a b : Mk} : (a.scanner = b.scanner ∧ a.at' = b.at' ∧ a.off = b.off) ↔ a = b := by
  obtain ⟨a1, a2, a3⟩ := a; obtain ⟨b1, b2, b3⟩ := b
  simp
theorem encK_eqv {a b : Mk} : aEq (.agg [.int .i64, .int .i64, .int .i64]) (.agg (encK a).toArray) (.agg (encK b).toArray) = some (decide (a = b)) := by
  simp only [aEq, encK, cellsEq, cellEq, and_self, if_true]
  congr 1
  rw [Bool.eq_iff_iff, decide_eq_true_iff, ← encK_inj]
  simp
theorem zero_eqv {a : Mk} : aEq (.agg [.int .i64, .int .i64, .int .i64]) (.agg (encK a).toArray) (.agg #[.int .i64 0, .int .i64 0, .int .i64 0]) = some (decide (a = zeroM)) := encK_eqv (b := zeroM)
theorem setParams_one {fr : Nat → Value} {p : Nat} {v : Value} : setParams fr [p] [v] = upd fr p v := rfl
theorem mul_bound {a b A B : Int} (h1 : -A ≤ a) (h2 : a ≤ A) (h3 : 0 ≤ b) (h4 : b ≤ B) : -(A * B) ≤ a * b ∧ a * b ≤ A * B := by
  have hA : 0 ≤ A := by omega
  constructor
  · have e1 : -A * b ≤ a * b := Int.mul_le_mul_of_nonneg_right h1 h3
    have e2 : A * b ≤ A * B := Int.mul_le_mul_of_nonneg_left h4 hA
    rw [Int.neg_mul] at e1; omega
  · exact Int.le_trans (Int.mul_le_mul_of_nonneg_right h2 h3) (Int.mul_le_mul_of_nonneg_left h4 hA)
theorem round_off [OB] {lim L : Nat} {fr0 : Nat → Value} {t r : Int} {last m : Mk} {rest : List Mk} {G : Heap} (hl : lim ≤ L) (f5 : fr0 5 = .pointer (some ⟨L, 0, none⟩)) (f6 : fr0 6 = .pointer (some ⟨L + 1, 0, none⟩)) (f7 : fr0 7 = .pointer (some ⟨L + 2, 0, none⟩))
    (h : OSt L fr0 t r last 0 none G) (hg : GoodM t last (m :: rest)) (ht : 0 ≤ t ∧ t ≤ maxT) :
    CallY E false lim (L + 6) [.agg (encK m).toArray] G fun v H' => Keeps (fun j => j < L ∨ j = L + 4) G H' ∧
      (v = .bool true ∧ m.at' < t ∧ OSt L fr0 t r m 0 none H' ∨ v = .bool false ∧ OSt L fr0 t (offGo t last (m :: rest)) last 2 (some .retM) H') := by
  have len := h.len
  rw [CallY_run h.loop (by omega) rfl (by rfl), setParams_one]
  obtain ⟨G1, e1, h1, m1⟩ := mut_set (G := G) (R := L + 6) (by omega) (.loop ⟨1, none, fr0, 46, [12], ga45_1, gb45_1⟩)
  have gY := fun X => (Ext.refl.app (X := X)).get' h.loop (by omega)
  have hlG : lim ≤ G.length := by omega
  refine Ret_pad ?_
  rw [Ret_code ga45_1.eq_1]
  simp only [f5, f6, f7, encK_len, setAll_full, hlG, gY, e1, show lim ≤ L + 6 by omega, SB, Nat.reduceLT, callee, aOp, ne_eq, Nat.reduceEqDiff, aBin, aUn, if_true, if_false, reduceCtorEq, frame0, place, notTuple, Nat.reduceAdd, Nat.reduceLeDiff, resVal, dite_true, dite_false, Int.reduceEq, Int.reduceLT, Int.reduceLE]
  have bt := fun X => (Ext.refl.app (X := X)).cells (m1.cells h.bt (by omega : L ≠ L + 6))
  have br := fun X => (Ext.refl.app (X := X)).cells (m1.cells h.br (by omega : L + 1 ≠ L + 6))
  have bl := fun X => (Ext.refl.app (X := X)).cells (m1.cells h.bl (by omega : L + 2 ≠ L + 6))
  have l1 : G1.length = G.length := m1.len
  have R1 : ∀ Y, hget (G1 ++ .cells false (encK m) :: Y) G.length = .cells false (encK m) := fun Y => by rw [← l1]; exact hget_new0
  rw [Ret_code gb45_1.eq_1]
  by_cases hm : m.at' < t
  · obtain ⟨G2, e2, h2, m2⟩ := mut_set (G := G1) (R := L + 2) (by omega) (.cells false (encK m))
    have y2' := m2.alive h1 (by omega : L + 6 ≠ L + 2)
    have y2 := fun X => (Ext.refl.app (X := X)).get' y2' (by have := m2.len; omega)
    obtain ⟨G3, e3, h3, m3⟩ := mut_set (G := G2) (R := L + 6) (by have := m2.len; omega) (.loop ⟨0, none, fr0, 46, [12], ga45_1, gb45_1⟩)
    simp only [f5, f6, f7, bt, br, bl, R1, encK_len, encK_0, encK_1, encK_2, take_all, setAll_full, gt_iff_lt, hm, e2, y2, e3, show lim ≤ L + 6 by omega, show lim ≤ L + 2 by omega, SB, Nat.reduceLT, callee, aOp, ne_eq, Nat.reduceEqDiff, aBin, aUn, if_true, if_false, reduceCtorEq, frame0, place, notTuple, Nat.reduceAdd, Nat.reduceLeDiff, resVal, dite_true, dite_false, Int.reduceEq, Int.reduceLT, Int.reduceLE]
    have l3 : G3.length = G.length := by rw [m3.len, m2.len, l1]
    have old : ∀ X j, j < G.length → j ≠ L + 6 → j ≠ L + 2 → hget (G3 ++ X) j = hget G j := fun X j q1 q2 q3 => by
      rw [hget_old (by omega), m3.other j q2, m2.other j q3, m1.other j q2]
    refine ⟨⟨by simp; omega, fun j hj => old _ j (by omega) (by omega) (by omega)⟩, .inl ⟨(old _ L (by omega) (by omega) (by omega)).trans h.bt, (old _ _ (by omega) (by omega) (by omega)).trans h.br, ?_, (old _ _ (by omega) (by omega) (by omega)).trans h.dfr, ?_, by simp; omega⟩⟩
    · rw [hget_old (by omega), m3.other _ (by omega)]; exact h2
    · rw [hget_old (by omega)]; exact h3
  · have fin : ∀ (v : Int) (G2 G3 : Heap) (X : Heap), (∀ j, j ≠ L + 1 → hget G2 j = hget G1 j) → G2.length = G1.length → hget G2 (L + 1) = .cells false [.int .i64 v] → Mut G2 G3 (L + 6) → hget G3 (L + 6) = .loop ⟨2, some .retM, fr0, 46, [12], ga45_1, gb45_1⟩ →
        Keeps (fun j => j < L ∨ j = L + 4) G (G3 ++ X) ∧ OSt L fr0 t v last 2 (some .retM) (G3 ++ X) := by
      intro v G2 G3 X o2 l2 h2 m3 h3
      have l3 : G3.length = G.length := by rw [m3.len, l2, l1]
      have old : ∀ j, j < G.length → j ≠ L + 6 → j ≠ L + 1 → hget (G3 ++ X) j = hget G j := fun j q1 q2 q3 => by
        rw [hget_old (by omega), m3.other j q2, o2 j q3, m1.other j q2]
      refine ⟨⟨by simp; omega, fun j hj => old j (by omega) (by omega) (by omega)⟩, ⟨(old L (by omega) (by omega) (by omega)).trans h.bt, ?_, (old _ (by omega) (by omega) (by omega)).trans h.bl, (old _ (by omega) (by omega) (by omega)).trans h.dfr, ?_, by simp; omega⟩⟩
      · rw [hget_old (by omega), m3.other _ (by omega)]; exact h2
      · rw [hget_old (by omega)]; exact h3
    have key : ∀ v, ∃ G2, (∀ X : Heap, (G1 ++ X).set (L + 1) (.cells false [.int .i64 v]) = G2 ++ X) ∧ (∀ X, hget (G2 ++ X) (L + 6) = .loop ⟨1, none, fr0, 46, [12], ga45_1, gb45_1⟩) ∧ ∃ G3, (∀ X : Heap, (G2 ++ X).set (L + 6) (.loop ⟨2, some .retM, fr0, 46, [12], ga45_1, gb45_1⟩) = G3 ++ X) ∧ ∀ X, Keeps (fun j => j < L ∨ j = L + 4) G (G3 ++ X) ∧ OSt L fr0 t v last 2 (some .retM) (G3 ++ X) := by
      intro v
      obtain ⟨G2, e2, h2, m2⟩ := mut_set (G := G1) (R := L + 1) (by omega) (.cells false [.int .i64 v])
      have y2' := m2.alive h1 (by omega : L + 6 ≠ L + 1)
      have y2 := fun X => (Ext.refl.app (X := X)).get' y2' (by have := m2.len; omega)
      obtain ⟨G3, e3, h3, m3⟩ := mut_set (G := G2) (R := L + 6) (by have := m2.len; omega) (.loop ⟨2, some .retM, fr0, 46, [12], ga45_1, gb45_1⟩)
      exact ⟨G2, e2, y2, G3, e3, fun X => fin v G2 G3 X (fun j hj => m2.other j hj) m2.len h2 m3 h3⟩
    have hgo : offGo t last (m :: rest) = if last = zeroM then m.off else last.off + (m.off - last.off) * (t - last.at') / (m.at' - last.at') := by
      rw [offGo, if_neg (by omega)]
    rw [hgo]
    by_cases hz : last = zeroM
    · obtain ⟨G2, e2, y2, G3, e3, hfin⟩ := key m.off
      rw [if_pos hz]
      have hze := decide_eq_true hz
      simp only [f5, f6, f7, bt, br, bl, R1, encK_len, encK_0, encK_1, encK_2, take_all, setAll_full, gt_iff_lt, hm, e2, y2, e3, zero_eqv, hze, show lim ≤ L + 6 by omega, show lim ≤ L + 1 by omega, SB, Nat.reduceLT, callee, aOp, ne_eq, Nat.reduceEqDiff, aBin, aUn, if_true, if_false, reduceCtorEq, frame0, place, notTuple, Nat.reduceAdd, Nat.reduceLeDiff, resVal, dite_true, dite_false, Int.reduceEq, Int.reduceLT, Int.reduceLE]
      exact ⟨(hfin _).1, .inr (hfin _).2⟩
    · rw [if_neg hz]
      have hze := decide_eq_false hz
      obtain ⟨g1, g2, g3⟩ := hg
      obtain ⟨k1, k2⟩ := (g1.resolve_left hz)
      obtain ⟨k3, k4⟩ := g2 m List.mem_cons_self
      have k4 := k4.resolve_left hz
      unfold fineM at k1 k3
      unfold maxT at k1 k3 ht
      have hb := mul_bound (a := m.off - last.off) (b := t - last.at') (A := 2103796798) (B := 1051898399) (by omega) (by omega) (by omega) (by omega)
      have hd : 0 < m.at' - last.at' := by omega
      have hq : -2 ^ 62 ≤ (m.off - last.off) * (t - last.at') / (m.at' - last.at') ∧ (m.off - last.off) * (t - last.at') / (m.at' - last.at') ≤ 2 ^ 62 := by
        constructor
        · refine Int.le_ediv_of_mul_le hd ?_
          have : -2 ^ 62 * (m.at' - last.at') ≤ -2 ^ 62 * 1 := Int.mul_le_mul_of_nonpos_left (by decide) (by omega)
          omega
        · refine Int.ediv_le_of_le_mul hd ?_
          have : 2 ^ 62 * 1 ≤ 2 ^ 62 * (m.at' - last.at') := Int.mul_le_mul_of_nonneg_left (by omega) (by decide)
          omega
      have w1 : IntKind.i64.wrap (m.off - last.off) = m.off - last.off := wrap_id (by omega) (by omega)
      have w2 : IntKind.i64.wrap (t - last.at') = t - last.at' := wrap_id (by omega) (by omega)
      have w3 : IntKind.i64.wrap ((m.off - last.off) * (t - last.at')) = (m.off - last.off) * (t - last.at') := wrap_id (by omega) (by omega)
      have w4 : IntKind.i64.wrap (m.at' - last.at') = m.at' - last.at' := wrap_id (by omega) (by omega)
      have w5 : IntKind.i64.wrap (last.off + (m.off - last.off) * (t - last.at') / (m.at' - last.at')) = last.off + (m.off - last.off) * (t - last.at') / (m.at' - last.at') := wrap_id (by omega) (by omega)
      have hdv := fun (mp : Bool) (lim : Nat) (H : Heap) (Q : Value → Heap → Prop) => div_ok (mp := mp) (lim := lim) (H := H) (Q := Q) (a := (m.off - last.off) * (t - last.at')) hd (by omega) (by omega)
      obtain ⟨G2, e2, y2, G3, e3, hfin⟩ := key (last.off + (m.off - last.off) * (t - last.at') / (m.at' - last.at'))
      simp only [f5, f6, f7, bt, br, bl, R1, encK_len, encK_0, encK_1, encK_2, take_all, setAll_full, gt_iff_lt, hm, e2, y2, e3, zero_eqv, hze, w1, w2, w3, w4, w5, hdv, show lim ≤ L + 6 by omega, show lim ≤ L + 1 by omega, SB, Nat.reduceLT, callee, aOp, ne_eq, Nat.reduceEqDiff, aBin, aUn, if_true, if_false, reduceCtorEq, frame0, place, notTuple, Nat.reduceAdd, Nat.reduceLeDiff, resVal, dite_true, dite_false, Int.reduceEq, Int.reduceLT, Int.reduceLE]
      exact ⟨(hfin _).1, .inr (hfin _).2⟩
theorem offset_ok [OB] {mp : Bool} {lim c : Nat} {p : Option Addr} {M : List Mk} {sc t : Int} {H : Heap} {Q : Value → Heap → Prop} (hs : Sl H encK 3 p M) (hc : CapOk 3 c M.length) (hn : M.length < 2 ^ 40) (hM : MarksOk M) (ht : 0 ≤ t ∧ t ≤ maxT) :
    CallR E mp lim 45 [.slice p M.length c, .int .i64 sc, .int .i64 t] H Q = Q (.int .i64 (offN M sc t)) H := by
  refine pc (by decide) e45 rfl rfl ?_
  rw [b45, c45]
  have hof := fun (X : Heap) (lim : Nat) (Q : Value → Heap → Prop) => of_ok (lim := lim) (c := c) (n := M.length) (p := p) (sc := sc) (H := H ++ X) (Q := Q)
  have key : ∀ fr0 : Nat → Value, fr0 5 = .pointer (some ⟨H.length, 0, none⟩) → fr0 6 = .pointer (some ⟨H.length + 1, 0, none⟩) → fr0 7 = .pointer (some ⟨H.length + 2, 0, none⟩) →
      CallR E false H.length 66 [.func (.yield (H.length + 6)) #[] #[], .pointer (some ⟨H.length + 3, 0, none⟩), .pointer (some ⟨H.length + 4, 0, none⟩)]
      (H ++ [Blk.cells false [Value.int .i64 t], Blk.cells false [Value.int .i64 0], Blk.cells false [Value.int .i64 0, Value.int .i64 0, Value.int .i64 0], Blk.cells false [Value.slice p M.length c], Blk.cells false [Value.int .i64 sc], .dfr, .loop ⟨0, none, fr0, 46, [12], ga45_1, gb45_1⟩])
      fun x H2 => endK (hget H2 ((H ++ [Blk.cells false [Value.int .i64 t], Blk.cells false [Value.int .i64 0], Blk.cells false [Value.int .i64 0, Value.int .i64 0, Value.int .i64 0], Blk.cells false [Value.slice p M.length c], Blk.cells false [Value.int .i64 sc]]).length + 1)) fun x => Ret E a45 H.length (pendI x ++ ([.inBlock 0, .code (.seq (ACode.ops [i 44 (AOp.fieldAddr 2 (Sym.t 7)), i 45 (AOp.load1 (Sym.t 44)), ⟨none, none, AOp.store 1 (Sym.t 6) (Sym.t 45), none, []⟩]) .retM), .code .retM] ++ [.mark (H ++ [Blk.cells false [Value.int .i64 t], Blk.cells false [Value.int .i64 0], Blk.cells false [Value.int .i64 0, Value.int .i64 0, Value.int .i64 0], Blk.cells false [Value.slice p M.length c], Blk.cells false [Value.int .i64 sc]]).length])) fr0 (H2.set ((H ++ [Blk.cells false [Value.int .i64 t], Blk.cells false [Value.int .i64 0], Blk.cells false [Value.int .i64 0, Value.int .i64 0, Value.int .i64 0], Blk.cells false [Value.slice p M.length c], Blk.cells false [Value.int .i64 sc]]).length + 1) .dead) fun v' _ => v' = .int .i64 (offN M sc t) := by
    intro fr0 f5 f6 f7
    have hm : (H ++ [Blk.cells false [Value.int .i64 t], Blk.cells false [Value.int .i64 0], Blk.cells false [Value.int .i64 0, Value.int .i64 0, Value.int .i64 0], Blk.cells false [Value.slice p M.length c], Blk.cells false [Value.int .i64 sc]]).length = H.length + 5 := by simp
    rw [hm]
    have hof1 : ofN M sc ⊆ M := fun m hm => (List.mem_filter.mp hm).1
    refine of_rule (fun rest G => ∃ r last, OSt H.length fr0 t r last 0 none G ∧ GoodM t last rest ∧ offGo t last rest = offN M sc t) (fun j => j < H.length ∨ j = H.length + 4) ?_ ?_ (by rw [hget_new]; rfl) (by rw [hget_new]; rfl) (hs.app _) hc hn (scLe_of hM.2) (by simp) (.inr rfl) ?_ ?_ ?_
    · rintro rest G G' ⟨r, last, k1, k2, k3⟩ hC
      exact ⟨r, last, k1.chg hC, k2, k3⟩
    · rintro m rest G hmM hsc hlen ⟨r, last, k1, k2, k3⟩
      refine (round_off (Nat.le_refl _) f5 f6 f7 k1 k2 ht).mono fun v H' hv => ?_
      obtain ⟨hk, ⟨rfl, hlt, q⟩ | ⟨rfl, q⟩⟩ := hv
      · refine ⟨hk, .inl ⟨rfl, r, m, q, k2.next hlt, ?_⟩⟩
        rw [← k3, offGo, if_pos (by omega)]
      · refine ⟨hk, .inr ⟨rfl, fun X => ?_⟩⟩
        have qX : OSt H.length fr0 t (offGo t last (m :: rest)) last 2 (some .retM) (H' ++ X) := q.chg Chg.refl.app
        rw [k3] at qX
        generalize H' ++ X = G2 at qX
        have len := qX.len
        obtain ⟨G3, e3, _, m3⟩ := mut_set (G := G2) (R := H.length + 6) (by omega) .dead
        have dfr3 := (Ext.refl.app (X := [])).get' (m3.alive qX.dfr (by omega)) (by have := m3.len; omega)
        obtain ⟨G4, e4, _, m4⟩ := mut_set (G := G3) (R := H.length + 5) (by have := m3.len; omega) .dead
        have e3' := e3 []
        rw [List.append_nil] at e3'
        have br4 := (Ext.refl.app (X := [])).cells (m4.cells (m3.cells qX.br (by omega)) (by omega))
        simp only [n45, r45, qX.loop, e3', SB, Nat.reduceLT, callee, aOp, ne_eq, Nat.reduceEqDiff, aBin, aUn, if_true, if_false, reduceCtorEq, frame0, place, notTuple, Nat.reduceAdd, Nat.reduceLeDiff, resVal, dite_true, dite_false, Int.reduceEq, Int.reduceLT, Int.reduceLE]
        have hsh := shut_cons (lim := H.length) (i := H.length + 5) (l := []) dfr3 (by omega)
        have e4' : (G3 ++ []).set (H.length + 5) .dead = G4 ++ [] := e4 []
        rw [e4', shut_nil] at hsh
        have em : ([] : List Nat) ++ [H.length + 5] = [H.length + 5] := rfl
        show Ret E a45 H.length (.code .retM :: .inBlock 0 :: .code (.seq (ACode.ops [i 44 (AOp.fieldAddr 2 (Sym.t 7)), i 45 (AOp.load1 (Sym.t 44)), ⟨none, none, AOp.store 1 (Sym.t 6) (Sym.t 45), none, []⟩]) .retM) :: .code .retM :: .mark (H.length + 5) :: []) fr0 (G3 ++ []) fun v' _ => v' = .int .i64 (offN M sc t)
        simp only [n45, r45, em, hsh, f6, br4, SB, Nat.reduceLT, callee, aOp, ne_eq, Nat.reduceEqDiff, aBin, aUn, if_true, if_false, reduceCtorEq, frame0, place, notTuple, Nat.reduceAdd, Nat.reduceLeDiff, resVal, dite_true, dite_false, Int.reduceEq, Int.reduceLT, Int.reduceLE]
    · intro hne a ha
      left
      subst ha
      have := hs.lt hne
      omega
    · refine ⟨0, zeroM, ⟨by rw [hget_new0]; rfl, by rw [hget_new]; rfl, by rw [hget_new]; rfl, by rw [hget_new]; rfl, by rw [hget_new]; rfl, by simp⟩, ⟨.inl rfl, fun m hm => ⟨hM.1 m (hof1 hm), .inl rfl⟩, ofN_lt hM.2⟩, rfl⟩
    · rintro H' ⟨r, last, k1, k2, k3⟩
      have len := k1.len
      obtain ⟨G3, e3, _, m3⟩ := mut_set (G := H') (R := H.length + 6) (by omega) .dead
      have e3' := e3 []
      rw [List.append_nil] at e3'
      have q6 : ∀ X, hget (G3 ++ X) (H.length + 2) = .cells false (encK last) := fun X => (Ext.refl.app).cells (m3.cells k1.bl (by omega))
      have q7 : ∀ X, hget (G3 ++ X) (H.length + 1) = .cells false [.int .i64 r] := fun X => (Ext.refl.app).cells (m3.cells k1.br (by omega))
      have dfr3' := m3.alive k1.dfr (by omega : H.length + 5 ≠ H.length + 6)
      obtain ⟨G5, e5, h5, m5⟩ := mut_set (G := G3) (R := H.length + 1) (by have := m3.len; omega) (.cells false [.int .i64 last.off])
      have dfr5 := (Ext.refl.app (X := [])).get' (m5.alive dfr3' (by omega)) (by have := m3.len; have := m5.len; omega)
      obtain ⟨G4, e4, _, m4⟩ := mut_set (G := G5) (R := H.length + 5) (by have := m3.len; have := m5.len; omega) .dead
      have br4 := (Ext.refl.app (X := [])).cells (m4.cells h5 (by omega))
      have hsh := shut_cons (lim := H.length) (i := H.length + 5) (l := []) dfr5 (by omega)
      have e4' : (G5 ++ []).set (H.length + 5) .dead = G4 ++ [] := e4 []
      rw [e4', shut_nil] at hsh
      have em : ([] : List Nat) ++ [H.length + 5] = [H.length + 5] := rfl
      have hv : offN M sc t = last.off := by rw [← k3]; rfl
      simp only [n45, r45, k1.loop, e3', SB, Nat.reduceLT, callee, aOp, ne_eq, Nat.reduceEqDiff, aBin, aUn, if_true, if_false, reduceCtorEq, frame0, place, notTuple, Nat.reduceAdd, Nat.reduceLeDiff, resVal, dite_true, dite_false, Int.reduceEq, Int.reduceLT, Int.reduceLE]
      show Ret E a45 H.length (.inBlock 0 :: .code (.seq (ACode.ops [i 44 (AOp.fieldAddr 2 (Sym.t 7)), i 45 (AOp.load1 (Sym.t 44)), ⟨none, none, AOp.store 1 (Sym.t 6) (Sym.t 45), none, []⟩]) .retM) :: .code .retM :: .mark (H.length + 5) :: []) fr0 (G3 ++ []) fun v' _ => v' = .int .i64 (offN M sc t)
      simp only [n45, r45, em, f6, f7, q6, q7, encK_len, encK_0, encK_1, encK_2, take_all, e5, hsh, br4, hv, show H.length ≤ H.length + 1 by omega, SB, Nat.reduceLT, callee, aOp, ne_eq, Nat.reduceEqDiff, aBin, aUn, if_true, if_false, reduceCtorEq, frame0, place, notTuple, Nat.reduceAdd, Nat.reduceLeDiff, resVal, dite_true, dite_false, Int.reduceEq, Int.reduceLT, Int.reduceLE]
  simp only [n45, r45, hof, SB, Nat.reduceLT, callee, aOp, ne_eq, Nat.reduceEqDiff, aBin, aUn, if_true, if_false, reduceCtorEq, frame0, place, notTuple, Nat.reduceAdd, Nat.reduceLeDiff, resVal, dite_true, dite_false, Int.reduceEq, Int.reduceLT, Int.reduceLE]
  exact key _ (by simp only [FB, Nat.reduceEqDiff]) (by simp only [FB, Nat.reduceEqDiff]) (by simp only [FB, Nat.reduceEqDiff])
theorem offN_bound {M : List Mk} {sc t : Int} (hM : MarksOk M) : -maxT ≤ offN M sc t ∧ offN M sc t ≤ maxT := by
  have h0 : (0 : Int) ≤ maxT := by decide
  refine offGo_bound _ _ (ofN_lt hM.2) (fun m hm => ?_) (by show -maxT ≤ 0; omega) (by show (0 : Int) ≤ maxT; omega) (fun m _ => .inl rfl) (.inl rfl)
  have := hM.1 m (List.mem_filter.mp hm).1
  unfold fineM at this; omega
theorem correct_ok [OB] {mp : Bool} {lim c : Nat} {p : Option Addr} {M : List Mk} {s : Ev} {H : Heap} {Q : Value → Heap → Prop} (hs : Sl H encK 3 p M) (hc : CapOk 3 c M.length) (hn : M.length < 2 ^ 40) (hM : MarksOk M) (hf : FineE s) :
    CallR E mp lim 36 [.slice p M.length c, .agg (encN s).toArray] H Q = Q (.int .i64 (timeN M s)) H := by
  have hf' := hf
  unfold FineE at hf'
  have hb := offN_bound (sc := s.scanner) (t := s.at') hM
  have ho := fun (X : Heap) (mp : Bool) (lim : Nat) (Q : Value → Heap → Prop) => offset_ok (mp := mp) (lim := lim) (Q := Q) (sc := s.scanner) (t := s.at') ((Ext.refl.app (X := X)).sl hs) hc hn hM hf'.2.2.2.2.1
  have w1 : IntKind.i64.wrap (s.at' + offN M s.scanner s.at') = s.at' + offN M s.scanner s.at' := by unfold maxT at *; exact wrap_id (by omega) (by omega)
  refine pc (by decide) e36 rfl rfl ?_
  rw [b36, c36]
  have e : timeN M s = min (max (s.at' + offN M s.scanner s.at') 0) s.seen := rfl
  rw [e]
  generalize offN M s.scanner s.at' = o at *
  have m1 : aMinMaxAll true (.int .i64 (s.at' + o)) [.int .i64 0] = some (.int .i64 (max (s.at' + o) 0)) := by
    simp only [aMinMaxAll, aMinMax]
    grind
  have m2 : aMinMaxAll false (.int .i64 (max (s.at' + o) 0)) [.int .i64 s.seen] = some (.int .i64 (min (max (s.at' + o) 0) s.seen)) := by
    simp only [aMinMaxAll, aMinMax]
    grind
  simp only [n36, r36, encN_len, encN_0, encN_1, encN_2, encN_3, encN_4, encN_5, take_all, ho, w1, m1, m2, SB, Nat.reduceLT, callee, aOp, ne_eq, Nat.reduceEqDiff, aBin, aUn, if_true, if_false, reduceCtorEq, frame0, place, notTuple, Nat.reduceAdd, Nat.reduceLeDiff, resVal, dite_true, dite_false, Int.reduceEq, Int.reduceLT, Int.reduceLE]
def okM (M : List Mk) (i : Nat) : Bool := decide (fineM (gt M i)) && (decide (i = 0) || decide (ltM (gt M (i - 1)) (gt M i)))
theorem okM_no {M : List Mk} {i : Nat} (h : ¬ fineM (gt M i)) : okM M i = false := by unfold okM; rw [decide_eq_false h]; rfl
theorem okM_yes {M : List Mk} {i : Nat} (h : fineM (gt M i)) : okM M i = (decide (i = 0) || decide (ltM (gt M (i - 1)) (gt M i))) := by unfold okM; rw [decide_eq_true h]; rfl
theorem rmarks_ok [OB] {mp : Bool} {lim c : Nat} {p : Option Addr} {M : List Mk} {H : Heap} {Q : Value → Heap → Prop} (hs : Sl H encK 3 p M) (hn : M.length < 2 ^ 40) :
    CallR E mp lim 35 [.slice p M.length c] H Q = Q (.bool (allFrom (okM M) M.length 0)) H := by
  refine pc (by decide) e35 rfl rfl ?_
  rw [b35, c35]
  simp only [n35, r35, SB, Nat.reduceLT, callee, aOp, ne_eq, Nat.reduceEqDiff, aBin, aUn, if_true, if_false, reduceCtorEq, frame0, place, notTuple, Nat.reduceAdd, Nat.reduceLeDiff, resVal, dite_true, dite_false, Int.reduceEq, Int.reduceLT, Int.reduceLE]
  refine Ret_rounds (fun i => M.length - i) (fun i fr G => i ≤ M.length ∧ fr 0 = .slice p M.length c ∧ fr 6 = .slice p M.length c ∧ fr 7 = .int .i64 (M.length : Int) ∧ fr 8 = .int .i64 (i : Int) ∧ H.length ≤ G.length ∧ Sl G encK 3 p M ∧
    allFrom (okM M) M.length 0 = allFrom (okM M) M.length i) 0 ⟨Nat.zero_le _, (by simp only [FB, Nat.reduceEqDiff]), (by simp only [FB, Nat.reduceEqDiff]), (by simp only [FB, Nat.reduceEqDiff]), by rfl, by simp, hs.app _, rfl⟩ ?_
  intro i fr G ⟨hi, h0, h6, h7, h8, hL, hg, ha⟩ hN
  rw [Ret_code l35_1.eq_1]
  refine Ret_pad ?_
  by_cases hlt : i < M.length
  · rw [allFrom_step hlt] at ha
    have hld := fun X => (hg.app X).loadCells encK_len hlt
    have hidx := fun c (k : IntKind) (H1 : Heap) => hg.idx (c := c) (k := k) (H1 := H1) hlt
    have hw1 : IntKind.i64.wrap ((i : Int) + 1) = ((i + 1 : Nat) : Int) := wrap_nat (by omega)
    by_cases c1 : 1 ≤ (gt M i).scanner ∧ (gt M i).scanner ≤ 999999
    case neg => simp only [n35, r35, h0, h6, h7, h8, int_lt_cast, hlt, hL, hidx, hld, encK_len, encK_0, encK_1, encK_2, take_all, setAll_full, hw1, isid_ok, istime_ok, decide_eq_false c1, ha, okM_no (fun h : fineM (gt M i) => c1 ⟨h.1, h.2.1⟩), Bool.false_and, SB, Nat.reduceLT, callee, aOp, ne_eq, Nat.reduceEqDiff, aBin, aUn, if_true, if_false, reduceCtorEq, frame0, place, notTuple, Nat.reduceAdd, Nat.reduceLeDiff, resVal, dite_true, dite_false, Int.reduceEq, Int.reduceLT, Int.reduceLE]
    by_cases c2 : 0 ≤ (gt M i).at' ∧ (gt M i).at' ≤ maxT
    case neg => simp only [n35, r35, h0, h6, h7, h8, int_lt_cast, hlt, hL, hidx, hld, encK_len, encK_0, encK_1, encK_2, take_all, setAll_full, hw1, isid_ok, istime_ok, decide_eq_true c1, decide_eq_false c2, ha, okM_no (fun h : fineM (gt M i) => c2 ⟨h.2.2.1, h.2.2.2.1⟩), Bool.false_and, SB, Nat.reduceLT, callee, aOp, ne_eq, Nat.reduceEqDiff, aBin, aUn, if_true, if_false, reduceCtorEq, frame0, place, notTuple, Nat.reduceAdd, Nat.reduceLeDiff, resVal, dite_true, dite_false, Int.reduceEq, Int.reduceLT, Int.reduceLE]
    by_cases c3 : (gt M i).off < -1051898399
    · simp only [n35, r35, h0, h6, h7, h8, int_lt_cast, hlt, hL, hidx, hld, encK_len, encK_0, encK_1, encK_2, take_all, setAll_full, hw1, isid_ok, istime_ok, decide_eq_true c1, decide_eq_true c2, eq_true c3, ha, okM_no (fun h : fineM (gt M i) => by have := h.2.2.2.2.1; unfold maxT at this; omega), Bool.false_and, SB, Nat.reduceLT, callee, aOp, ne_eq, Nat.reduceEqDiff, aBin, aUn, if_true, if_false, reduceCtorEq, frame0, place, notTuple, Nat.reduceAdd, Nat.reduceLeDiff, resVal, dite_true, dite_false, Int.reduceEq, Int.reduceLT, Int.reduceLE]
    by_cases c4 : 1051898399 < (gt M i).off
    · simp only [n35, r35, h0, h6, h7, h8, int_lt_cast, hlt, hL, hidx, hld, encK_len, encK_0, encK_1, encK_2, take_all, setAll_full, hw1, isid_ok, istime_ok, decide_eq_true c1, decide_eq_true c2, eq_false c3, gt_iff_lt, eq_true c4, ha, okM_no (fun h : fineM (gt M i) => by have := h.2.2.2.2.2; unfold maxT at this; omega), Bool.false_and, SB, Nat.reduceLT, callee, aOp, ne_eq, Nat.reduceEqDiff, aBin, aUn, if_true, if_false, reduceCtorEq, frame0, place, notTuple, Nat.reduceAdd, Nat.reduceLeDiff, resVal, dite_true, dite_false, Int.reduceEq, Int.reduceLT, Int.reduceLE]
    have hf : fineM (gt M i) := ⟨c1.1, c1.2, c2.1, c2.2, by unfold maxT; omega, by unfold maxT; omega⟩
    rw [okM_yes hf] at ha
    by_cases h00 : i = 0
    · rw [decide_eq_true h00, Bool.true_or, Bool.true_and] at ha
      have he : ((i : Int) = 0) = True := eq_true (by omega)
      simp only [n35, r35, h0, h6, h7, h8, int_lt_cast, hlt, hL, hidx, hld, encK_len, encK_0, encK_1, encK_2, take_all, setAll_full, hw1, isid_ok, istime_ok, decide_eq_true c1, decide_eq_true c2, eq_false c3, gt_iff_lt, eq_false c4, he, SB, Nat.reduceLT, callee, aOp, ne_eq, Nat.reduceEqDiff, aBin, aUn, if_true, if_false, reduceCtorEq, frame0, place, notTuple, Nat.reduceAdd, Nat.reduceLeDiff, resVal, dite_true, dite_false, Int.reduceEq, Int.reduceLT, Int.reduceLE]
      refine hN (i + 1) _ _ ⟨by omega, (by simp only [h0, FB, Nat.reduceEqDiff]), (by simp only [h6, FB, Nat.reduceEqDiff]), (by simp only [h7, FB, Nat.reduceEqDiff]), (by simp only [FB, Nat.reduceEqDiff]), by simp; omega, hg.app _, ha⟩ (by omega)
    · have hne : ((i : Int) = 0) = False := eq_false (by omega)
      have hw0 : IntKind.i64.wrap ((i : Int) - 1) = ((i - 1 : Nat) : Int) := wrap_pred (by omega) (by omega)
      have hlt0 : i - 1 < M.length := by omega
      have hld0 := fun X => (hg.app X).loadCells encK_len hlt0
      have hidx0 := fun c (k : IntKind) (H1 : Heap) => hg.idx (c := c) (k := k) (H1 := H1) hlt0
      rw [decide_eq_false h00, Bool.false_or] at ha
      by_cases d1 : (gt M i).scanner < (gt M (i - 1)).scanner
      · simp only [n35, r35, h0, h6, h7, h8, int_lt_cast, hlt, hL, hidx, hld, encK_len, encK_0, encK_1, encK_2, take_all, setAll_full, hw1, isid_ok, istime_ok, decide_eq_true c1, decide_eq_true c2, eq_false c3, gt_iff_lt, eq_false c4, hne, hw0, hld0, hidx0, eq_true d1, ha, decide_eq_false (show ¬ ltM (gt M (i - 1)) (gt M i) by unfold ltM; omega), Bool.false_and, SB, Nat.reduceLT, callee, aOp, ne_eq, Nat.reduceEqDiff, aBin, aUn, if_true, if_false, reduceCtorEq, frame0, place, notTuple, Nat.reduceAdd, Nat.reduceLeDiff, resVal, dite_true, dite_false, Int.reduceEq, Int.reduceLT, Int.reduceLE]
      by_cases d2 : (gt M i).scanner = (gt M (i - 1)).scanner
      · by_cases d3 : (gt M i).at' ≤ (gt M (i - 1)).at'
        · simp only [n35, r35, h0, h6, h7, h8, int_lt_cast, hlt, hL, hidx, hld, encK_len, encK_0, encK_1, encK_2, take_all, setAll_full, hw1, isid_ok, istime_ok, decide_eq_true c1, decide_eq_true c2, eq_false c3, gt_iff_lt, eq_false c4, hne, hw0, hld0, hidx0, eq_false d1, eq_true d2, eq_true d3, ha, decide_eq_false (show ¬ ltM (gt M (i - 1)) (gt M i) by unfold ltM; omega), Bool.false_and, SB, Nat.reduceLT, callee, aOp, ne_eq, Nat.reduceEqDiff, aBin, aUn, if_true, if_false, reduceCtorEq, frame0, place, notTuple, Nat.reduceAdd, Nat.reduceLeDiff, resVal, dite_true, dite_false, Int.reduceEq, Int.reduceLT, Int.reduceLE]
        · rw [decide_eq_true (show ltM (gt M (i - 1)) (gt M i) by unfold ltM; omega), Bool.true_and] at ha
          simp only [n35, r35, h0, h6, h7, h8, int_lt_cast, hlt, hL, hidx, hld, encK_len, encK_0, encK_1, encK_2, take_all, setAll_full, hw1, isid_ok, istime_ok, decide_eq_true c1, decide_eq_true c2, eq_false c3, gt_iff_lt, eq_false c4, hne, hw0, hld0, hidx0, eq_false d1, eq_true d2, eq_false d3, SB, Nat.reduceLT, callee, aOp, ne_eq, Nat.reduceEqDiff, aBin, aUn, if_true, if_false, reduceCtorEq, frame0, place, notTuple, Nat.reduceAdd, Nat.reduceLeDiff, resVal, dite_true, dite_false, Int.reduceEq, Int.reduceLT, Int.reduceLE]
          refine hN (i + 1) _ _ ⟨by omega, (by simp only [h0, FB, Nat.reduceEqDiff]), (by simp only [h6, FB, Nat.reduceEqDiff]), (by simp only [h7, FB, Nat.reduceEqDiff]), (by simp only [FB, Nat.reduceEqDiff]), by simp; omega, hg.app _, ha⟩ (by omega)
      · rw [decide_eq_true (show ltM (gt M (i - 1)) (gt M i) by unfold ltM; omega), Bool.true_and] at ha
        simp only [n35, r35, h0, h6, h7, h8, int_lt_cast, hlt, hL, hidx, hld, encK_len, encK_0, encK_1, encK_2, take_all, setAll_full, hw1, isid_ok, istime_ok, decide_eq_true c1, decide_eq_true c2, eq_false c3, gt_iff_lt, eq_false c4, hne, hw0, hld0, hidx0, eq_false d1, eq_false d2, SB, Nat.reduceLT, callee, aOp, ne_eq, Nat.reduceEqDiff, aBin, aUn, if_true, if_false, reduceCtorEq, frame0, place, notTuple, Nat.reduceAdd, Nat.reduceLeDiff, resVal, dite_true, dite_false, Int.reduceEq, Int.reduceLT, Int.reduceLE]
        refine hN (i + 1) _ _ ⟨by omega, (by simp only [h0, FB, Nat.reduceEqDiff]), (by simp only [h6, FB, Nat.reduceEqDiff]), (by simp only [h7, FB, Nat.reduceEqDiff]), (by simp only [FB, Nat.reduceEqDiff]), by simp; omega, hg.app _, ha⟩ (by omega)
  · obtain rfl : i = M.length := by omega
    simp only [n35, r35, h0, h6, h7, h8, int_lt_cast, hlt, ha, allFrom_end, SB, Nat.reduceLT, callee, aOp, ne_eq, Nat.reduceEqDiff, aBin, aUn, if_true, if_false, reduceCtorEq, frame0, place, notTuple, Nat.reduceAdd, Nat.reduceLeDiff, resVal, dite_true, dite_false, Int.reduceEq, Int.reduceLT, Int.reduceLE]
theorem okM_iff {M : List Mk} : allFrom (okM M) M.length 0 = true ↔ MarksOk M := by
  rw [allFrom_iff]
  unfold okM
  simp only [Bool.and_eq_true, Bool.or_eq_true, decide_eq_true_eq]
  constructor
  · intro h
    refine ⟨fun m hm => ?_, ?_⟩
    · obtain ⟨i, hi, rfl⟩ := List.mem_iff_getElem.mp hm
      have := (h i (Nat.zero_le _) hi).1
      rwa [gt_lt hi] at this
    · have step : ∀ i, i + 1 < M.length → ltM (gt M i) (gt M (i + 1)) := fun i hi => by
        have := (h (i + 1) (Nat.zero_le _) hi).2
        rcases this with q | q
        · omega
        · exact q
      rw [List.pairwise_iff_getElem]
      intro i j hi hj hij
      rw [← gt_lt hi, ← gt_lt hj]
      clear hi
      induction j with
      | zero => omega
      | succ j ih =>
        have hs := step j hj
        by_cases hq : i = j
        · subst hq; exact hs
        · exact ltM_trans (ih (by omega) (by omega)) hs
  · intro h i _ hi
    refine ⟨h.1 _ (gt_mem hi), ?_⟩
    by_cases h0 : i = 0
    · exact .inl h0
    · right
      have hj : i - 1 < M.length := by omega
      rw [gt_lt hj, gt_lt hi]
      exact List.pairwise_iff_getElem.mp h.2 (i - 1) i hj hi (by omega)
instance (M : List Mk) : Decidable (MarksOk M) := by unfold MarksOk; infer_instance
theorem okM_dec {M : List Mk} : allFrom (okM M) M.length 0 = decide (MarksOk M) := by
  rw [Bool.eq_iff_iff, okM_iff, decide_eq_true_iff]
theorem Time_ok [OB] {mp : Bool} {lim c : Nat} {p : Option Addr} {M : List Mk} {s : Ev} {H : Heap} {Q : Value → Heap → Prop} (hs : Sl H encK 3 p M) (hc : CapOk 3 c M.length) (hn : M.length < 2 ^ 40) :
    CallR E mp lim 12 [.slice p M.length c, .agg (encN s).toArray] H Q = Q (if FineE s ∧ MarksOk M then .tuple #[.int .i64 (timeN M s), .int .i64 0] else .tuple #[.int .i64 0, .int .i64 2]) H := by
  refine pc (by decide) e12 rfl (by split <;> rfl) ?_
  rw [b12, c12]
  have hr := fun (X : Heap) (mp : Bool) (lim : Nat) (Q : Value → Heap → Prop) => rmarks_ok (mp := mp) (lim := lim) (Q := Q) (c := c) ((Ext.refl.app (X := X)).sl hs) hn
  by_cases h1 : FineE s
  · by_cases h2 : MarksOk M
    · have hc := fun (X : Heap) (mp : Bool) (lim : Nat) (Q : Value → Heap → Prop) => correct_ok (mp := mp) (lim := lim) (Q := Q) ((Ext.refl.app (X := X)).sl hs) hc hn h2 h1
      rw [if_pos ⟨h1, h2⟩]
      simp only [n12, r12, encN_len, encN_0, encN_1, encN_2, encN_3, encN_4, encN_5, take_all, sright_ok, hr, okM_dec, decide_eq_true h1, decide_eq_true h2, hc, SB, Nat.reduceLT, callee, aOp, ne_eq, Nat.reduceEqDiff, aBin, aUn, if_true, if_false, reduceCtorEq, frame0, place, notTuple, Nat.reduceAdd, Nat.reduceLeDiff, resVal, dite_true, dite_false, Int.reduceEq, Int.reduceLT, Int.reduceLE]
    · rw [if_neg fun h => h2 h.2]
      simp only [n12, r12, encN_len, encN_0, encN_1, encN_2, encN_3, encN_4, encN_5, take_all, sright_ok, hr, okM_dec, decide_eq_true h1, decide_eq_false h2, SB, Nat.reduceLT, callee, aOp, ne_eq, Nat.reduceEqDiff, aBin, aUn, if_true, if_false, reduceCtorEq, frame0, place, notTuple, Nat.reduceAdd, Nat.reduceLeDiff, resVal, dite_true, dite_false, Int.reduceEq, Int.reduceLT, Int.reduceLE]
  · rw [if_neg fun h => h1 h.1]
    simp only [n12, r12, encN_len, encN_0, encN_1, encN_2, encN_3, encN_4, encN_5, take_all, sright_ok, decide_eq_false h1, SB, Nat.reduceLT, callee, aOp, ne_eq, Nat.reduceEqDiff, aBin, aUn, if_true, if_false, reduceCtorEq, frame0, place, notTuple, Nat.reduceAdd, Nat.reduceLeDiff, resVal, dite_true, dite_false, Int.reduceEq, Int.reduceLT, Int.reduceLE]
theorem rightL_ok [OB] {mp : Bool} {lim c : Nat} {p : Option Addr} {S : List Ev} {H : Heap} {Q : Value → Heap → Prop} (hs : Sl H encN 6 p S) (hn : S.length < 2 ^ 63) :
    CallR E mp lim 25 [.slice p S.length c] H Q = Q (.bool (decide (RightL S))) H := by
  refine pc (by decide) e25 rfl rfl ?_
  rw [b25, c25]
  by_cases hb : S.length ≤ 2000
  case neg =>
    have hc1 : (2000 : Int) < (S.length : Int) := by omega
    simp only [n25, r25, gt_iff_lt, hc1, decide_eq_false (show ¬ RightL S from fun h => hb h.1), SB, Nat.reduceLT, callee, aOp, ne_eq, Nat.reduceEqDiff, aBin, aUn, if_true, if_false, reduceCtorEq, frame0, place, notTuple, Nat.reduceAdd, Nat.reduceLeDiff, resVal, dite_true, dite_false, Int.reduceEq, Int.reduceLT, Int.reduceLE]
  have hc1 : ¬ (2000 : Int) < (S.length : Int) := by omega
  simp only [n25, r25, gt_iff_lt, hc1, SB, Nat.reduceLT, callee, aOp, ne_eq, Nat.reduceEqDiff, aBin, aUn, if_true, if_false, reduceCtorEq, frame0, place, notTuple, Nat.reduceAdd, Nat.reduceLeDiff, resVal, dite_true, dite_false, Int.reduceEq, Int.reduceLT, Int.reduceLE]
  refine Ret_rounds (fun i => S.length - i) (fun i fr G => i ≤ S.length ∧ fr 8 = .slice p S.length c ∧ fr 9 = .int .i64 (S.length : Int) ∧ fr 10 = .int .i64 (i : Int) ∧ H.length ≤ G.length ∧ Sl G encN 6 p S ∧ ∀ j, j < i → FineE (gt S j)) 0 ⟨Nat.zero_le _, (by simp only [FB, Nat.reduceEqDiff]), (by simp only [FB, Nat.reduceEqDiff]), by rfl, by simp, hs.app _, fun j h => absurd h (Nat.not_lt_zero j)⟩ ?_
  intro i fr G ⟨hi, h8, h9, h10, hL, hg, ha⟩ hN
  rw [Ret_code l25_1.eq_1]
  refine Ret_pad ?_
  by_cases hlt : i < S.length
  · have hld := fun X => (hg.app X).loadCells encN_len hlt
    have hidx := fun c (k : IntKind) (H1 : Heap) => hg.idx (c := c) (k := k) (H1 := H1) hlt
    have hw1 : IntKind.i64.wrap ((i : Int) + 1) = ((i + 1 : Nat) : Int) := wrap_nat (by omega)
    by_cases hf : FineE (gt S i)
    · simp only [n25, r25, h8, h9, h10, int_lt_cast, hlt, hL, hidx, hld, encN_len, take_all, setAll_full, hw1, sright_ok, decide_eq_true hf, SB, Nat.reduceLT, callee, aOp, ne_eq, Nat.reduceEqDiff, aBin, aUn, if_true, if_false, reduceCtorEq, frame0, place, notTuple, Nat.reduceAdd, Nat.reduceLeDiff, resVal, dite_true, dite_false, Int.reduceEq, Int.reduceLT, Int.reduceLE]
      refine hN (i + 1) _ _ ⟨by omega, (by simp only [h8, FB, Nat.reduceEqDiff]), (by simp only [h9, FB, Nat.reduceEqDiff]), (by simp only [FB, Nat.reduceEqDiff]), by simp; omega, hg.app _, fun j hj => ?_⟩ (by omega)
      rcases (by omega : j < i ∨ j = i) with h | rfl
      · exact ha j h
      · exact hf
    · simp only [n25, r25, h8, h9, h10, int_lt_cast, hlt, hL, hidx, hld, encN_len, take_all, setAll_full, hw1, sright_ok, decide_eq_false hf, decide_eq_false (show ¬ RightL S from fun h => hf (h.2 _ (gt_mem hlt))), SB, Nat.reduceLT, callee, aOp, ne_eq, Nat.reduceEqDiff, aBin, aUn, if_true, if_false, reduceCtorEq, frame0, place, notTuple, Nat.reduceAdd, Nat.reduceLeDiff, resVal, dite_true, dite_false, Int.reduceEq, Int.reduceLT, Int.reduceLE]
  · obtain rfl : i = S.length := by omega
    have hall : RightL S := ⟨hb, fun s hs => by
      obtain ⟨j, hj, rfl⟩ := List.mem_iff_getElem.mp hs
      have := ha j hj
      rwa [gt_lt hj] at this⟩
    simp only [n25, r25, h8, h9, h10, int_lt_cast, hlt, decide_eq_true hall, SB, Nat.reduceLT, callee, aOp, ne_eq, Nat.reduceEqDiff, aBin, aUn, if_true, if_false, reduceCtorEq, frame0, place, notTuple, Nat.reduceAdd, Nat.reduceLeDiff, resVal, dite_true, dite_false, Int.reduceEq, Int.reduceLT, Int.reduceLE]
def vK (m : Mk) : Value := .agg (encK m).toArray
theorem encM_get {κ ν : Type} {kv : κ → Value} {vv : ν → Value} {es : List (κ × ν)} {j : Nat} {e : Value × Value} (h : (encM kv vv es)[j]? = some e) : ∃ x, es[j]? = some x ∧ e = (kv x.1, vv x.2) := by
  unfold encM at h
  rw [List.getElem?_map] at h
  cases hx : es[j]? with
  | none => rw [hx] at h; cases h
  | some x => rw [hx] at h; cases h; exact ⟨x, rfl, rfl⟩
theorem encM_len {κ ν : Type} {kv : κ → Value} {vv : ν → Value} {es : List (κ × ν)} : (encM kv vv es).length = es.length := List.length_map ..
theorem vals_rule [OB] {lim Y Bm R : Nat} {es : List ((Int × Int) × Mk)} {H : Heap} {Q : Value → Heap → Prop} (J : List Nat → Heap → Prop) (hlim : lim ≤ H.length)
    (hJ : ∀ seen G G', J seen G → Chg [H.length] G G' → J seen G')
    (hround : ∀ seen j x G, MetOk es.length (seen ++ [j]) → es[j]? = some x → H.length < G.length → J seen G → CallY Ef false lim Y [vK x.2] G fun v H' => v = .bool true ∧ J (seen ++ [j]) H' ∧ G.length ≤ H'.length ∧ hget H' R = hget G R ∧ hget H' H.length = hget G H.length)
    (h1 : hget H Bm = .cells false [.map (some R)]) (hm : hget H R = .map (encM kM vK es)) (h0 : J [] H)
    (hQ : ∀ seen H', MetOk es.length seen → unmet es.length seen = [] → J seen H' → Q (.tuple #[]) H') :
    CallR Ef false lim 64 [.func (.yield Y) #[] #[], .pointer (some ⟨Bm, 0, none⟩)] H Q := by
  refine runsF (by decide) e64 rfl ?_
  rw [b64, c64]
  have hR := hget_alive' hm
  have q1 := fun X => (Ext.refl.app (X := X)).cells h1
  have hra : aRangeMap (.map (some R)) (H ++ []) = some (.pointer (some ⟨H.length, 0, none⟩), H ++ [.iter (some R) (encM kM vK es).length []]) := by
    rw [range_free (es := encM kM vK es) (by rw [hget_old hR]; exact hm)]
    simp
  simp only [n64, r64, q1, hra, SB, Nat.reduceLT, callee, aOp, ne_eq, Nat.reduceEqDiff, aBin, aUn, if_true, if_false, reduceCtorEq, frame0, place, notTuple, Nat.reduceAdd, Nat.reduceLeDiff, resVal, dite_true, dite_false, Int.reduceEq, Int.reduceLT, Int.reduceLE]
  refine Ret_rounds (fun seen : List Nat => es.length - seen.length) (fun seen fr G => MetOk es.length seen ∧ fr 0 = .func (.yield Y) #[] #[] ∧ fr 6 = .pointer (some ⟨H.length, 0, none⟩) ∧ hget G H.length = .iter (some R) (encM kM vK es).length seen ∧ hget G R = .map (encM kM vK es) ∧ H.length < G.length ∧ J seen G) []
    ⟨⟨List.nodup_nil, fun j h => (List.not_mem_nil h).elim⟩, (by simp only [FB, Nat.reduceEqDiff]), (by simp only [FB, Nat.reduceEqDiff]), by rw [hget_new0]; rfl, by rw [hget_old hR]; exact hm, by simp, hJ _ _ _ h0 ⟨by simp, fun j hj _ => hget_old hj⟩⟩ ?_
  rintro seen fr G ⟨hs, g0, g6, gI, gR, gl, gJ⟩ hN
  rw [Ret_code l64_1.eq_1]
  refine Ret_pad ?_
  simp only [n64, r64, g0, g6, SB, Nat.reduceLT, callee, aOp, ne_eq, Nat.reduceEqDiff, aBin, aUn, if_true, if_false, reduceCtorEq, frame0, place, notTuple, Nat.reduceAdd, Nat.reduceLeDiff, resVal, dite_true, dite_false, Int.reduceEq, Int.reduceLT, Int.reduceLE]
  have hkf : ∀ e ∈ encM kM vK es, keyFlat e.1 = true := fun e he => by
    unfold encM at he
    obtain ⟨x, _, rfl⟩ := List.mem_map.mp he
    rfl
  have hun : ∀ s, unmet (encM kM vK es).length s = unmet es.length s := fun s => by rw [encM_len]
  refine next_free (es := encM kM vK es) (by rw [hget_old gl]; exact gI) hlim (by rw [hget_old (by omega)]; exact gR) hkf ?_ ?_
  · intro hu
    rw [hun] at hu
    simp only [n64, r64, g0, g6, SB, Nat.reduceLT, callee, aOp, ne_eq, Nat.reduceEqDiff, aBin, aUn, if_true, if_false, reduceCtorEq, frame0, place, notTuple, Nat.reduceAdd, Nat.reduceLeDiff, resVal, dite_true, dite_false, Int.reduceEq, Int.reduceLT, Int.reduceLE]
    exact hQ seen _ hs hu (hJ _ _ _ gJ Chg.refl.app)
  · intro j e hj he
    obtain ⟨x, hx, rfl⟩ := encM_get he
    rw [hun] at hj
    obtain ⟨G1, e1, h1, m1⟩ := mut_set (G := G) (R := H.length) gl (.iter (some R) (encM kM vK es).length (seen ++ [j]))
    have mR := m1.other R (by omega)
    rw [e1]
    have hen : aEntry (.pointer (some ⟨H.length, 0, none⟩)) (G1 ++ []) = some (.tuple #[kM x.1, vK x.2], G1 ++ []) := by
      exact entry_free (es := encM kM vK es) (by rw [hget_old (by rw [m1.len]; exact gl)]; exact h1) (by rw [hget_old (by rw [m1.len]; omega), mR]; exact gR) he rfl
    have hl1 : lim ≤ G1.length := by rw [m1.len]; omega
    simp only [n64, r64, g0, g6, hen, vK, encK_len, encK_0, encK_1, encK_2, take_all, setAll_full, hl1, SB, Nat.reduceLT, callee, aOp, ne_eq, Nat.reduceEqDiff, aBin, aUn, if_true, if_false, reduceCtorEq, frame0, place, notTuple, Nat.reduceAdd, Nat.reduceLeDiff, resVal, dite_true, dite_false, Int.reduceEq, Int.reduceLT, Int.reduceLE]
    have J1 : J seen (G1 ++ [.cells false (encK x.2)]) := hJ _ _ _ gJ ⟨by simp [m1.len], fun k hk hA => by
      rw [hget_old (by rw [m1.len]; exact hk)]
      exact m1.other k (by simpa using hA)⟩
    have hcon := hround seen j x _ (hs.add hj) hx (by simp [m1.len]; omega) J1
    unfold vK at hcon
    refine hcon.mono fun v H' hv => ?_
    obtain ⟨rfl, j1, j2, j3, j4⟩ := hv
    refine Ret_pad ?_
    simp only [n64, r64, g0, g6, SB, Nat.reduceLT, callee, aOp, ne_eq, Nat.reduceEqDiff, aBin, aUn, if_true, if_false, reduceCtorEq, frame0, place, notTuple, Nat.reduceAdd, Nat.reduceLeDiff, resVal, dite_true, dite_false, Int.reduceEq, Int.reduceLT, Int.reduceLE]
    have lG1 := m1.len
    simp only [List.length_append, List.length_cons, List.length_nil] at j2
    refine hN (seen ++ [j]) _ _ ⟨hs.add hj, (by simp only [g0, FB, Nat.reduceEqDiff]), (by simp only [g6, FB, Nat.reduceEqDiff]), ?_, ?_, by simp; omega, hJ _ _ _ j1 Chg.refl.app⟩ ?_
    · rw [hget_old (by omega), j4, hget_old (by omega)]; exact h1
    · rw [hget_old (by omega), j3, hget_old (by omega), mR]; exact gR
    · have := (hs.add hj).len
      simp only [List.length_append, List.length_cons, List.length_nil] at this ⊢
      omega
abbrev Ess := List ((Int × Int) × Mk)
structure CSt (H : Heap) (fr0 : Nat → Value) (st cap : Nat) (p : Option Addr) (l : List Mk) (G : Heap) : Prop where
  box : hget G H.length = .cells false [.slice p l.length cap]
  dfr : hget G (H.length + 1) = .dfr
  loop : hget G (H.length + 2) = .loop ⟨st, none, fr0, 13, [7], ga80_1, gb80_1⟩
  own : Own (H.length + 4) G encK 3 p cap l
  len : H.length + 3 ≤ G.length
  old : ∀ j, j < H.length → hget G j = hget H j
theorem CSt.chg {H : Heap} {fr0 : Nat → Value} {st cap : Nat} {p : Option Addr} {l : List Mk} {G G' : Heap} (h : CSt H fr0 st cap p l G) {A : List Nat} (hC : Chg A G G') (hA : ∀ j ∈ A, j = H.length + 3) : CSt H fr0 st cap p l G' := by
  have len := h.len
  have nin : ∀ j, j < H.length + 3 → j ∉ A := fun j h1 h2 => by have := hA j h2; omega
  refine ⟨hC.cells h.box (nin _ (by omega)), hC.get h.dfr (by omega) (nin _ (by omega)), hC.get h.loop (by omega) (nin _ (by omega)), h.own.chg hC fun a e hh => ?_, by have := hC.len; omega, fun j hj => (hC.other j (by omega) (nin _ (by omega))).trans (h.old j hj)⟩
  have := hA _ hh
  have := (h.own.block e).1
  omega
theorem round_coll [OB] {lim : Nat} {H : Heap} {fr0 : Nat → Value} {cap : Nat} {p : Option Addr} {l : List Mk} {x : Mk} {G : Heap} (hl : lim ≤ H.length) (f2 : fr0 2 = .pointer (some ⟨H.length, 0, none⟩)) (h : CSt H fr0 0 cap p l G) (hlen : H.length + 3 < G.length) (hn : l.length < 2 ^ 20) :
    CallY Ef false lim (H.length + 2) [vK x] G fun v H' => v = .bool true ∧ (∃ cap' p', CSt H fr0 0 cap' p' (l ++ [x]) H') ∧ G.length ≤ H'.length ∧ (∀ j, j < G.length → j ≠ H.length → j ≠ H.length + 2 → (∀ a, p = some a → j ≠ a.block) → hget H' j = hget G j) := by
  rw [CallY_run h.loop (by omega) rfl (by rfl), setParams_one]
  obtain ⟨G1, e1, h1, m1⟩ := mut_set (G := G) (R := H.length + 2) (by omega) (.loop ⟨1, none, fr0, 13, [7], ga80_1, gb80_1⟩)
  have gY := fun X => (Ext.refl.app (X := X)).get' h.loop (by omega)
  have l1 := m1.len
  have ne : ∀ a, p = some a → a.block ≠ H.length + 2 := fun a e => by have := (h.own.block e).1; omega
  have own1 := h.own.mut m1 ne
  obtain ⟨G2, e2, own2, _, hold2, len2, hX2⟩ := own1.step (lim' := lim) (bytes := 24) (by omega) encK_len (by decide) x (by unfold maxBytes; omega) (by omega) (by omega) [.cells false (encK x), .cells false (encK x)] (G1.length + 1) 1 (by rw [hget_new]; rfl)
  simp only [List.length_cons, List.length_nil, Nat.zero_add, Nat.reduceAdd] at e2 own2 len2 hX2
  have nb : ∀ j, j < H.length + 3 → ∀ a, p = some a → j ≠ a.block := fun j hj a e => by have := (h.own.block e).1; omega
  have o2 : ∀ j, j < H.length + 3 → j ≠ H.length + 2 → hget (G2 ++ []) j = hget G j := fun j hj hj2 => by
    rw [hold2 j (by omega) (nb j hj), m1.other j hj2]
  have y2 : hget (G2 ++ []) (H.length + 2) = .loop ⟨1, none, fr0, 13, [7], ga80_1, gb80_1⟩ := (hold2 _ (by omega) (nb _ (by omega))).trans h1
  have b2 : hget (G2 ++ []) H.length = .cells false [.slice p l.length cap] := (o2 _ (by omega) (by omega)).trans h.box
  rw [List.append_nil] at own2 o2 y2 b2
  have b2X := fun X => (Ext.refl.app (X := X)).cells b2
  obtain ⟨G3, e3, h3, m3⟩ := mut_set (G := G2) (R := H.length) (by omega) (.cells false [.slice (some ⟨G1.length + 2, 0, none⟩) (l.length + 1) (loose 3)])
  have y3 := m3.alive y2 (by omega : H.length + 2 ≠ H.length)
  have y3X := fun X => (Ext.refl.app (X := X)).get' y3 (by have := m3.len; omega)
  obtain ⟨G4, e4, h4, m4⟩ := mut_set (G := G3) (R := H.length + 2) (by have := m3.len; omega) (.loop ⟨0, none, fr0, 13, [7], ga80_1, gb80_1⟩)
  have hlG : lim ≤ G.length := by omega
  have bX : ∀ X, hget (G1 ++ X) H.length = .cells false [.slice p l.length cap] := fun X => (Ext.refl.app).cells (m1.cells h.box (by omega))
  have R1 : ∀ Y, hget (G1 ++ .cells false (encK x) :: Y) G.length = .cells false (encK x) := fun Y => by rw [← l1]; exact hget_new0
  refine Ret_pad ?_
  rw [Ret_code ga80_1.eq_1]
  unfold vK
  simp only [f2, encK_len, setAll_full, hlG, gY, e1, show lim ≤ H.length + 2 by omega, SB, Nat.reduceLT, callee, aOp, ne_eq, Nat.reduceEqDiff, aBin, aUn, if_true, if_false, reduceCtorEq, frame0, place, notTuple, Nat.reduceAdd, Nat.reduceLeDiff, resVal, dite_true, dite_false, Int.reduceEq, Int.reduceLT, Int.reduceLE]
  rw [Ret_code gb80_1.eq_1]
  simp only [f2, bX, R1, encK_len, encK_0, encK_1, encK_2, take_all, setAll_full, SB, Nat.reduceLT, callee, aOp, ne_eq, Nat.reduceEqDiff, aBin, aUn, if_true, if_false, reduceCtorEq, frame0, place, notTuple, Nat.reduceAdd, Nat.reduceLeDiff, resVal, dite_true, dite_false, Int.reduceEq, Int.reduceLT, Int.reduceLE]
  have b2N := b2X []
  simp only [f2, e2, b2N, e3, y3X, e4, show lim ≤ H.length + 2 by omega, hl, SB, Nat.reduceLT, callee, aOp, ne_eq, Nat.reduceEqDiff, aBin, aUn, if_true, if_false, reduceCtorEq, frame0, place, notTuple, Nat.reduceAdd, Nat.reduceLeDiff, resVal, dite_true, dite_false, Int.reduceEq, Int.reduceLT, Int.reduceLE]
  have l3 := m3.len
  have l4 := m4.len
  have own4 := (own2.mut m3 (fun a e => by cases e; show G1.length + 2 ≠ H.length; omega)).mut m4 (fun a e => by cases e; show G1.length + 2 ≠ H.length + 2; omega)
  have old4 : ∀ j, j ≠ H.length → j ≠ H.length + 2 → hget G4 j = hget G2 j := fun j q1 q2 => by rw [m4.other j q2, m3.other j q1]
  refine ⟨⟨loose 3, some ⟨G1.length + 2, 0, none⟩, ?_, ?_, ?_, own4.app _, ?_, fun j hj => ?_⟩, ?_, fun j q1 q2 q3 q4 => ?_⟩
  · rw [hget_old (by omega), m4.other _ (by omega), h3, List.length_append]; rfl
  · rw [hget_old (by omega), old4 _ (by omega) (by omega), o2 _ (by omega) (by omega)]; exact h.dfr
  · rw [hget_old (by omega)]; exact h4
  · have := h.len
    first | omega | (rw [List.length_append]; omega)
  · rw [hget_old (by omega), old4 _ (by omega) (by omega), o2 _ (by omega) (by omega)]; exact h.old j hj
  · first | omega | (rw [List.length_append]; omega)
  · have := hold2 j (by omega) q4
    rw [List.append_nil] at this
    rw [hget_old (by omega), old4 _ q2 q3, this, m1.other j q3]
theorem appseq_ok [OB] {lim Bm R : Nat} {es : Ess} {H : Heap} {Q : Value → Heap → Prop} (hl : lim ≤ H.length) (h1 : hget H Bm = .cells false [.map (some R)]) (hm : hget H R = .map (encM kM vK es)) (hn : es.length < 2 ^ 20)
    (hQ : ∀ G p cap l, l.Perm (es.map (·.2)) → Own H.length G encK 3 p cap l → Chg [] H G → Q (.slice p l.length cap) G) :
    CallR Ef false lim 80 [.slice none 0 0, .func (.func 64) #[] #[.pointer (some ⟨Bm, 0, none⟩)]] H Q := by
  refine runsF (by decide) e80 rfl ?_
  rw [b80, c80]
  have hR := hget_alive' hm
  have hB := hget_alive h1
  have key : ∀ fr0 : Nat → Value, fr0 2 = .pointer (some ⟨H.length, 0, none⟩) →
      CallR Ef false lim 64 [.func (.yield (H.length + 2)) #[] #[], .pointer (some ⟨Bm, 0, none⟩)]
      (H ++ [Blk.cells false [Value.slice none 0 0], .dfr, .loop ⟨0, none, fr0, 13, [7], ga80_1, gb80_1⟩])
      fun x H2 => endK (hget H2 ((H ++ [Blk.cells false [Value.slice none 0 0]]).length + 1)) fun x => Ret Ef a80 lim (pendI x ++ ([.inBlock 0, .code (.seq (ACode.ops [i 12 (AOp.load1 (Sym.t 2)), i 4 (AOp.mov (Sym.t 12))]) .retM), .code .retM] ++ [.mark (H ++ [Blk.cells false [Value.slice none 0 0]]).length])) fr0 (H2.set ((H ++ [Blk.cells false [Value.slice none 0 0]]).length + 1) .dead) Q := by
    intro fr0 f2
    have hm' : (H ++ [Blk.cells false [Value.slice none 0 0]]).length = H.length + 1 := by simp
    rw [hm']
    have hl3 : (H ++ [Blk.cells false [Value.slice none 0 0], .dfr, .loop ⟨0, none, fr0, 13, [7], ga80_1, gb80_1⟩]).length = H.length + 3 := by simp
    refine vals_rule (es := es) (fun seen G => ∃ cap p, CSt H fr0 0 cap p (metV es seen) G) (by rw [hl3]; omega) ?_ ?_ (by rw [hget_old hB]; exact h1) (by rw [hget_old hR]; exact hm) ?_ ?_
    · rintro seen G G' ⟨cap, p, k⟩ hC
      rw [hl3] at hC
      exact ⟨cap, p, k.chg hC fun j hj => by simpa using hj⟩
    · rintro seen j x G hmet hx hgl ⟨cap, p, k⟩
      rw [hl3] at hgl ⊢
      have hlt : j < es.length := by
        rcases Nat.lt_or_ge j es.length with h | h
        · exact h
        · rw [List.getElem?_eq_none h] at hx; cases hx
      have hsl : seen.length < 2 ^ 20 := by
        have := hmet.len
        simp only [List.length_append, List.length_cons, List.length_nil] at this; omega
      refine (round_coll (x := x.2) hl f2 k hgl (by unfold metV; rw [List.length_map]; exact hsl)).mono fun v H' hv => ?_
      obtain ⟨rfl, ⟨cap', p', k'⟩, q1, q2⟩ := hv
      have np : ∀ j, j < H.length + 4 → ∀ a, p = some a → j ≠ a.block := fun j hj a e => by have := (k.own.block e).1; omega
      refine ⟨rfl, ⟨cap', p', ?_⟩, q1, q2 R (by omega) (by omega) (by omega) (np _ (by omega)), q2 _ (by omega) (by omega) (by omega) (np _ (by omega))⟩
      have e : metV es (seen ++ [j]) = metV es seen ++ [x.2] := by
        unfold metV
        rw [List.map_append, List.map_cons, List.map_nil]
        congr 2
        rw [gt_lt (by rw [List.length_map]; exact hlt), List.getElem_map]
        rw [List.getElem?_eq_getElem hlt] at hx
        cases hx; rfl
      rw [e]; exact k'
    · exact ⟨0, none, by rw [hget_new0]; rfl, by rw [hget_new]; rfl, by rw [hget_new]; rfl, .inl ⟨rfl, rfl, rfl⟩, by simp, fun j hj => hget_old hj⟩
    · rintro seen H' hmet hu ⟨cap, p, k⟩
      have len := k.len
      obtain ⟨G3, e3, _, m3⟩ := mut_set (G := H') (R := H.length + 2) (by omega) .dead
      have e3' := e3 []
      rw [List.append_nil] at e3'
      have b3 : ∀ X, hget (G3 ++ X) H.length = .cells false [.slice p (metV es seen).length cap] := fun X => (Ext.refl.app).cells (m3.cells k.box (by omega))
      have dfr3 := (Ext.refl.app (X := [])).get' (m3.alive k.dfr (by omega : H.length + 1 ≠ H.length + 2)) (by have := m3.len; omega)
      obtain ⟨G4, e4, _, m4⟩ := mut_set (G := G3) (R := H.length + 1) (by have := m3.len; omega) .dead
      have hsh := shut_cons (lim := lim) (i := H.length + 1) (l := []) dfr3 (by omega)
      have e4' : (G3 ++ []).set (H.length + 1) .dead = G4 ++ [] := e4 []
      rw [e4', shut_nil] at hsh
      have em : ([] : List Nat) ++ [H.length + 1] = [H.length + 1] := rfl
      simp only [n80, r80, k.loop, e3', SB, Nat.reduceLT, callee, aOp, ne_eq, Nat.reduceEqDiff, aBin, aUn, if_true, if_false, reduceCtorEq, frame0, place, notTuple, Nat.reduceAdd, Nat.reduceLeDiff, resVal, dite_true, dite_false, Int.reduceEq, Int.reduceLT, Int.reduceLE]
      show Ret Ef a80 lim (.inBlock 0 :: .code (.seq (ACode.ops [i 12 (AOp.load1 (Sym.t 2)), i 4 (AOp.mov (Sym.t 12))]) .retM) :: .code .retM :: .mark (H.length + 1) :: []) fr0 (G3 ++ []) Q
      simp only [n80, r80, em, f2, b3, hsh, SB, Nat.reduceLT, callee, aOp, ne_eq, Nat.reduceEqDiff, aBin, aUn, if_true, if_false, reduceCtorEq, frame0, place, notTuple, Nat.reduceAdd, Nat.reduceLeDiff, resVal, dite_true, dite_false, Int.reduceEq, Int.reduceLT, Int.reduceLE]
      have own4 := (k.own.mut m3 (fun a e => by have := (k.own.block e).1; omega)).mut m4 (fun a e => by have := (k.own.block e).1; omega)
      refine hQ _ p cap _ (metV_all hmet hu) (Own.le (own4.app _) (by omega)) ⟨by have := m3.len; have := m4.len; simp; omega, fun j hj _ => ?_⟩
      rw [hget_old (by have := m3.len; have := m4.len; omega), m4.other j (by omega), m3.other j (by omega)]
      exact k.old j hj
  simp only [n80, r80, SB, Nat.reduceLT, callee, aOp, ne_eq, Nat.reduceEqDiff, aBin, aUn, if_true, if_false, reduceCtorEq, frame0, place, notTuple, Nat.reduceAdd, Nat.reduceLeDiff, resVal, dite_true, dite_false, Int.reduceEq, Int.reduceLT, Int.reduceLE]
  exact key _ (by simp only [FB, Nat.reduceEqDiff])
end Go.Proofs.Ytkppjkkkdpcgiaa.Fn

namespace Go.Proofs.Ytkppjkkkdpcgiaa.Fn.SE
open Go.AM Go.AM.Sym Go.Sort
set_option maxRecDepth 100000
set_option linter.unusedVariables false
set_option linter.unusedSimpArgs false
set_option maxHeartbeats 4000000
theorem runs [OB] {g : FuncId} {af : AFunc} {lim : Nat} {as : List Value} {H H' : Heap} {v : Value} {Q : Value → Heap → Prop} (h : g≠11) (ht : tr g = some af) (hp : pf g = false) (hr : Ret E af lim [.code af.body] (frame0 as) H fun v' H1 => v' = v ∧ H1 = H') : CallR E false lim g as H Q = Q v H' := by
  refine CallR.eq ?_
  rw [CallR_run (E := E) (by simp [E, orc, h]) ht hp rfl]
  exact hr
def ltC {α : Type} (c : α → α → Int) (x y : α) : Bool := decide (c x y < 0)
theorem ins_ok [OB] {G X : Heap} {B lim cap n : Nat} {p : Option Addr} {c : Go.Scan.Ev → Go.Scan.Ev → Int} {cl : FuncId} {cs : List Value} {Q : Value → Heap → Prop} (hp : p = some ⟨B, 0, none⟩) (hB : B < G.length) (hl : lim ≤ B) (hn2 : n < 2 ^ 61) (hc : ∀ (mp : Bool) (lim : Nat) (x y : Go.Scan.Ev) (H : Heap) (Q : Value → Heap → Prop), CallR E mp lim cl (.agg (encE x).toArray :: .agg (encE y).toArray :: cs) H Q = Q (.int .i64 (c x y)) H) {d : Array Go.Scan.Ev} {a b : Nat} (hd : d.size = n) (hb : b ≤ n) (hab : a ≤ b) :
    CallR E false lim 69 [.slice p n cap, .int .i64 (a : Int), .int .i64 (b : Int), .func (.func cl) #[] cs.toArray] (DH encE G B d ++ X) Q = Q (.tuple #[]) (DH encE G B (insertionSort (ltC c) d a b) ++ X) := by
  refine runs (by decide) e69 rfl ?_
  rw [b69, c69]
  have hw0 : IntKind.i64.wrap ((a : Int) + 1) = ((a + 1 : Nat) : Int) := wrap_nat (by omega)
  simp only [n69, r69, hw0, SB, Nat.reduceLT, callee, aOp, ne_eq, Nat.reduceEqDiff, aBin, aUn, if_true, if_false, reduceCtorEq, frame0, place, notTuple, Nat.reduceAdd, Nat.reduceLeDiff, resVal, dite_true, dite_false, Int.reduceEq, Int.reduceLT, Int.reduceLE]
  refine Ret_rounds (S := Nat × Array Go.Scan.Ev) (fun s => b + 1 - s.1) (fun s fr H => a ≤ s.1 ∧ s.1 ≤ b + 1 ∧ fr 0 = .slice p n cap ∧ fr 1 = .int .i64 (a : Int) ∧ fr 2 = .int .i64 (b : Int) ∧ fr 3 = .func (.func cl) #[] cs.toArray ∧ fr 8 = .int .i64 (s.1 : Int) ∧
    H = DH encE G B s.2 ++ X ∧ s.2.size = n ∧ insertionSort (ltC c) d a b = insOuter (ltC c) a b s.1 s.2) (a + 1, d) ⟨by simp, by simp; omega, (by simp only [FB, Nat.reduceEqDiff]), (by simp only [FB, Nat.reduceEqDiff]), (by simp only [FB, Nat.reduceEqDiff]), (by simp only [FB, Nat.reduceEqDiff]), (by simp only [FB, Nat.reduceEqDiff]), rfl, hd, rfl⟩ ?_
  rintro ⟨i, d1⟩ fr H ⟨h1, h2, g0, g1, g2, g3, g8, rfl, hd1, he⟩ hN
  simp only at h1 h2 g8 hd1 he
  rw [Ret_code l69_2.eq_1]
  unfold insOuter at he
  by_cases hib : i < b
  · rw [if_pos hib] at he
    simp only [n69, r69, g0, g1, g2, g3, g8, hib, SB, Nat.reduceLT, callee, aOp, ne_eq, Nat.reduceEqDiff, aBin, aUn, if_true, if_false, reduceCtorEq, frame0, place, notTuple, Nat.reduceAdd, Nat.reduceLeDiff, resVal, dite_true, dite_false, Int.reduceEq, Int.reduceLT, Int.reduceLE]
    refine Ret_rounds (S := Nat × Array Go.Scan.Ev) (fun s => s.1) (fun s fr H => s.1 ≤ i ∧ fr 0 = .slice p n cap ∧ fr 1 = .int .i64 (a : Int) ∧ fr 2 = .int .i64 (b : Int) ∧ fr 3 = .func (.func cl) #[] cs.toArray ∧ fr 8 = .int .i64 (i : Int) ∧ fr 9 = .int .i64 (s.1 : Int) ∧
      H = DH encE G B s.2 ++ X ∧ s.2.size = n ∧ insInner (ltC c) a i d1 = insInner (ltC c) a s.1 s.2) (i, d1) ⟨Nat.le_refl _, (by simp only [g0, FB, Nat.reduceEqDiff]), (by simp only [g1, FB, Nat.reduceEqDiff]), (by simp only [g2, FB, Nat.reduceEqDiff]), (by simp only [g3, FB, Nat.reduceEqDiff]), (by simp only [g8, FB, Nat.reduceEqDiff]), (by simp only [FB, Nat.reduceEqDiff]), by simp, hd1, rfl⟩ ?_
    rintro ⟨j, d2⟩ fr2 H2 ⟨k1, q0, q1, q2, q3, q8, q9, rfl, hd2, hi⟩ hM
    simp only at k1 q9 hd2 hi
    rw [Ret_code l69_1.eq_1]
    have hwi : IntKind.i64.wrap ((i : Int) + 1) = ((i + 1 : Nat) : Int) := wrap_nat (by omega)
    by_cases haj : a < j
    · obtain ⟨j, rfl⟩ : ∃ j', j = j' + 1 := ⟨j - 1, by omega⟩
      have hwj : IntKind.i64.wrap (((j + 1 : Nat) : Int) - 1) = (j : Int) := wrap_pred (n := j + 1) (by omega) (by omega)
      have ld := fun (X : Heap) (d : Array Go.Scan.Ev) (hd : d.size = n) => DH_ld (X := X) (d := d) (i := j) hp hB encE_len (by omega)
      have ld1 := fun (X : Heap) (d : Array Go.Scan.Ev) (hd : d.size = n) => DH_ld (X := X) (d := d) (i := j + 1) hp hB encE_len (by omega)
      have st := fun (X : Heap) (d : Array Go.Scan.Ev) (hd : d.size = n) (y : Go.Scan.Ev) => DH_st (X := X) (d := d) (i := j) (y := y) hp hB hl encE_len (by omega)
      have st1 := fun (X : Heap) (d : Array Go.Scan.Ev) (hd : d.size = n) (y : Go.Scan.Ev) => DH_st (X := X) (d := d) (i := j + 1) (y := y) hp hB hl encE_len (by omega)
      have ix := fun c (k : IntKind) (H : Heap) => DH_idx (e := 7) (i := j) (n := n) (c := c) (k := k) (H := H) hp (by omega)
      have ix1 := fun c (k : IntKind) (H : Heap) => DH_idx (e := 7) (i := j + 1) (n := n) (c := c) (k := k) (H := H) hp (by omega)
      rw [insInner] at hi
      by_cases hlt : ltC c d2[j + 1]! d2[j]! = true
      · have hlt' : c d2[j + 1]! d2[j]! < 0 := by simpa [ltC] using hlt
        simp only [n69, r69, q0, q1, q2, q3, q8, q9, haj, hwj, ld, ld1, st, st1, ix, ix1, hd2, hc, hlt', Array.size_setIfInBounds, encE_len, SB, Nat.reduceLT, callee, aOp, ne_eq, Nat.reduceEqDiff, aBin, aUn, if_true, if_false, reduceCtorEq, frame0, place, notTuple, Nat.reduceAdd, Nat.reduceLeDiff, resVal, dite_true, dite_false, Int.reduceEq, Int.reduceLT, Int.reduceLE]
        refine hM (j, swp d2 (j + 1) j) _ _ ⟨by simp only; omega, (by simp only [q0, FB, Nat.reduceEqDiff]), (by simp only [q1, FB, Nat.reduceEqDiff]), (by simp only [q2, FB, Nat.reduceEqDiff]), (by simp only [q3, FB, Nat.reduceEqDiff]), (by simp only [q8, FB, Nat.reduceEqDiff]), (by simp only [FB, Nat.reduceEqDiff]), by simp [swp], by simp [swp, hd2], ?_⟩ (by simp only; omega)
        rw [hi]; simp [haj, hlt]
      · have hlt' : ¬ c d2[j + 1]! d2[j]! < 0 := by simpa [ltC] using hlt
        simp only [n69, r69, q0, q1, q2, q3, q8, q9, haj, hwj, ld, ld1, st, st1, ix, ix1, hd2, hc, hlt', hwi, SB, Nat.reduceLT, callee, aOp, ne_eq, Nat.reduceEqDiff, aBin, aUn, if_true, if_false, reduceCtorEq, frame0, place, notTuple, Nat.reduceAdd, Nat.reduceLeDiff, resVal, dite_true, dite_false, Int.reduceEq, Int.reduceLT, Int.reduceLE]
        refine hN (i + 1, d2) _ _ ⟨by simp only; omega, by simp only; omega, (by simp only [q0, FB, Nat.reduceEqDiff]), (by simp only [q1, FB, Nat.reduceEqDiff]), (by simp only [q2, FB, Nat.reduceEqDiff]), (by simp only [q3, FB, Nat.reduceEqDiff]), (by simp only [FB, Nat.reduceEqDiff]), by simp, hd2, ?_⟩ (by simp only; omega)
        rw [he, hi]; simp [haj, hlt]
    · have haj' : ¬ (a : Int) < (j : Int) := by omega
      simp only [n69, r69, q0, q1, q2, q3, q8, q9, haj, hwi, SB, Nat.reduceLT, callee, aOp, ne_eq, Nat.reduceEqDiff, aBin, aUn, if_true, if_false, reduceCtorEq, frame0, place, notTuple, Nat.reduceAdd, Nat.reduceLeDiff, resVal, dite_true, dite_false, Int.reduceEq, Int.reduceLT, Int.reduceLE]
      refine hN (i + 1, d2) _ _ ⟨by simp only; omega, by simp only; omega, (by simp only [q0, FB, Nat.reduceEqDiff]), (by simp only [q1, FB, Nat.reduceEqDiff]), (by simp only [q2, FB, Nat.reduceEqDiff]), (by simp only [q3, FB, Nat.reduceEqDiff]), (by simp only [FB, Nat.reduceEqDiff]), by simp, hd2, ?_⟩ (by simp only; omega)
      rw [he, hi]
      cases j with
      | zero => rfl
      | succ j => rw [insInner]; simp [show ¬ j + 1 > a by omega]
  · rw [if_neg hib] at he
    simp only [n69, r69, g0, g1, g2, g3, g8, hib, he, SB, Nat.reduceLT, callee, aOp, ne_eq, Nat.reduceEqDiff, aBin, aUn, if_true, if_false, reduceCtorEq, frame0, place, notTuple, Nat.reduceAdd, Nat.reduceLeDiff, resVal, dite_true, dite_false, Int.reduceEq, Int.reduceLT, Int.reduceLE]
theorem rev_ok [OB] {G X : Heap} {B lim cap n : Nat} {p : Option Addr} {c : Go.Scan.Ev → Go.Scan.Ev → Int} {cl : FuncId} {cs : List Value} {Q : Value → Heap → Prop} (hp : p = some ⟨B, 0, none⟩) (hB : B < G.length) (hl : lim ≤ B) (hn2 : n < 2 ^ 61) (hc : ∀ (mp : Bool) (lim : Nat) (x y : Go.Scan.Ev) (H : Heap) (Q : Value → Heap → Prop), CallR E mp lim cl (.agg (encE x).toArray :: .agg (encE y).toArray :: cs) H Q = Q (.int .i64 (c x y)) H) {d : Array Go.Scan.Ev} {a b : Nat} (hd : d.size = n) (hb : b ≤ n) (hab : a < b) :
    CallR E false lim 73 [.slice p n cap, .int .i64 (a : Int), .int .i64 (b : Int), .func (.func cl) #[] cs.toArray] (DH encE G B d ++ X) Q = Q (.tuple #[]) (DH encE G B (reverseRange d a b) ++ X) := by
  refine runs (by decide) e73 rfl ?_
  rw [b73, c73]
  have hw0 : IntKind.i64.wrap ((b : Int) - 1) = ((b - 1 : Nat) : Int) := wrap_pred (by omega) (by omega)
  simp only [n73, r73, hw0, SB, Nat.reduceLT, callee, aOp, ne_eq, Nat.reduceEqDiff, aBin, aUn, if_true, if_false, reduceCtorEq, frame0, place, notTuple, Nat.reduceAdd, Nat.reduceLeDiff, resVal, dite_true, dite_false, Int.reduceEq, Int.reduceLT, Int.reduceLE]
  have ld := fun (i : Nat) (X : Heap) (d : Array Go.Scan.Ev) (hd : d.size = n) (hi : i < n) => DH_ld (X := X) (d := d) (i := i) hp hB encE_len (by omega); have st := fun (i : Nat) (X : Heap) (d : Array Go.Scan.Ev) (hd : d.size = n) (hi : i < n) (y : Go.Scan.Ev) => DH_st (X := X) (d := d) (i := i) (y := y) hp hB hl encE_len (by omega); have ix := fun (i : Nat) (hi : i < n) c (k : IntKind) (H : Heap) => DH_idx (e := 7) (i := i) (n := n) (c := c) (k := k) (H := H) hp hi
  refine Ret_rounds (S := (Nat × Nat) × Array Go.Scan.Ev) (fun s => s.1.2 + 1 - s.1.1) (fun s fr H => s.1.1 ≤ b ∧ s.1.2 < b ∧ fr 0 = .slice p n cap ∧ fr 8 = .int .i64 (s.1.1 : Int) ∧ fr 9 = .int .i64 (s.1.2 : Int) ∧
    H = DH encE G B s.2 ++ X ∧ s.2.size = n ∧ reverseRange d a b = reverseLoop s.1.1 s.1.2 s.2) ((a, b - 1), d) ⟨by simp; omega, by simp; omega, (by simp only [FB, Nat.reduceEqDiff]), (by simp only [FB, Nat.reduceEqDiff]), (by simp only [FB, Nat.reduceEqDiff]), rfl, hd, rfl⟩ ?_
  rintro ⟨⟨i, j⟩, d1⟩ fr H ⟨h1, h2, g0, g8, g9, rfl, hd1, he⟩ hN
  simp only at h1 h2 g8 g9 hd1 he
  rw [Ret_code l73_1.eq_1]
  unfold reverseLoop at he
  by_cases hij : i < j
  · rw [if_pos hij] at he
    have hw1 : IntKind.i64.wrap ((i : Int) + 1) = ((i + 1 : Nat) : Int) := wrap_nat (by omega)
    have hw2 : IntKind.i64.wrap ((j : Int) - 1) = ((j - 1 : Nat) : Int) := wrap_pred (by omega) (by omega)
    have hi : i < n := by omega
    have hj : j < n := by omega
    simp only [n73, r73, g0, g8, g9, hij, hw1, hw2, ld, st, ix, List.append_nil, Array.size_setIfInBounds, encE_len, hd1, hi, hj, SB, Nat.reduceLT, callee, aOp, ne_eq, Nat.reduceEqDiff, aBin, aUn, if_true, if_false, reduceCtorEq, frame0, place, notTuple, Nat.reduceAdd, Nat.reduceLeDiff, resVal, dite_true, dite_false, Int.reduceEq, Int.reduceLT, Int.reduceLE]
    refine hN ((i + 1, j - 1), swp d1 i j) _ _ ⟨by simp only; omega, by simp only; omega, (by simp only [g0, FB, Nat.reduceEqDiff]), (by simp only [FB, Nat.reduceEqDiff]), (by simp only [FB, Nat.reduceEqDiff]), by simp [swp], by simp [swp, hd1], he⟩ (by simp only; omega)
  · rw [if_neg hij] at he
    simp only [n73, r73, g0, g8, g9, hij, he, SB, Nat.reduceLT, callee, aOp, ne_eq, Nat.reduceEqDiff, aBin, aUn, if_true, if_false, reduceCtorEq, frame0, place, notTuple, Nat.reduceAdd, Nat.reduceLeDiff, resVal, dite_true, dite_false, Int.reduceEq, Int.reduceLT, Int.reduceLE]
theorem sift_ok [OB] {G X : Heap} {B lim cap n : Nat} {p : Option Addr} {c : Go.Scan.Ev → Go.Scan.Ev → Int} {cl : FuncId} {cs : List Value} {Q : Value → Heap → Prop} (hp : p = some ⟨B, 0, none⟩) (hB : B < G.length) (hl : lim ≤ B) (hn2 : n < 2 ^ 61) (hc : ∀ (mp : Bool) (lim : Nat) (x y : Go.Scan.Ev) (H : Heap) (Q : Value → Heap → Prop), CallR E mp lim cl (.agg (encE x).toArray :: .agg (encE y).toArray :: cs) H Q = Q (.int .i64 (c x y)) H) {d : Array Go.Scan.Ev} {lo hi first : Nat} (hd : d.size = n) (hb : first + hi ≤ n) (hlo : lo ≤ hi) :
    CallR E false lim 82 [.slice p n cap, .int .i64 (lo : Int), .int .i64 (hi : Int), .int .i64 (first : Int), .func (.func cl) #[] cs.toArray] (DH encE G B d ++ X) Q = Q (.tuple #[]) (DH encE G B (siftDown (ltC c) hi first lo d) ++ X) := by
  refine runs (by decide) e82 rfl ?_
  rw [b82, c82]
  generalize hT : siftDown (ltC c) hi first lo d = T
  simp only [n82, r82, SB, Nat.reduceLT, callee, aOp, ne_eq, Nat.reduceEqDiff, aBin, aUn, if_true, if_false, reduceCtorEq, frame0, place, notTuple, Nat.reduceAdd, Nat.reduceLeDiff, resVal, dite_true, dite_false, Int.reduceEq, Int.reduceLT, Int.reduceLE]
  have ld := fun (i : Nat) (X : Heap) (d : Array Go.Scan.Ev) (hd : d.size = n) (hi : i < n) => DH_ld (X := X) (d := d) (i := i) hp hB encE_len (by omega); have st := fun (i : Nat) (X : Heap) (d : Array Go.Scan.Ev) (hd : d.size = n) (hi : i < n) (y : Go.Scan.Ev) => DH_st (X := X) (d := d) (i := i) (y := y) hp hB hl encE_len (by omega); have ix := fun (i : Nat) (hi : i < n) c (k : IntKind) (H : Heap) => DH_idx (e := 7) (i := i) (n := n) (c := c) (k := k) (H := H) hp hi
  refine Ret_rounds (S := Nat × Array Go.Scan.Ev) (fun s => hi - s.1) (fun s fr H => s.1 ≤ hi ∧ fr 0 = .slice p n cap ∧ fr 2 = .int .i64 (hi : Int) ∧ fr 3 = .int .i64 (first : Int) ∧ fr 4 = .func (.func cl) #[] cs.toArray ∧ fr 10 = .int .i64 (s.1 : Int) ∧
    H = DH encE G B s.2 ++ X ∧ s.2.size = n ∧ T = siftDown (ltC c) hi first s.1 s.2) (lo, d) ⟨hlo, (by simp only [FB, Nat.reduceEqDiff]), (by simp only [FB, Nat.reduceEqDiff]), (by simp only [FB, Nat.reduceEqDiff]), (by simp only [FB, Nat.reduceEqDiff]), (by simp only [FB, Nat.reduceEqDiff]), rfl, hd, hT.symm⟩ ?_
  rintro ⟨r, d1⟩ fr H ⟨h1, g0, g2, g3, g4, g10, rfl, hd1, he⟩ hN
  simp only at h1 g10 hd1 he
  rw [Ret_code l82_1.eq_1]
  unfold siftDown at he
  have hw1 : IntKind.i64.wrap (2 * (r : Int)) = ((2 * r : Nat) : Int) := by rw [wrap_id (by omega) (by omega)]; omega
  have hw2 : IntKind.i64.wrap (((2 * r : Nat) : Int) + 1) = ((2 * r + 1 : Nat) : Int) := wrap_nat (by omega)
  have hw3 : IntKind.i64.wrap (((2 * r + 1 : Nat) : Int) + 1) = ((2 * r + 2 : Nat) : Int) := wrap_nat (by omega)
  have hw4 : IntKind.i64.wrap ((first : Int) + ((2 * r + 1 : Nat) : Int)) = ((first + (2 * r + 1) : Nat) : Int) := by rw [wrap_id (by omega) (by omega)]; omega
  have hw5 : IntKind.i64.wrap (((first + (2 * r + 1) : Nat) : Int) + 1) = ((first + (2 * r + 2) : Nat) : Int) := wrap_nat (by omega)
  have hw6 : IntKind.i64.wrap ((first : Int) + ((2 * r + 2 : Nat) : Int)) = ((first + (2 * r + 2) : Nat) : Int) := by rw [wrap_id (by omega) (by omega)]; omega
  have hw7 : IntKind.i64.wrap ((first : Int) + (r : Int)) = ((first + r : Nat) : Int) := by rw [wrap_id (by omega) (by omega)]; omega
  by_cases c1 : 2 * r + 1 ≥ hi
  · rw [dif_pos c1] at he
    have c1' : hi ≤ 2 * r + 1 := c1
    simp only [n82, r82, g0, g2, g3, g4, g10, hw1, hw2, c1', he, SB, Nat.reduceLT, callee, aOp, ne_eq, Nat.reduceEqDiff, aBin, aUn, if_true, if_false, reduceCtorEq, frame0, place, notTuple, Nat.reduceAdd, Nat.reduceLeDiff, resVal, dite_true, dite_false, Int.reduceEq, Int.reduceLT, Int.reduceLE]
  · rw [dif_neg c1] at he
    have c1' : ¬ hi ≤ 2 * r + 1 := c1
    have i1 : first + (2 * r + 1) < n := by omega
    have i2 : first + r < n := by omega
    by_cases c2 : 2 * r + 1 + 1 < hi ∧ c d1[first + (2 * r + 1)]! d1[first + (2 * r + 2)]! < 0
    · obtain ⟨c2, c3⟩ := c2
      have i3 : first + (2 * r + 2) < n := by omega
      have c2' : 2 * r + 2 < hi := by omega
      rw [if_pos (by simp only [Bool.and_eq_true, decide_eq_true_eq, ltC]; exact ⟨c2, by rw [show first + (2 * r + 1) + 1 = first + (2 * r + 2) by omega]; exact c3⟩)] at he
      by_cases c4 : c d1[first + r]! d1[first + (2 * r + 2)]! < 0
      · rw [if_neg (by simp [ltC, c4]), dif_pos c2'] at he
        simp only [n82, r82, g0, g2, g3, g4, g10, hw1, hw2, hw3, hw4, hw5, hw6, hw7, c1', c2', c3, c4, ld, st, ix, List.append_nil, Array.size_setIfInBounds, encE_len, hd1, i1, i2, i3, hc, SB, Nat.reduceLT, callee, aOp, ne_eq, Nat.reduceEqDiff, aBin, aUn, if_true, if_false, reduceCtorEq, frame0, place, notTuple, Nat.reduceAdd, Nat.reduceLeDiff, resVal, dite_true, dite_false, Int.reduceEq, Int.reduceLT, Int.reduceLE]
        refine hN (2 * r + 2, swp d1 (first + r) (first + (2 * r + 2))) _ _ ⟨by simp only; omega, (by simp only [g0, FB, Nat.reduceEqDiff]), (by simp only [g2, FB, Nat.reduceEqDiff]), (by simp only [g3, FB, Nat.reduceEqDiff]), (by simp only [g4, FB, Nat.reduceEqDiff]), (by simp only [FB, Nat.reduceEqDiff]), by simp [swp], by simp [swp, hd1], he⟩ (by simp only; omega)
      · rw [if_pos (by simp [ltC, c4])] at he
        simp only [n82, r82, g0, g2, g3, g4, g10, hw1, hw2, hw3, hw4, hw5, hw6, hw7, c1', c2', c3, c4, ld, st, ix, List.append_nil, Array.size_setIfInBounds, encE_len, hd1, i1, i2, i3, hc, he, SB, Nat.reduceLT, callee, aOp, ne_eq, Nat.reduceEqDiff, aBin, aUn, if_true, if_false, reduceCtorEq, frame0, place, notTuple, Nat.reduceAdd, Nat.reduceLeDiff, resVal, dite_true, dite_false, Int.reduceEq, Int.reduceLT, Int.reduceLE]
    · rw [if_neg (by simp only [Bool.and_eq_true, decide_eq_true_eq, ltC]; rw [show first + (2 * r + 1) + 1 = first + (2 * r + 2) by omega]; exact c2)] at he
      by_cases c4 : c d1[first + r]! d1[first + (2 * r + 1)]! < 0
      · rw [if_neg (by simp [ltC, c4])] at he
        by_cases c5 : 2 * r + 2 < hi
        · have c3 : ¬ c d1[first + (2 * r + 1)]! d1[first + (2 * r + 2)]! < 0 := fun h => c2 ⟨by omega, h⟩
          have i3 : first + (2 * r + 2) < n := by omega
          simp only [n82, r82, g0, g2, g3, g4, g10, hw1, hw2, hw3, hw4, hw5, hw6, hw7, c1', c5, c3, c4, ld, st, ix, List.append_nil, Array.size_setIfInBounds, encE_len, hd1, i1, i2, i3, hc, SB, Nat.reduceLT, callee, aOp, ne_eq, Nat.reduceEqDiff, aBin, aUn, if_true, if_false, reduceCtorEq, frame0, place, notTuple, Nat.reduceAdd, Nat.reduceLeDiff, resVal, dite_true, dite_false, Int.reduceEq, Int.reduceLT, Int.reduceLE]
          refine hN (2 * r + 1, swp d1 (first + r) (first + (2 * r + 1))) _ _ ⟨by simp only; omega, (by simp only [g0, FB, Nat.reduceEqDiff]), (by simp only [g2, FB, Nat.reduceEqDiff]), (by simp only [g3, FB, Nat.reduceEqDiff]), (by simp only [g4, FB, Nat.reduceEqDiff]), (by simp only [FB, Nat.reduceEqDiff]), by simp [swp], by simp [swp, hd1], he⟩ (by simp only; omega)
        · simp only [n82, r82, g0, g2, g3, g4, g10, hw1, hw2, hw3, hw4, hw5, hw6, hw7, c1', c5, c4, ld, st, ix, List.append_nil, Array.size_setIfInBounds, encE_len, hd1, i1, i2, hc, SB, Nat.reduceLT, callee, aOp, ne_eq, Nat.reduceEqDiff, aBin, aUn, if_true, if_false, reduceCtorEq, frame0, place, notTuple, Nat.reduceAdd, Nat.reduceLeDiff, resVal, dite_true, dite_false, Int.reduceEq, Int.reduceLT, Int.reduceLE]
          refine hN (2 * r + 1, swp d1 (first + r) (first + (2 * r + 1))) _ _ ⟨by simp only; omega, (by simp only [g0, FB, Nat.reduceEqDiff]), (by simp only [g2, FB, Nat.reduceEqDiff]), (by simp only [g3, FB, Nat.reduceEqDiff]), (by simp only [g4, FB, Nat.reduceEqDiff]), (by simp only [FB, Nat.reduceEqDiff]), by simp [swp], by simp [swp, hd1], he⟩ (by simp only; omega)
      · rw [if_pos (by simp [ltC, c4])] at he
        by_cases c5 : 2 * r + 2 < hi
        · have c3 : ¬ c d1[first + (2 * r + 1)]! d1[first + (2 * r + 2)]! < 0 := fun h => c2 ⟨by omega, h⟩
          have i3 : first + (2 * r + 2) < n := by omega
          simp only [n82, r82, g0, g2, g3, g4, g10, hw1, hw2, hw3, hw4, hw5, hw6, hw7, c1', c5, c3, c4, ld, st, ix, List.append_nil, Array.size_setIfInBounds, encE_len, hd1, i1, i2, i3, hc, he, SB, Nat.reduceLT, callee, aOp, ne_eq, Nat.reduceEqDiff, aBin, aUn, if_true, if_false, reduceCtorEq, frame0, place, notTuple, Nat.reduceAdd, Nat.reduceLeDiff, resVal, dite_true, dite_false, Int.reduceEq, Int.reduceLT, Int.reduceLE]
        · simp only [n82, r82, g0, g2, g3, g4, g10, hw1, hw2, hw3, hw4, hw5, hw6, hw7, c1', c5, c4, ld, st, ix, List.append_nil, Array.size_setIfInBounds, encE_len, hd1, i1, i2, hc, he, SB, Nat.reduceLT, callee, aOp, ne_eq, Nat.reduceEqDiff, aBin, aUn, if_true, if_false, reduceCtorEq, frame0, place, notTuple, Nat.reduceAdd, Nat.reduceLeDiff, resVal, dite_true, dite_false, Int.reduceEq, Int.reduceLT, Int.reduceLE]
theorem swp_sz {α : Type} [Inhabited α] {d : Array α} {i j : Nat} : (swp d i j).size = d.size := by simp [swp]
theorem siftDown_sz {α : Type} [Inhabited α] {lt : α → α → Bool} {hi first : Nat} : ∀ (m r : Nat) (d : Array α), hi - r ≤ m → (siftDown lt hi first r d).size = d.size
  | 0, r, d, h => by
    rw [siftDown, dif_pos (by omega)]
  | m + 1, r, d, h => by
    rw [siftDown]
    split
    · rfl
    · split
      · split
        · rfl
        · split
          · rw [siftDown_sz m _ _ (by omega), swp_sz]
          · rfl
      · split
        · rfl
        · rw [siftDown_sz m _ _ (by omega), swp_sz]
theorem heap_ok [OB] {G X : Heap} {B lim cap n : Nat} {p : Option Addr} {c : Go.Scan.Ev → Go.Scan.Ev → Int} {cl : FuncId} {cs : List Value} {Q : Value → Heap → Prop} (hp : p = some ⟨B, 0, none⟩) (hB : B < G.length) (hl : lim ≤ B) (hn2 : n < 2 ^ 61) (hc : ∀ (mp : Bool) (lim : Nat) (x y : Go.Scan.Ev) (H : Heap) (Q : Value → Heap → Prop), CallR E mp lim cl (.agg (encE x).toArray :: .agg (encE y).toArray :: cs) H Q = Q (.int .i64 (c x y)) H) {d : Array Go.Scan.Ev} {a b : Nat} (hd : d.size = n) (hb : b ≤ n) (hab : a ≤ b) :
    CallR E false lim 70 [.slice p n cap, .int .i64 (a : Int), .int .i64 (b : Int), .func (.func cl) #[] cs.toArray] (DH encE G B d ++ X) Q = Q (.tuple #[]) (DH encE G B (heapSort (ltC c) d a b) ++ X) := by
  refine runs (by decide) e70 rfl ?_
  rw [b70, c70]
  obtain ⟨h, rfl⟩ : ∃ h, b = a + h := ⟨b - a, by omega⟩
  have hw0 : IntKind.i64.wrap (((a + h : Nat) : Int) - (a : Int)) = (h : Int) := by rw [wrap_id (by omega) (by omega)]; omega
  have hw1 : IntKind.i64.wrap ((h : Int) - 1) = (h : Int) - 1 := wrap_id (by omega) (by omega)
  have hw2 : IntKind.i64.wrap (((h : Int) - 1).tdiv 2) = (((h - 1) / 2 + 1 : Nat) : Int) - 1 := by
    rcases Nat.eq_zero_or_pos h with rfl | h0
    · decide
    · rw [Int.tdiv_eq_ediv_of_nonneg (by omega), wrap_id (by omega) (by omega)]; omega
  generalize hT : heapSort (ltC c) d a (a + h) = T
  rw [heapSort, show a + h - a = h by omega] at hT
  have ld := fun (i : Nat) (X : Heap) (d : Array Go.Scan.Ev) (hd : d.size = n) (hi : i < n) => DH_ld (X := X) (d := d) (i := i) hp hB encE_len (by omega); have st := fun (i : Nat) (X : Heap) (d : Array Go.Scan.Ev) (hd : d.size = n) (hi : i < n) (y : Go.Scan.Ev) => DH_st (X := X) (d := d) (i := i) (y := y) hp hB hl encE_len (by omega); have ix := fun (i : Nat) (hi : i < n) c (k : IntKind) (H : Heap) => DH_idx (e := 7) (i := i) (n := n) (c := c) (k := k) (H := H) hp hi
  have hsift := fun (X : Heap) (d : Array Go.Scan.Ev) (lo hi : Nat) (hd : d.size = n) (hh : hi ≤ h) (hlo : lo ≤ hi) Q => sift_ok (X := X) (d := d) (lo := lo) (hi := hi) (first := a) (cap := cap) (Q := Q) hp hB hl hn2 hc hd (by omega) hlo
  simp only [n70, r70, hw0, hw1, hw2, SB, Nat.reduceLT, callee, aOp, ne_eq, Nat.reduceEqDiff, aBin, aUn, if_true, if_false, reduceCtorEq, frame0, place, notTuple, Nat.reduceAdd, Nat.reduceLeDiff, resVal, dite_true, dite_false, Int.reduceEq, Int.reduceLT, Int.reduceLE]
  refine Ret_rounds (S := Nat × Array Go.Scan.Ev) (fun s => s.1) (fun s fr H => s.1 ≤ h + 1 ∧ (h = 0 → s.1 ≤ 1) ∧ (0 < h → s.1 ≤ h) ∧ fr 0 = .slice p n cap ∧ fr 3 = .func (.func cl) #[] cs.toArray ∧ fr 8 = .int .i64 (a : Int) ∧ fr 9 = .int .i64 0 ∧ fr 10 = .int .i64 (h : Int) ∧ fr 11 = .int .i64 ((s.1 : Int) - 1) ∧
    H = DH encE G B s.2 ++ X ∧ s.2.size = n ∧ T = heapPop (ltC c) a h (heapBuild (ltC c) h a s.1 s.2)) ((h - 1) / 2 + 1, d) ⟨by simp only; omega, by simp only; omega, by simp only; omega, (by simp only [FB, Nat.reduceEqDiff]), (by simp only [FB, Nat.reduceEqDiff]), (by simp only [FB, Nat.reduceEqDiff]), (by simp only [FB, Nat.reduceEqDiff]), (by simp only [FB, Nat.reduceEqDiff]), (by simp only [FB, Nat.reduceEqDiff]), rfl, hd, hT.symm⟩ ?_
  rintro ⟨k, d1⟩ fr H ⟨h1, h2, h3, g0, g3, g8, g9, g10, g11, rfl, hd1, he⟩ hN
  simp only at h1 h2 h3 g11 hd1 he
  rw [Ret_code l70_2.eq_1]
  cases k with
  | succ k =>
    have hk : ((k + 1 : Nat) : Int) - 1 = (k : Int) := by omega
    rw [hk] at g11
    have hw3 : IntKind.i64.wrap ((k : Int) - 1) = (k : Int) - 1 := wrap_id (by omega) (by omega)
    have hk1 : k ≤ h := by omega
    have hk0 : (0 : Int) ≤ (k : Int) := by omega
    simp only [n70, r70, g0, g3, g8, g9, g10, g11, hk0, hw3, hsift, hd1, hk1, SB, Nat.reduceLT, callee, aOp, ne_eq, Nat.reduceEqDiff, aBin, aUn, if_true, if_false, reduceCtorEq, frame0, place, notTuple, Nat.reduceAdd, Nat.reduceLeDiff, resVal, dite_true, dite_false, Int.reduceEq, Int.reduceLT, Int.reduceLE]
    refine hN (k, siftDown (ltC c) h a k d1) _ _ ⟨by simp only; omega, by simp only; omega, by simp only; omega, (by simp only [g0, FB, Nat.reduceEqDiff]), (by simp only [g3, FB, Nat.reduceEqDiff]), (by simp only [g8, FB, Nat.reduceEqDiff]), (by simp only [g9, FB, Nat.reduceEqDiff]), (by simp only [g10, FB, Nat.reduceEqDiff]), (by simp only [FB, Nat.reduceEqDiff]), by simp, by simp only; rw [siftDown_sz _ _ _ (Nat.le_refl _), hd1], he⟩ (by simp only; omega)
  | zero =>
    clear hN
    rw [heapBuild] at he
    simp only [n70, r70, g0, g3, g8, g9, g10, g11, hw1, Int.cast_ofNat_Int, Int.ofNat_eq_natCast, Int.reduceSub, Int.zero_sub, Int.reduceNeg, SB, Nat.reduceLT, callee, aOp, ne_eq, Nat.reduceEqDiff, aBin, aUn, if_true, if_false, reduceCtorEq, frame0, place, notTuple, Nat.reduceAdd, Nat.reduceLeDiff, resVal, dite_true, dite_false, Int.reduceEq, Int.reduceLT, Int.reduceLE]
    refine Ret_rounds (S := Nat × Array Go.Scan.Ev) (fun s => s.1) (fun s fr H => s.1 ≤ h ∧ fr 0 = .slice p n cap ∧ fr 3 = .func (.func cl) #[] cs.toArray ∧ fr 8 = .int .i64 (a : Int) ∧ fr 9 = .int .i64 0 ∧ fr 12 = .int .i64 ((s.1 : Int) - 1) ∧
      H = DH encE G B s.2 ++ X ∧ s.2.size = n ∧ T = heapPop (ltC c) a s.1 s.2) (h, d1) ⟨Nat.le_refl _, (by simp only [g0, FB, Nat.reduceEqDiff]), (by simp only [g3, FB, Nat.reduceEqDiff]), (by simp only [g8, FB, Nat.reduceEqDiff]), (by simp only [g9, FB, Nat.reduceEqDiff]), (by simp only [FB, Nat.reduceEqDiff]), by simp, hd1, he⟩ ?_
    rintro ⟨k, d2⟩ fr2 H2 ⟨k1, q0, q3, q8, q9, q12, rfl, hd2, hf⟩ hM
    simp only at k1 q12 hd2 hf
    rw [Ret_code l70_1.eq_1]
    cases k with
    | succ k =>
      have hk : ((k + 1 : Nat) : Int) - 1 = (k : Int) := by omega
      rw [hk] at q12
      have hw3 : IntKind.i64.wrap ((k : Int) - 1) = (k : Int) - 1 := wrap_id (by omega) (by omega)
      have hw4 : IntKind.i64.wrap ((a : Int) + (k : Int)) = ((a + k : Nat) : Int) := by rw [wrap_id (by omega) (by omega)]; omega
      have i1 : a < n := by omega
      have i2 : a + k < n := by omega
      have hk1 : k ≤ h := by omega
      have hk0 : (0 : Int) ≤ (k : Int) := by omega
      have hsift0 := fun (X : Heap) (d : Array Go.Scan.Ev) (hi : Nat) (hd : d.size = n) (hh : hi ≤ h) Q => hsift X d 0 hi hd hh (Nat.zero_le _) Q
      simp only [show ((0 : Nat) : Int) = 0 from rfl] at hsift0
      simp only [n70, r70, q0, q3, q8, q9, q12, hk0, hw3, hw4, hsift0, hd2, hk1, ld, st, ix, List.append_nil, Array.size_setIfInBounds, encE_len, i1, i2, SB, Nat.reduceLT, callee, aOp, ne_eq, Nat.reduceEqDiff, aBin, aUn, if_true, if_false, reduceCtorEq, frame0, place, notTuple, Nat.reduceAdd, Nat.reduceLeDiff, resVal, dite_true, dite_false, Int.reduceEq, Int.reduceLT, Int.reduceLE]
      refine hM (k, siftDown (ltC c) k a 0 (swp d2 a (a + k))) _ _ ⟨by simp only; omega, (by simp only [q0, FB, Nat.reduceEqDiff]), (by simp only [q3, FB, Nat.reduceEqDiff]), (by simp only [q8, FB, Nat.reduceEqDiff]), (by simp only [q9, FB, Nat.reduceEqDiff]), (by simp only [FB, Nat.reduceEqDiff]), by simp [swp], by simp only; rw [siftDown_sz _ _ _ (Nat.le_refl _), swp_sz, hd2], hf⟩ (by simp only; omega)
    | zero =>
      rw [heapPop] at hf
      simp only [n70, r70, q0, q3, q8, q9, q12, hf, Int.reduceSub, Int.zero_sub, Int.reduceNeg, SB, Nat.reduceLT, callee, aOp, ne_eq, Nat.reduceEqDiff, aBin, aUn, if_true, if_false, reduceCtorEq, frame0, place, notTuple, Nat.reduceAdd, Nat.reduceLeDiff, resVal, dite_true, dite_false, Int.reduceEq, Int.reduceLT, Int.reduceLE]
theorem scanUp_step {α : Type} [Inhabited α] {p : α → Bool} {d : Array α} {j i : Nat} (h : i ≤ j) (hp : p d[i]! = true) : scanUp p d j i = scanUp p d j (i + 1) := by
  rw [scanUp]; simp [h, hp]
theorem scanUp_stop {α : Type} [Inhabited α] {p : α → Bool} {d : Array α} {j i : Nat} (h : i ≤ j → p d[i]! = false) : scanUp p d j i = i := by
  rw [scanUp]
  by_cases q : i ≤ j
  · simp [h q]
  · simp [q]
theorem scanDown_step {α : Type} [Inhabited α] {p : α → Bool} {d : Array α} {j i : Nat} (h : i ≤ j) (h0 : 0 < j) (hp : p d[j]! = true) : scanDown p d i j = scanDown p d i (j - 1) := by
  obtain ⟨j, rfl⟩ : ∃ j', j = j' + 1 := ⟨j - 1, by omega⟩
  rw [scanDown]; simp [h, hp]
theorem scanDown_stop {α : Type} [Inhabited α] {p : α → Bool} {d : Array α} {j i : Nat} (h : i ≤ j → p d[j]! = false) : scanDown p d i j = j := by
  cases j with
  | zero => rfl
  | succ j =>
    rw [scanDown]
    by_cases q : i ≤ j + 1
    · simp [h q]
    · simp [q]
theorem partEq_stop {α : Type} [Inhabited α] {lt : α → α → Bool} {a i j i2 j2 : Nat} {d : Array α} (h1 : scanUp (fun x => !lt d[a]! x) d j i = i2) (h2 : scanDown (fun x => lt d[a]! x) d i2 j = j2) (h : i2 > j2) : partEqLoop lt a i j d = (i2, d) := by
  rw [partEqLoop]; simp only [h1, h2]; rw [if_pos h]
theorem partEq_next {α : Type} [Inhabited α] {lt : α → α → Bool} {a i j i2 j2 : Nat} {d : Array α} (h1 : scanUp (fun x => !lt d[a]! x) d j i = i2) (h2 : scanDown (fun x => lt d[a]! x) d i2 j = j2) (h : ¬ i2 > j2) (g1 : i ≤ i2) (g2 : j2 ≤ j) (g3 : 0 < i2) : partEqLoop lt a i j d = partEqLoop lt a (i2 + 1) (j2 - 1) (swp d i2 j2) := by
  rw [partEqLoop]; simp only [h1, h2]; rw [if_neg h, dif_pos (by omega)]
theorem peq_ok [OB] {G X : Heap} {B lim cap n : Nat} {p : Option Addr} {c : Go.Scan.Ev → Go.Scan.Ev → Int} {cl : FuncId} {cs : List Value} {Q : Value → Heap → Prop} (hp : p = some ⟨B, 0, none⟩) (hB : B < G.length) (hl : lim ≤ B) (hn2 : n < 2 ^ 61) (hc : ∀ (mp : Bool) (lim : Nat) (x y : Go.Scan.Ev) (H : Heap) (Q : Value → Heap → Prop), CallR E mp lim cl (.agg (encE x).toArray :: .agg (encE y).toArray :: cs) H Q = Q (.int .i64 (c x y)) H) {d : Array Go.Scan.Ev} {a b v : Nat} (hd : d.size = n) (hb : b ≤ n) (hab : a ≤ v) (hvb : v < b) :
    CallR E false lim 75 [.slice p n cap, .int .i64 (a : Int), .int .i64 (b : Int), .int .i64 (v : Int), .func (.func cl) #[] cs.toArray] (DH encE G B d ++ X) Q = Q (.int .i64 ((partitionEqual (ltC c) d a b v).1 : Nat)) (DH encE G B (partitionEqual (ltC c) d a b v).2 ++ X) := by
  refine runs (by decide) e75 rfl ?_
  rw [b75, c75]
  have hw0 : IntKind.i64.wrap ((b : Int) - 1) = ((b - 1 : Nat) : Int) := wrap_pred (by omega) (by omega)
  have hw1 : IntKind.i64.wrap ((a : Int) + 1) = ((a + 1 : Nat) : Int) := wrap_nat (by omega)
  generalize hT : partitionEqual (ltC c) d a b v = T
  rw [partitionEqual] at hT
  have ld := fun (i : Nat) (X : Heap) (d : Array Go.Scan.Ev) (hd : d.size = n) (hi : i < n) => DH_ld (X := X) (d := d) (i := i) hp hB encE_len (by omega); have st := fun (i : Nat) (X : Heap) (d : Array Go.Scan.Ev) (hd : d.size = n) (hi : i < n) (y : Go.Scan.Ev) => DH_st (X := X) (d := d) (i := i) (y := y) hp hB hl encE_len (by omega); have ix := fun (i : Nat) (hi : i < n) c (k : IntKind) (H : Heap) => DH_idx (e := 7) (i := i) (n := n) (c := c) (k := k) (H := H) hp hi
  have i1 : a < n := by omega
  have i2 : v < n := by omega
  simp only [n75, r75, hw0, hw1, ld, st, ix, List.append_nil, Array.size_setIfInBounds, encE_len, hd, i1, i2, SB, Nat.reduceLT, callee, aOp, ne_eq, Nat.reduceEqDiff, aBin, aUn, if_true, if_false, reduceCtorEq, frame0, place, notTuple, Nat.reduceAdd, Nat.reduceLeDiff, resVal, dite_true, dite_false, Int.reduceEq, Int.reduceLT, Int.reduceLE]
  refine Ret_rounds (S := (Nat × Nat) × Array Go.Scan.Ev) (fun s => s.1.2 + 1 - s.1.1) (fun s fr H => a < s.1.1 ∧ s.1.1 ≤ b ∧ s.1.2 < b ∧ fr 0 = .slice p n cap ∧ fr 1 = .int .i64 (a : Int) ∧ fr 4 = .func (.func cl) #[] cs.toArray ∧ fr 11 = .int .i64 (s.1.1 : Int) ∧ fr 12 = .int .i64 (s.1.2 : Int) ∧
    H = DH encE G B s.2 ++ X ∧ s.2.size = n ∧ T = partEqLoop (ltC c) a s.1.1 s.1.2 s.2) ((a + 1, b - 1), swp d a v) ⟨by simp only; omega, by simp only; omega, by simp only; omega, (by simp only [FB, Nat.reduceEqDiff]), (by simp only [FB, Nat.reduceEqDiff]), (by simp only [FB, Nat.reduceEqDiff]), (by simp only [FB, Nat.reduceEqDiff]), (by simp only [FB, Nat.reduceEqDiff]), by simp [swp], by simp [swp, hd], hT.symm⟩ ?_
  rintro ⟨⟨i, j⟩, d1⟩ fr H ⟨h1, h2, h3, g0, g1, g4, g11, g12, rfl, hd1, he⟩ hN
  simp only at h1 h2 h3 g11 g12 hd1 he
  rw [Ret_code l75_3.eq_1]
  simp only [n75, r75, SB, Nat.reduceLT, callee, aOp, ne_eq, Nat.reduceEqDiff, aBin, aUn, if_true, if_false, reduceCtorEq, frame0, place, notTuple, Nat.reduceAdd, Nat.reduceLeDiff, resVal, dite_true, dite_false, Int.reduceEq, Int.reduceLT, Int.reduceLE]
  refine Ret_rounds (S := Nat) (fun s => b + 1 - s) (fun s fr H => i ≤ s ∧ s ≤ b ∧ fr 0 = .slice p n cap ∧ fr 1 = .int .i64 (a : Int) ∧ fr 4 = .func (.func cl) #[] cs.toArray ∧ fr 11 = .int .i64 (s : Int) ∧ fr 12 = .int .i64 (j : Int) ∧
    H = DH encE G B d1 ++ X ∧ scanUp (fun x => !ltC c d1[a]! x) d1 j i = scanUp (fun x => !ltC c d1[a]! x) d1 j s) i ⟨Nat.le_refl _, h2, g0, g1, g4, g11, g12, rfl, rfl⟩ ?_
  rintro i' fr1 H1 ⟨k1, k2, q0, q1, q4, q11, q12, rfl, hs⟩ hM
  rw [Ret_code l75_2.eq_1]
  by_cases c1 : i' ≤ j ∧ ¬ c d1[a]! d1[i']! < 0
  · obtain ⟨c1, c2⟩ := c1
    have hw2 : IntKind.i64.wrap ((i' : Int) + 1) = ((i' + 1 : Nat) : Int) := wrap_nat (by omega)
    have i3 : i' < n := by omega
    simp only [n75, r75, q0, q1, q4, q11, q12, c1, c2, hw2, ld, st, ix, List.append_nil, Array.size_setIfInBounds, encE_len, hd1, i1, i3, hc, SB, Nat.reduceLT, callee, aOp, ne_eq, Nat.reduceEqDiff, aBin, aUn, if_true, if_false, reduceCtorEq, frame0, place, notTuple, Nat.reduceAdd, Nat.reduceLeDiff, resVal, dite_true, dite_false, Int.reduceEq, Int.reduceLT, Int.reduceLE]
    exact hM (i' + 1) _ _ ⟨by omega, by omega, (by simp only [q0, FB, Nat.reduceEqDiff]), (by simp only [q1, FB, Nat.reduceEqDiff]), (by simp only [q4, FB, Nat.reduceEqDiff]), (by simp only [FB, Nat.reduceEqDiff]), (by simp only [q12, FB, Nat.reduceEqDiff]), rfl, by rw [hs, scanUp_step c1 (by simp [ltC, c2])]⟩ (by omega)
  have hs2 : scanUp (fun x => !ltC c d1[a]! x) d1 j i = i' := by
    rw [hs, scanUp_stop]
    intro q
    by_cases q2 : c d1[a]! d1[i']! < 0
    · simp [ltC, q2]
    · exact absurd ⟨q, q2⟩ c1
  clear hM
  have hx : (i' ≤ j ∧ c d1[a]! d1[i']! < 0) ∨ ¬ i' ≤ j := by
    by_cases q : i' ≤ j
    · exact .inl ⟨q, Classical.byContradiction fun q2 => c1 ⟨q, q2⟩⟩
    · exact .inr q
  have i0 : i' ≤ j → i' < n := fun q => by omega
  rcases hx with ⟨c2, c3⟩ | c2
  case' inl => simp only [n75, r75, q0, q1, q4, q11, q12, c2, c3, ld, st, ix, List.append_nil, Array.size_setIfInBounds, encE_len, hd1, i1, i0 c2, hc, SB, Nat.reduceLT, callee, aOp, ne_eq, Nat.reduceEqDiff, aBin, aUn, if_true, if_false, reduceCtorEq, frame0, place, notTuple, Nat.reduceAdd, Nat.reduceLeDiff, resVal, dite_true, dite_false, Int.reduceEq, Int.reduceLT, Int.reduceLE]
  case' inr => simp only [n75, r75, q0, q1, q4, q11, q12, c2, ld, st, ix, List.append_nil, Array.size_setIfInBounds, encE_len, SB, Nat.reduceLT, callee, aOp, ne_eq, Nat.reduceEqDiff, aBin, aUn, if_true, if_false, reduceCtorEq, frame0, place, notTuple, Nat.reduceAdd, Nat.reduceLeDiff, resVal, dite_true, dite_false, Int.reduceEq, Int.reduceLT, Int.reduceLE]
  all_goals
    refine Ret_rounds (S := Nat) (fun s => s) (fun s fr H => s ≤ j ∧ fr 0 = .slice p n cap ∧ fr 1 = .int .i64 (a : Int) ∧ fr 4 = .func (.func cl) #[] cs.toArray ∧ fr 11 = .int .i64 (i' : Int) ∧ fr 12 = .int .i64 (s : Int) ∧
      H = DH encE G B d1 ++ X ∧ scanDown (fun x => ltC c d1[a]! x) d1 i' j = scanDown (fun x => ltC c d1[a]! x) d1 i' s) j ⟨Nat.le_refl _, (by simp only [q0, FB, Nat.reduceEqDiff]), (by simp only [q1, FB, Nat.reduceEqDiff]), (by simp only [q4, FB, Nat.reduceEqDiff]), (by simp only [q11, FB, Nat.reduceEqDiff]), (by simp only [q12, FB, Nat.reduceEqDiff]), rfl, rfl⟩ ?_
    rintro j' fr2 H2 ⟨m1, p0, p1, p4, p11, p12, rfl, hs'⟩ hM
    rw [Ret_code l75_1.eq_1]
    have i4 : j' < n := by omega
    by_cases c4 : i' ≤ j' ∧ c d1[a]! d1[j']! < 0
    · obtain ⟨c4, c5⟩ := c4
      have hw3 : IntKind.i64.wrap ((j' : Int) - 1) = ((j' - 1 : Nat) : Int) := wrap_pred (by omega) (by omega)
      simp only [n75, r75, p0, p1, p4, p11, p12, c4, c5, hw3, ld, st, ix, List.append_nil, Array.size_setIfInBounds, encE_len, hd1, i1, i4, hc, SB, Nat.reduceLT, callee, aOp, ne_eq, Nat.reduceEqDiff, aBin, aUn, if_true, if_false, reduceCtorEq, frame0, place, notTuple, Nat.reduceAdd, Nat.reduceLeDiff, resVal, dite_true, dite_false, Int.reduceEq, Int.reduceLT, Int.reduceLE]
      exact hM (j' - 1) _ _ ⟨by omega, (by simp only [p0, FB, Nat.reduceEqDiff]), (by simp only [p1, FB, Nat.reduceEqDiff]), (by simp only [p4, FB, Nat.reduceEqDiff]), (by simp only [p11, FB, Nat.reduceEqDiff]), (by simp only [FB, Nat.reduceEqDiff]), rfl, by rw [hs', scanDown_step c4 (by omega) (by simp [ltC, c5])]⟩ (by omega)
    have hs3 : scanDown (fun x => ltC c d1[a]! x) d1 i' j = j' := by
      rw [hs', scanDown_stop]
      intro q
      have q2 : ¬ c d1[a]! d1[j']! < 0 := fun q2 => c4 ⟨q, q2⟩
      simp [ltC, q2]
    clear hM
    by_cases c6 : j' < i'
    · have c7 : ¬ i' ≤ j' := by omega
      rw [partEq_stop hs2 hs3 c6] at he
      simp only [n75, r75, p0, p1, p4, p11, p12, c7, c6, ld, st, ix, List.append_nil, Array.size_setIfInBounds, encE_len, he, SB, Nat.reduceLT, callee, aOp, ne_eq, Nat.reduceEqDiff, aBin, aUn, if_true, if_false, reduceCtorEq, frame0, place, notTuple, Nat.reduceAdd, Nat.reduceLeDiff, resVal, dite_true, dite_false, Int.reduceEq, Int.reduceLT, Int.reduceLE]
    · have c7 : i' ≤ j' := by omega
      have c8 : ¬ c d1[a]! d1[j']! < 0 := fun q => c4 ⟨c7, q⟩
      rw [partEq_next hs2 hs3 c6 k1 m1 (by omega)] at he
      have i5 : i' < n := by omega
      have hw3 : IntKind.i64.wrap ((j' : Int) - 1) = ((j' - 1 : Nat) : Int) := wrap_pred (by omega) (by omega)
      have hw4 : IntKind.i64.wrap ((i' : Int) + 1) = ((i' + 1 : Nat) : Int) := wrap_nat (by omega)
      simp only [n75, r75, p0, p1, p4, p11, p12, c7, c6, c8, hw3, hw4, ld, st, ix, List.append_nil, Array.size_setIfInBounds, encE_len, hd1, i1, i4, i5, hc, SB, Nat.reduceLT, callee, aOp, ne_eq, Nat.reduceEqDiff, aBin, aUn, if_true, if_false, reduceCtorEq, frame0, place, notTuple, Nat.reduceAdd, Nat.reduceLeDiff, resVal, dite_true, dite_false, Int.reduceEq, Int.reduceLT, Int.reduceLE]
      exact hN ((i' + 1, j' - 1), swp d1 i' j') _ _ ⟨by simp only; omega, by simp only; omega, by simp only; omega, (by simp only [p0, FB, Nat.reduceEqDiff]), (by simp only [p1, FB, Nat.reduceEqDiff]), (by simp only [p4, FB, Nat.reduceEqDiff]), (by simp only [FB, Nat.reduceEqDiff]), (by simp only [FB, Nat.reduceEqDiff]), by simp [swp], by simp [swp, hd1], he⟩ (by simp only; omega)
theorem part_stop {α : Type} [Inhabited α] {lt : α → α → Bool} {a i j i2 j2 : Nat} {d : Array α} (h1 : scanUp (fun x => lt x d[a]!) d j i = i2) (h2 : scanDown (fun x => !lt x d[a]!) d i2 j = j2) (h : i2 > j2) : partLoop lt a i j d = (j2, d) := by
  rw [partLoop]; simp only [h1, h2]; rw [if_pos h]
theorem part_next {α : Type} [Inhabited α] {lt : α → α → Bool} {a i j i2 j2 : Nat} {d : Array α} (h1 : scanUp (fun x => lt x d[a]!) d j i = i2) (h2 : scanDown (fun x => !lt x d[a]!) d i2 j = j2) (h : ¬ i2 > j2) (g1 : i ≤ i2) (g2 : j2 ≤ j) (g3 : 0 < i2) : partLoop lt a i j d = partLoop lt a (i2 + 1) (j2 - 1) (swp d i2 j2) := by
  rw [partLoop]; simp only [h1, h2]; rw [if_neg h, dif_pos (by omega)]
theorem part_sort [OB] {G X : Heap} {B lim cap n : Nat} {p : Option Addr} {c : Go.Scan.Ev → Go.Scan.Ev → Int} {cl : FuncId} {cs : List Value} {Q : Value → Heap → Prop} (hp : p = some ⟨B, 0, none⟩) (hB : B < G.length) (hl : lim ≤ B) (hn2 : n < 2 ^ 61) (hc : ∀ (mp : Bool) (lim : Nat) (x y : Go.Scan.Ev) (H : Heap) (Q : Value → Heap → Prop), CallR E mp lim cl (.agg (encE x).toArray :: .agg (encE y).toArray :: cs) H Q = Q (.int .i64 (c x y)) H) {d : Array Go.Scan.Ev} {a b v : Nat} (hd : d.size = n) (hb : b ≤ n) (hab : a ≤ v) (hvb : v < b) :
    CallR E false lim 76 [.slice p n cap, .int .i64 (a : Int), .int .i64 (b : Int), .int .i64 (v : Int), .func (.func cl) #[] cs.toArray] (DH encE G B d ++ X) Q = Q (.tuple #[.int .i64 ((Sort.partition (ltC c) d a b v).1 : Nat), .bool (Sort.partition (ltC c) d a b v).2.1]) (DH encE G B (Sort.partition (ltC c) d a b v).2.2 ++ X) := by
  refine runs (by decide) e76 rfl ?_
  rw [b76, c76]
  have hw0 : IntKind.i64.wrap ((b : Int) - 1) = ((b - 1 : Nat) : Int) := wrap_pred (by omega) (by omega)
  have hw1 : IntKind.i64.wrap ((a : Int) + 1) = ((a + 1 : Nat) : Int) := wrap_nat (by omega)
  generalize hT : Sort.partition (ltC c) d a b v = T
  rw [Sort.partition] at hT
  have ld := fun (i : Nat) (X : Heap) (d : Array Go.Scan.Ev) (hd : d.size = n) (hi : i < n) => DH_ld (X := X) (d := d) (i := i) hp hB encE_len (by omega); have st := fun (i : Nat) (X : Heap) (d : Array Go.Scan.Ev) (hd : d.size = n) (hi : i < n) (y : Go.Scan.Ev) => DH_st (X := X) (d := d) (i := i) (y := y) hp hB hl encE_len (by omega); have ix := fun (i : Nat) (hi : i < n) c (k : IntKind) (H : Heap) => DH_idx (e := 7) (i := i) (n := n) (c := c) (k := k) (H := H) hp hi
  have i1 : a < n := by omega
  have i2 : v < n := by omega
  simp only [n76, r76, hw0, hw1, ld, st, ix, List.append_nil, Array.size_setIfInBounds, encE_len, hd, i1, i2, SB, Nat.reduceLT, callee, aOp, ne_eq, Nat.reduceEqDiff, aBin, aUn, if_true, if_false, reduceCtorEq, frame0, place, notTuple, Nat.reduceAdd, Nat.reduceLeDiff, resVal, dite_true, dite_false, Int.reduceEq, Int.reduceLT, Int.reduceLE]
  have hd0 : (swp d a v).size = n := by simp [swp, hd]
  have hswp : (d.setIfInBounds a d[v]!).setIfInBounds v d[a]! = swp d a v := rfl
  rw [hswp]
  generalize swp d a v = d1 at hT hd0
  have k0 : a + 1 ≤ b := by omega
  refine Ret_rounds (S := Nat) (fun s => b + 1 - s) (fun s fr H => (a + 1) ≤ s ∧ s ≤ (b - 1) + 1 ∧ fr 0 = .slice p n cap ∧ fr 1 = .int .i64 (a : Int) ∧ fr 4 = .func (.func cl) #[] cs.toArray ∧ fr 12 = .int .i64 (s : Int) ∧ fr 13 = .int .i64 ((b - 1 : Nat) : Int) ∧
    H = DH encE G B d1 ++ X ∧ scanUp (fun x => ltC c x d1[a]!) d1 (b - 1) (a + 1) = scanUp (fun x => ltC c x d1[a]!) d1 (b - 1) s) (a + 1) ⟨Nat.le_refl _, by omega, (by simp only [FB, Nat.reduceEqDiff]), (by simp only [FB, Nat.reduceEqDiff]), (by simp only [FB, Nat.reduceEqDiff]), (by simp only [FB, Nat.reduceEqDiff]), (by simp only [FB, Nat.reduceEqDiff]), rfl, rfl⟩ ?_
  rintro i' fr1 H1 ⟨x1, k2, q0, q1, q4, q12, q13, rfl, hs⟩ hM
  rw [Ret_code l76_5.eq_1]
  by_cases c1 : i' ≤ (b - 1) ∧ c d1[i']! d1[a]! < 0
  · obtain ⟨cc1, cc2⟩ := c1
    have hw2 : IntKind.i64.wrap ((i' : Int) + 1) = ((i' + 1 : Nat) : Int) := wrap_nat (by omega)
    have i3 : i' < n := by omega
    simp only [n76, r76, q0, q1, q4, q12, q13, cc1, cc2, hw2, ld, st, ix, List.append_nil, Array.size_setIfInBounds, encE_len, hd0, i1, i3, hc, SB, Nat.reduceLT, callee, aOp, ne_eq, Nat.reduceEqDiff, aBin, aUn, if_true, if_false, reduceCtorEq, frame0, place, notTuple, Nat.reduceAdd, Nat.reduceLeDiff, resVal, dite_true, dite_false, Int.reduceEq, Int.reduceLT, Int.reduceLE]
    exact hM (i' + 1) _ _ ⟨by omega, by omega, (by simp only [q0, FB, Nat.reduceEqDiff]), (by simp only [q1, FB, Nat.reduceEqDiff]), (by simp only [q4, FB, Nat.reduceEqDiff]), (by simp only [FB, Nat.reduceEqDiff]), (by simp only [q13, FB, Nat.reduceEqDiff]), rfl, by rw [hs, scanUp_step cc1 (by simp [ltC, cc2])]⟩ (by omega)
  have hs2 : scanUp (fun x => ltC c x d1[a]!) d1 (b - 1) (a + 1) = i' := by
    rw [hs, scanUp_stop]
    intro q
    have q2 : ¬ c d1[i']! d1[a]! < 0 := fun q2 => c1 ⟨q, q2⟩
    simp [ltC, q2]
  clear hM
  have hx : (i' ≤ (b - 1) ∧ ¬ c d1[i']! d1[a]! < 0) ∨ ¬ i' ≤ (b - 1) := by
    by_cases q : i' ≤ (b - 1)
    · exact .inl ⟨q, fun q2 => c1 ⟨q, q2⟩⟩
    · exact .inr q
  have i0 : i' ≤ (b - 1) → i' < n := fun q => by omega
  have hxx := hx
  rcases hx with ⟨cc2, cc3⟩ | cc2
  case' inl => simp only [n76, r76, q0, q1, q4, q12, q13, cc2, cc3, ld, st, ix, List.append_nil, Array.size_setIfInBounds, encE_len, hd0, i1, i0 cc2, hc, SB, Nat.reduceLT, callee, aOp, ne_eq, Nat.reduceEqDiff, aBin, aUn, if_true, if_false, reduceCtorEq, frame0, place, notTuple, Nat.reduceAdd, Nat.reduceLeDiff, resVal, dite_true, dite_false, Int.reduceEq, Int.reduceLT, Int.reduceLE]
  case' inr => simp only [n76, r76, q0, q1, q4, q12, q13, cc2, ld, st, ix, List.append_nil, Array.size_setIfInBounds, encE_len, SB, Nat.reduceLT, callee, aOp, ne_eq, Nat.reduceEqDiff, aBin, aUn, if_true, if_false, reduceCtorEq, frame0, place, notTuple, Nat.reduceAdd, Nat.reduceLeDiff, resVal, dite_true, dite_false, Int.reduceEq, Int.reduceLT, Int.reduceLE]
  all_goals
    clear cc2
    refine Ret_rounds (S := Nat) (fun s => s) (fun s fr H => s ≤ (b - 1) ∧ i' ≤ s + 1 ∧ fr 0 = .slice p n cap ∧ fr 1 = .int .i64 (a : Int) ∧ fr 4 = .func (.func cl) #[] cs.toArray ∧ fr 12 = .int .i64 (i' : Int) ∧ fr 13 = .int .i64 (s : Int) ∧
      H = DH encE G B d1 ++ X ∧ scanDown (fun x => !ltC c x d1[a]!) d1 i' (b - 1) = scanDown (fun x => !ltC c x d1[a]!) d1 i' s) (b - 1) ⟨Nat.le_refl _, by omega, (by simp only [q0, FB, Nat.reduceEqDiff]), (by simp only [q1, FB, Nat.reduceEqDiff]), (by simp only [q4, FB, Nat.reduceEqDiff]), (by simp only [q12, FB, Nat.reduceEqDiff]), (by simp only [q13, FB, Nat.reduceEqDiff]), rfl, rfl⟩ ?_
    rintro j' fr2 H2 ⟨y1, y2, p0, p1, p4, p12, p13, rfl, hs'⟩ hM
    rw [Ret_code l76_4.eq_1]
    have i4 : j' < n := by omega
    by_cases c4 : i' ≤ j' ∧ ¬ c d1[j']! d1[a]! < 0
    · obtain ⟨cc4, cc5⟩ := c4
      have hw3 : IntKind.i64.wrap ((j' : Int) - 1) = ((j' - 1 : Nat) : Int) := wrap_pred (by omega) (by omega)
      simp only [n76, r76, p0, p1, p4, p12, p13, cc4, cc5, hw3, ld, st, ix, List.append_nil, Array.size_setIfInBounds, encE_len, hd0, i1, i4, hc, SB, Nat.reduceLT, callee, aOp, ne_eq, Nat.reduceEqDiff, aBin, aUn, if_true, if_false, reduceCtorEq, frame0, place, notTuple, Nat.reduceAdd, Nat.reduceLeDiff, resVal, dite_true, dite_false, Int.reduceEq, Int.reduceLT, Int.reduceLE]
      exact hM (j' - 1) _ _ ⟨by omega, by omega, (by simp only [p0, FB, Nat.reduceEqDiff]), (by simp only [p1, FB, Nat.reduceEqDiff]), (by simp only [p4, FB, Nat.reduceEqDiff]), (by simp only [p12, FB, Nat.reduceEqDiff]), (by simp only [FB, Nat.reduceEqDiff]), rfl, by rw [hs', scanDown_step cc4 (by omega) (by simp [ltC, cc5])]⟩ (by omega)
    have hs3 : scanDown (fun x => !ltC c x d1[a]!) d1 i' (b - 1) = j' := by
      rw [hs', scanDown_stop]
      intro q
      have q2 : c d1[j']! d1[a]! < 0 := Classical.byContradiction fun q2 => c4 ⟨q, q2⟩
      simp [ltC, q2]
    clear hM
    by_cases c6 : j' < i'
    · have c7 : ¬ i' ≤ j' := by omega
      have i6 : j' < n := by omega
      simp only [hs2, hs3] at hT
      rw [if_pos (show i' > j' from c6)] at hT
      simp only [n76, r76, p0, p1, p4, p12, p13, c7, c6, ld, st, ix, List.append_nil, Array.size_setIfInBounds, encE_len, hd0, i1, i6, SB, Nat.reduceLT, callee, aOp, ne_eq, Nat.reduceEqDiff, aBin, aUn, if_true, if_false, reduceCtorEq, frame0, place, notTuple, Nat.reduceAdd, Nat.reduceLeDiff, resVal, dite_true, dite_false, Int.reduceEq, Int.reduceLT, Int.reduceLE]
      rw [← hT]
      exact ⟨rfl, rfl⟩
    · have c7 : i' ≤ j' := by omega
      have c8 : c d1[j']! d1[a]! < 0 := Classical.byContradiction fun q => c4 ⟨c7, q⟩
      have c9 : i' ≠ j' := by
        rintro rfl
        rcases hxx with q | q
        · exact q.2 c8
        · exact q (by omega)
      simp only [hs2, hs3] at hT
      rw [if_neg (show ¬ i' > j' from c6)] at hT
      have i5 : i' < n := by omega
      have i6 : j' < n := by omega
      have hw3 : IntKind.i64.wrap ((j' : Int) - 1) = ((j' - 1 : Nat) : Int) := wrap_pred (by omega) (by omega)
      have hw4 : IntKind.i64.wrap ((i' : Int) + 1) = ((i' + 1 : Nat) : Int) := wrap_nat (by omega)
      simp only [n76, r76, p0, p1, p4, p12, p13, c7, c6, c8, hw3, hw4, ld, st, ix, List.append_nil, Array.size_setIfInBounds, encE_len, hd0, i1, i6, i5, hc, SB, Nat.reduceLT, callee, aOp, ne_eq, Nat.reduceEqDiff, aBin, aUn, if_true, if_false, reduceCtorEq, frame0, place, notTuple, Nat.reduceAdd, Nat.reduceLeDiff, resVal, dite_true, dite_false, Int.reduceEq, Int.reduceLT, Int.reduceLE]
      generalize hL : partLoop (ltC c) a (i' + 1) (j' - 1) (swp d1 i' j') = L at hT
      refine Ret_rounds (S := (Nat × Nat) × Array Go.Scan.Ev) (fun s => s.1.2 + 1 - s.1.1) (fun s fr H => a < s.1.1 ∧ s.1.1 ≤ s.1.2 + 1 ∧ s.1.2 < b ∧ fr 0 = .slice p n cap ∧ fr 1 = .int .i64 (a : Int) ∧ fr 4 = .func (.func cl) #[] cs.toArray ∧ fr 12 = .int .i64 (s.1.1 : Int) ∧ fr 13 = .int .i64 (s.1.2 : Int) ∧
        H = DH encE G B s.2 ++ X ∧ s.2.size = n ∧ L = partLoop (ltC c) a s.1.1 s.1.2 s.2) ((i' + 1, j' - 1), swp d1 i' j') ⟨by simp only; omega, by simp only; omega, by simp only; omega, (by simp only [p0, FB, Nat.reduceEqDiff]), (by simp only [p1, FB, Nat.reduceEqDiff]), (by simp only [p4, FB, Nat.reduceEqDiff]), (by simp only [FB, Nat.reduceEqDiff]), (by simp only [FB, Nat.reduceEqDiff]), by simp [swp], by simp [swp, hd0], hL.symm⟩ ?_
      clear hs2 hs3 hs hs' c1 c4 hxx i0 hL
      rintro ⟨⟨i, j⟩, d2⟩ fr H ⟨h1, h2, h3, g0, g1, g4, g12, g13, rfl, hd2, he⟩ hN
      simp only at h1 h2 h3 g12 g13 hd2 he
      rw [Ret_code l76_3.eq_1]
      simp only [n76, r76, SB, Nat.reduceLT, callee, aOp, ne_eq, Nat.reduceEqDiff, aBin, aUn, if_true, if_false, reduceCtorEq, frame0, place, notTuple, Nat.reduceAdd, Nat.reduceLeDiff, resVal, dite_true, dite_false, Int.reduceEq, Int.reduceLT, Int.reduceLE]
      refine Ret_rounds (S := Nat) (fun s => b + 1 - s) (fun s fr H => i ≤ s ∧ s ≤ j + 1 ∧ fr 0 = .slice p n cap ∧ fr 1 = .int .i64 (a : Int) ∧ fr 4 = .func (.func cl) #[] cs.toArray ∧ fr 12 = .int .i64 (s : Int) ∧ fr 13 = .int .i64 (j : Int) ∧
        H = DH encE G B d2 ++ X ∧ scanUp (fun u => ltC c u d2[a]!) d2 j i = scanUp (fun u => ltC c u d2[a]!) d2 j s) i ⟨Nat.le_refl _, by omega, g0, g1, g4, g12, g13, rfl, rfl⟩ ?_
      rintro x fr1 H1 ⟨x1, k2, q0, q1, q4, q12, q13, rfl, us⟩ hM
      rw [Ret_code l76_2.eq_1]
      by_cases z1 : x ≤ j ∧ c d2[x]! d2[a]! < 0
      · obtain ⟨cc1, cc2⟩ := z1
        have hw2 : IntKind.i64.wrap ((x : Int) + 1) = ((x + 1 : Nat) : Int) := wrap_nat (by omega)
        have i3 : x < n := by omega
        simp only [n76, r76, q0, q1, q4, q12, q13, cc1, cc2, hw2, ld, st, ix, List.append_nil, Array.size_setIfInBounds, encE_len, hd2, i1, i3, hc, SB, Nat.reduceLT, callee, aOp, ne_eq, Nat.reduceEqDiff, aBin, aUn, if_true, if_false, reduceCtorEq, frame0, place, notTuple, Nat.reduceAdd, Nat.reduceLeDiff, resVal, dite_true, dite_false, Int.reduceEq, Int.reduceLT, Int.reduceLE]
        exact hM (x + 1) _ _ ⟨by omega, by omega, (by simp only [q0, FB, Nat.reduceEqDiff]), (by simp only [q1, FB, Nat.reduceEqDiff]), (by simp only [q4, FB, Nat.reduceEqDiff]), (by simp only [FB, Nat.reduceEqDiff]), (by simp only [q13, FB, Nat.reduceEqDiff]), rfl, by rw [us, scanUp_step cc1 (by simp [ltC, cc2])]⟩ (by omega)
      have us2 : scanUp (fun u => ltC c u d2[a]!) d2 j i = x := by
        rw [us, scanUp_stop]
        intro q
        have q2 : ¬ c d2[x]! d2[a]! < 0 := fun q2 => z1 ⟨q, q2⟩
        simp [ltC, q2]
      clear hM
      have hz : (x ≤ j ∧ ¬ c d2[x]! d2[a]! < 0) ∨ ¬ x ≤ j := by
        by_cases q : x ≤ j
        · exact .inl ⟨q, fun q2 => z1 ⟨q, q2⟩⟩
        · exact .inr q
      have i0 : x ≤ j → x < n := fun q => by omega
      have hzz := hz
      rcases hz with ⟨cc2, cc3⟩ | cc2
      case' inl => simp only [n76, r76, q0, q1, q4, q12, q13, cc2, cc3, ld, st, ix, List.append_nil, Array.size_setIfInBounds, encE_len, hd2, i1, i0 cc2, hc, SB, Nat.reduceLT, callee, aOp, ne_eq, Nat.reduceEqDiff, aBin, aUn, if_true, if_false, reduceCtorEq, frame0, place, notTuple, Nat.reduceAdd, Nat.reduceLeDiff, resVal, dite_true, dite_false, Int.reduceEq, Int.reduceLT, Int.reduceLE]
      case' inr => simp only [n76, r76, q0, q1, q4, q12, q13, cc2, ld, st, ix, List.append_nil, Array.size_setIfInBounds, encE_len, SB, Nat.reduceLT, callee, aOp, ne_eq, Nat.reduceEqDiff, aBin, aUn, if_true, if_false, reduceCtorEq, frame0, place, notTuple, Nat.reduceAdd, Nat.reduceLeDiff, resVal, dite_true, dite_false, Int.reduceEq, Int.reduceLT, Int.reduceLE]
      all_goals
        clear cc2
        refine Ret_rounds (S := Nat) (fun s => s) (fun s fr H => s ≤ j ∧ x ≤ s + 1 ∧ fr 0 = .slice p n cap ∧ fr 1 = .int .i64 (a : Int) ∧ fr 4 = .func (.func cl) #[] cs.toArray ∧ fr 12 = .int .i64 (x : Int) ∧ fr 13 = .int .i64 (s : Int) ∧
          H = DH encE G B d2 ++ X ∧ scanDown (fun u => !ltC c u d2[a]!) d2 x j = scanDown (fun u => !ltC c u d2[a]!) d2 x s) j ⟨Nat.le_refl _, by omega, (by simp only [q0, FB, Nat.reduceEqDiff]), (by simp only [q1, FB, Nat.reduceEqDiff]), (by simp only [q4, FB, Nat.reduceEqDiff]), (by simp only [q12, FB, Nat.reduceEqDiff]), (by simp only [q13, FB, Nat.reduceEqDiff]), rfl, rfl⟩ ?_
        rintro y fr2 H2 ⟨y1, y2, t0, t1, t4, t12, t13, rfl, us'⟩ hM
        rw [Ret_code l76_1.eq_1]
        have i4 : y < n := by omega
        by_cases z4 : x ≤ y ∧ ¬ c d2[y]! d2[a]! < 0
        · obtain ⟨cc4, cc5⟩ := z4
          have hw3 : IntKind.i64.wrap ((y : Int) - 1) = ((y - 1 : Nat) : Int) := wrap_pred (by omega) (by omega)
          simp only [n76, r76, t0, t1, t4, t12, t13, cc4, cc5, hw3, ld, st, ix, List.append_nil, Array.size_setIfInBounds, encE_len, hd2, i1, i4, hc, SB, Nat.reduceLT, callee, aOp, ne_eq, Nat.reduceEqDiff, aBin, aUn, if_true, if_false, reduceCtorEq, frame0, place, notTuple, Nat.reduceAdd, Nat.reduceLeDiff, resVal, dite_true, dite_false, Int.reduceEq, Int.reduceLT, Int.reduceLE]
          exact hM (y - 1) _ _ ⟨by omega, by omega, (by simp only [t0, FB, Nat.reduceEqDiff]), (by simp only [t1, FB, Nat.reduceEqDiff]), (by simp only [t4, FB, Nat.reduceEqDiff]), (by simp only [t12, FB, Nat.reduceEqDiff]), (by simp only [FB, Nat.reduceEqDiff]), rfl, by rw [us', scanDown_step cc4 (by omega) (by simp [ltC, cc5])]⟩ (by omega)
        have us3 : scanDown (fun u => !ltC c u d2[a]!) d2 x j = y := by
          rw [us', scanDown_stop]
          intro q
          have q2 : c d2[y]! d2[a]! < 0 := Classical.byContradiction fun q2 => z4 ⟨q, q2⟩
          simp [ltC, q2]
        clear hM
        by_cases z6 : y < x
        · have z7 : ¬ x ≤ y := by omega
          have i6 : y < n := by omega
          rw [part_stop us2 us3 z6] at he
          simp only [n76, r76, t0, t1, t4, t12, t13, z7, z6, ld, st, ix, List.append_nil, Array.size_setIfInBounds, encE_len, hd2, i1, i6, SB, Nat.reduceLT, callee, aOp, ne_eq, Nat.reduceEqDiff, aBin, aUn, if_true, if_false, reduceCtorEq, frame0, place, notTuple, Nat.reduceAdd, Nat.reduceLeDiff, resVal, dite_true, dite_false, Int.reduceEq, Int.reduceLT, Int.reduceLE]
          rw [← hT, he]
          exact ⟨rfl, rfl⟩
        · have z7 : x ≤ y := by omega
          have z8 : c d2[y]! d2[a]! < 0 := Classical.byContradiction fun q => z4 ⟨z7, q⟩
          have z9 : x ≠ y := by
            rintro rfl
            rcases hzz with q | q
            · exact q.2 z8
            · exact q (by omega)
          rw [part_next us2 us3 z6 x1 y1 (by omega)] at he
          have i5 : x < n := by omega
          have i6 : y < n := by omega
          have hw5 : IntKind.i64.wrap ((y : Int) - 1) = ((y - 1 : Nat) : Int) := wrap_pred (by omega) (by omega)
          have hw6 : IntKind.i64.wrap ((x : Int) + 1) = ((x + 1 : Nat) : Int) := wrap_nat (by omega)
          simp only [n76, r76, t0, t1, t4, t12, t13, z7, z6, z8, hw5, hw6, ld, st, ix, List.append_nil, Array.size_setIfInBounds, encE_len, hd2, i1, i6, i5, hc, SB, Nat.reduceLT, callee, aOp, ne_eq, Nat.reduceEqDiff, aBin, aUn, if_true, if_false, reduceCtorEq, frame0, place, notTuple, Nat.reduceAdd, Nat.reduceLeDiff, resVal, dite_true, dite_false, Int.reduceEq, Int.reduceLT, Int.reduceLE]
          exact hN ((x + 1, y - 1), swp d2 x y) _ _ ⟨by simp only; omega, by simp only; omega, by simp only; omega, (by simp only [t0, FB, Nat.reduceEqDiff]), (by simp only [t1, FB, Nat.reduceEqDiff]), (by simp only [t4, FB, Nat.reduceEqDiff]), (by simp only [FB, Nat.reduceEqDiff]), (by simp only [FB, Nat.reduceEqDiff]), by simp [swp], by simp [swp, hd2], he⟩ (by simp only; omega)
end Go.Proofs.Ytkppjkkkdpcgiaa.Fn.SE

