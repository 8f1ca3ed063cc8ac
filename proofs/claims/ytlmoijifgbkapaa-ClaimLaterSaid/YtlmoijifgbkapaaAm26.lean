/-
  The abstract machine, part 26: slices that are read, element by element; loops by a measure; cases without an end.
-/
import Derived.Test.YtlmoijifgbkapaaAm25
set_option linter.unusedVariables false
set_option linter.unusedSimpArgs false
namespace Go.AM

/-! ### Slices that are read -/
section
variable {α : Type}
/-- The element at a place, or the type's default. -/
def gt [Inhabited α] (l : List α) (i : Nat) : α := l.getD i default
theorem gt_lt [Inhabited α] {l : List α} {i : Nat} (h : i < l.length) : gt l i = l[i] := by simp [gt, List.getD_eq_getElem?_getD, List.getElem?_eq_getElem h]
theorem gt_cons_zero [Inhabited α] {x : α} {l : List α} : gt (x :: l) 0 = x := rfl
theorem gt_cons_succ [Inhabited α] {x : α} {l : List α} {i : Nat} : gt (x :: l) (i + 1) = gt l i := by simp [gt]
theorem gt_append_left [Inhabited α] {l r : List α} {i : Nat} (h : i < l.length) : gt (l ++ r) i = gt l i := by
  simp [gt, List.getD_eq_getElem?_getD, List.getElem?_append_left h]
theorem gt_append_len [Inhabited α] {l r : List α} {i : Nat} : gt (l ++ r) (l.length + i) = gt r i := by
  unfold gt
  rw [List.getD_eq_getElem?_getD, List.getD_eq_getElem?_getD, List.getElem?_append_right (by omega), Nat.add_sub_cancel_left]
theorem gt_mem [Inhabited α] {l : List α} {i : Nat} (h : i < l.length) : gt l i ∈ l := by rw [gt_lt h]; exact List.getElem_mem h

/-- Where a slice begins. -/
def addrOf (p : Option Addr) : Addr := p.getD ⟨0, 0, none⟩
/-- The address of an element. -/
def elt (p : Option Addr) (e i : Nat) : Addr := (addrOf p).add (i * e)

/-- A slice at p has the elements l, each in e cells. -/
def Sl (H : Heap) (enc : α → List Value) (e : Nat) (p : Option Addr) (l : List α) : Prop :=
  match p with
  | none => l = []
  | some a => a.spot = none ∧ (l ≠ [] → ∃ ro c, hget H a.block = .cells ro c ∧ a.off + l.length * e ≤ c.length ∧ (c.drop a.off).take (l.length * e) = l.flatMap enc)

theorem hget_alive {H : Heap} {i : Nat} {ro : Bool} {c : List Value} (h : hget H i = .cells ro c) : i < H.length := by
  rcases Nat.lt_or_ge i H.length with h1 | h1
  · exact h1
  · unfold hget at h
    rw [List.getD_eq_getElem?_getD, List.getElem?_eq_none h1] at h
    cases h

def cellsOf : Blk → List Value | .cells _ c => c | _ => []
def isCells : Blk → Bool | .cells _ _ => true | _ => false
theorem cellsOf_cells {ro : Bool} {c : List Value} : cellsOf (.cells ro c) = c := rfl
theorem isCells_cells {ro : Bool} {c : List Value} : isCells (.cells ro c) = true := id rfl
theorem Sl.app {H : Heap} {enc : α → List Value} {e : Nat} {p : Option Addr} {l : List α} (h : Sl H enc e p l) (X : Heap) : Sl (H ++ X) enc e p l := by
  cases p with
  | none => exact h
  | some a =>
    refine ⟨h.1, fun hn => ?_⟩
    obtain ⟨ro, c, h2, h3⟩ := h.2 hn
    exact ⟨ro, c, by rw [hget_old (hget_alive h2)]; exact h2, h3⟩

/-- Heaps with the same cells. -/
theorem Sl.sim {H G : Heap} {enc : α → List Value} {e : Nat} {p : Option Addr} {l : List α} (h : Sl H enc e p l) (hG : ∀ b ro c, hget H b = .cells ro c → hget G b = .cells ro c) : Sl G enc e p l := by
  cases p with
  | none => exact h
  | some a =>
    refine ⟨h.1, fun hn => ?_⟩
    obtain ⟨ro, c, h2, h3⟩ := h.2 hn
    exact ⟨ro, c, hG _ _ _ h2, h3⟩
theorem flat_len {enc : α → List Value} {e : Nat} (he : ∀ x, (enc x).length = e) (l : List α) : (l.flatMap enc).length = l.length * e := by
  induction l with
  | nil => simp
  | cons x l ih => simp [ih, he, Nat.add_mul, Nat.add_comm]
theorem flat_drop {enc : α → List Value} {e : Nat} (he : ∀ x, (enc x).length = e) : ∀ (l : List α) (i : Nat), i < l.length → [Inhabited α] → ((l.flatMap enc).drop (i * e)).take e = enc (gt l i)
  | [], i, h, _ => by simp at h
  | x :: l, 0, _, _ => by
    rw [List.flatMap_cons, Nat.zero_mul, List.drop_zero, List.take_append_of_le_length (by rw [he]; exact Nat.le_refl _), List.take_of_length_le (by rw [he]; exact Nat.le_refl _)]
    rfl
  | x :: l, i + 1, h, _ => by
    rw [List.flatMap_cons, List.drop_append, List.drop_eq_nil_of_le (by rw [he, Nat.add_mul]; omega), List.nil_append, he, show (i + 1) * e - e = i * e by rw [Nat.add_mul]; omega]
    have := flat_drop he l i (by simpa using h)
    rw [this, gt_cons_succ]

variable [Inhabited α] {H : Heap} {enc : α → List Value} {e : Nat} {p : Option Addr} {l : List α}
theorem Sl.loadCells (h : Sl H enc e p l) (he : ∀ x, (enc x).length = e) {i : Nat} (hi : i < l.length) : AM.loadCells H (elt p e i) e = some (enc (gt l i)) := by
  cases p with
  | none => simp only [Sl] at h; subst h; simp at hi
  | some a =>
    obtain ⟨b, o, s⟩ := a
    obtain ⟨ro, c, h2, h4, h3⟩ := h.2 (by rintro rfl; simp at hi)
    have h1 := h.1
    simp only at h1 h2 h3 h4; subst h1
    have hie : i * e + e ≤ l.length * e := by
      have := Nat.mul_le_mul_right e (Nat.succ_le_of_lt hi)
      rw [Nat.succ_mul] at this; exact this
    have hf := flat_drop he l i hi
    rw [← h3, List.drop_take, List.take_take, List.drop_drop] at hf
    simp only [elt, addrOf, Option.getD_some, addr_add, AM.loadCells, h2]
    rw [if_pos (by omega), ← hf, Nat.min_eq_left (by omega)]
theorem Sl.loadCell (h : Sl H enc e p l) (he : ∀ x, (enc x).length = e) {i j : Nat} (hi : i < l.length) (hj : j < e) : AM.loadCell H ((elt p e i).add j) = (enc (gt l i))[j]? := by
  have h0 := h.loadCells he hi
  cases p with
  | none => simp only [Sl] at h; subst h; simp at hi
  | some a =>
    obtain ⟨b, o, s⟩ := a
    obtain ⟨ro, c, h2, h4, h3⟩ := h.2 (by rintro rfl; simp at hi)
    have h1 := h.1
    simp only at h1 h2 h3 h4; subst h1
    simp only [elt, addrOf, Option.getD_some, addr_add, AM.loadCells, h2] at h0
    split at h0
    · simp only [Option.some.injEq] at h0
      rw [← h0]
      simp only [elt, addrOf, Option.getD_some, addr_add, AM.loadCell, h2, List.getElem?_take, List.getElem?_drop, if_pos hj, Nat.add_assoc]
    · cases h0
theorem Sl.loadCell0 (h : Sl H enc e p l) (he : ∀ x, (enc x).length = e) {i : Nat} (hi : i < l.length) (hj : 0 < e) : AM.loadCell H (elt p e i) = (enc (gt l i))[0]? := by
  rw [← h.loadCell he hi hj]
  congr 1
omit [Inhabited α] in
theorem Sl.idx (h : Sl H enc e p l) {i c : Nat} {k : IntKind} {H1 : Heap} (hi : i < l.length) : idxK e (.slice p l.length c) (.int k (i : Int)) H1 = some (.pointer (some (elt p e i)), H1) := by
  cases p with
  | none => simp only [Sl] at h; subst h; simp at hi
  | some a => exact idxK_nat hi
end

theorem hget_set_eq {X : Heap} {j : Nat} {b : Blk} (h : j < X.length) : hget (X.set j b) j = b := by
  unfold hget; rw [List.getD_eq_getElem?_getD, List.getElem?_set_self h]; rfl
theorem hget_set_ne {X : Heap} {i j : Nat} {b : Blk} (h : i ≠ j) : hget (X.set j b) i = hget X i := by
  unfold hget; rw [List.getD_eq_getElem?_getD, List.getD_eq_getElem?_getD, List.getElem?_set_ne (Ne.symm h)]
theorem find_drop {α : Type} [Inhabited α] {l : List α} {i : Nat} {w : α → Bool} (h : i < l.length) : (l.drop i).find? w = if w (gt l i) = true then some (gt l i) else (l.drop (i + 1)).find? w := by
  rw [List.drop_eq_getElem_cons h, List.find?_cons, gt_lt h]
  split <;> simp_all

theorem idxK_zero {e len c : Nat} {p : Addr} {k : IntKind} {H : Heap} (h : 0 < len) : idxK e (.slice (some p) len c) (.int k 0) H = some (.pointer (some (p.add 0)), H) := by
  have := idxK_nat (e := e) (n := 0) (len := len) (c := c) (p := p) (k := k) (H := H) h
  rw [Nat.zero_mul] at this
  exact this

/-! ### Maps -/
theorem keyOk_int {k : IntKind} {n : Int} : keyOk (.int k) (.int k n) = true := by simp [keyOk]
theorem keyOk_str {b : ByteArray} : keyOk .str (.string b) = true := id rfl
theorem findKey_nil {v : Value} {i : Nat} : findKey v [] i = some none := rfl
theorem findKey_int {k : IntKind} {a b : Int} {v : Value} {es : List (Value × Value)} {i : Nat} : findKey (.int k a) ((.int k b, v) :: es) i = if a = b then some (some (i, v)) else findKey (.int k a) es (i + 1) := by
  simp only [findKey, keyEq, if_true]
  by_cases h : a = b
  · simp [h]
  · have e : (a == b) = false := by simpa using h
    simp [h, e]
theorem mapEntries_some {H : Heap} {r : Nat} : mapEntries H (.map (some r)) = (match hget H r with | .map es => some es | _ => none) := rfl
theorem mapEntries_none {H : Heap} : mapEntries H (.map none) = some [] := rfl
theorem findKey_no {α : Type} {k : IntKind} {a : Int} {f : α → Int} {g : α → Value} : ∀ {l : List α} {i : Nat}, (∀ x ∈ l, f x ≠ a) → findKey (.int k a) (l.map fun x => (.int k (f x), g x)) i = some none
  | [], _, _ => rfl
  | x :: l, i, h => by
    rw [List.map_cons, findKey_int, if_neg (fun e => h x (by simp) e.symm)]
    exact findKey_no fun y hy => h y (by simp [hy])
theorem findKey_yes {α : Type} {k : IntKind} {a : Int} {f : α → Int} {g : α → Value} {v : Value} : ∀ {l : List α} {i : Nat}, (∃ x ∈ l, f x = a) → (∀ x ∈ l, f x = a → g x = v) → ∃ j, findKey (.int k a) (l.map fun x => (.int k (f x), g x)) i = some (some (j, v))
  | [], _, h, _ => by obtain ⟨x, hx, _⟩ := h; simp at hx
  | x :: l, i, h, hv => by
    rw [List.map_cons, findKey_int]
    by_cases e : a = f x
    · exact ⟨i, by rw [if_pos e, hv x (by simp) e.symm]⟩
    · rw [if_neg e]
      refine findKey_yes ?_ fun y hy => hv y (by simp [hy])
      obtain ⟨y, hy, hy2⟩ := h
      rcases List.mem_cons.1 hy with rfl | hy
      · exact absurd hy2.symm e
      · exact ⟨y, hy, hy2⟩

/-! ### Heaps that grow -/
def Ext (H G : Heap) : Prop := ∃ X, G = H ++ X
section
variable {H G : Heap}
theorem Ext.refl : Ext H H := ⟨[], by simp⟩
theorem Ext.app (h : Ext H G) {X : Heap} : Ext H (G ++ X) := by
  obtain ⟨Y, rfl⟩ := h
  exact ⟨Y ++ X, by simp⟩
theorem Ext.trans {K : Heap} (h : Ext H G) (k : Ext G K) : Ext H K := by
  obtain ⟨Y, rfl⟩ := k
  exact h.app
theorem Ext.len (h : Ext H G) : H.length ≤ G.length := by
  obtain ⟨Y, rfl⟩ := h
  simp
theorem Ext.sl {α : Type} {enc : α → List Value} {e : Nat} {p : Option Addr} {l : List α} (h : Ext H G) (hs : Sl H enc e p l) : Sl G enc e p l := by
  obtain ⟨Y, rfl⟩ := h
  exact hs.app Y
theorem Ext.cells (h : Ext H G) {b : Nat} {ro : Bool} {c : List Value} (hs : hget H b = .cells ro c) : hget G b = .cells ro c := by
  obtain ⟨Y, rfl⟩ := h
  rw [hget_old (hget_alive hs)]; exact hs
end

/-! ### Loops -/
section
variable {E : Env} {af : AFunc} {lim : Nat} {K : List AItem} {fr : Nat → Value} {H : Heap} {R : Value → Heap → Prop} {b : ACode}
/-- A loop whose rounds end it, or come again with less. -/
theorem Ret_rounds {S : Type} (m : S → Nat) (I : S → (Nat → Value) → Heap → Prop) (s : S) (h0 : I s fr H)
    (step : ∀ s fr H, I s fr H → (∀ s' fr' H', I s' fr' H' → m s' < m s → Ret E af lim (.inLoop b :: K) fr' H' R) → Ret E af lim (.code b :: .inLoop b :: K) fr H R) :
    Ret E af lim (.code (.loop b) :: K) fr H R := by
  rw [Ret_loop, ← Ret_inLoop]
  have key : ∀ n s fr H, m s ≤ n → I s fr H → Ret E af lim (.inLoop b :: K) fr H R := by
    intro n
    induction n with
    | zero =>
      intro s fr H hm hi
      rw [Ret_inLoop]
      exact step s fr H hi fun s' fr' H' _ hl => absurd hl (by omega)
    | succ n ih =>
      intro s fr H hm hi
      rw [Ret_inLoop]
      exact step s fr H hi fun s' fr' H' hi' hl => ih s' fr' H' (by omega) hi'
  exact key _ s fr H (Nat.le_refl _) h0

theorem CallR.mono {mp : Bool} {g : FuncId} {as : List Value} {Q Q' : Value → Heap → Prop} (h : CallR E mp lim g as H Q) (hq : ∀ v H', Q v H' → Q' v H') : CallR E mp lim g as H Q' := by
  obtain ⟨n, v, H', h1, h2⟩ := h
  exact ⟨n, v, H', h1, hq v H' h2⟩
theorem Ret.mono {k : List AItem} {R' : Value → Heap → Prop} (h : Ret E af lim k fr H R) (hq : ∀ v H', R v H' → R' v H') : Ret E af lim k fr H R' := by
  obtain ⟨n, v, H', h1, h2⟩ := h
  exact ⟨n, v, H', h1, hq v H' h2⟩
theorem Ret_pad {k : List AItem} (h : Ret E af lim k fr (H ++ []) R) : Ret E af lim k fr H R := by rwa [List.append_nil] at h
theorem Ret_exit_eq {k k' : List AItem} {id : Nat} (h : aExit id k = aExit id k') : Ret E af lim (.code (.exit id) :: k) fr H R = Ret E af lim (.code (.exit id) :: k') fr H R := by
  cases hk : aExit id k' with
  | some K' => rw [Ret_exit (h.trans hk), Ret_exit hk]
  | none =>
    have key : ∀ {k : List AItem}, aExit id k = none → ¬ Ret E af lim (.code (.exit id) :: k) fr H R := by
      rintro k hk ⟨n, v, H', hx, _⟩
      cases n with
      | zero => simp [aRun] at hx
      | succ n => rw [aRun.eq_def] at hx; simp only [hk] at hx; cases hx
    exact propext ⟨fun q => absurd q (key (h.trans hk)), fun q => absurd q (key hk)⟩
theorem Ret_exit_code {id : Nat} {c : ACode} : Ret E af lim (.code (.exit id) :: .code c :: K) fr H R = Ret E af lim (.code (.exit id) :: K) fr H R := Ret_exit_eq (by simp [aExit])
theorem Ret_exit_loop {id : Nat} {c : ACode} : Ret E af lim (.code (.exit id) :: .inLoop c :: K) fr H R = Ret E af lim (.code (.exit id) :: K) fr H R := Ret_exit_eq (by simp [aExit])
theorem Ret_exit_other {id id' : Nat} (h : id' ≠ id) : Ret E af lim (.code (.exit id) :: .inBlock id' :: K) fr H R = Ret E af lim (.code (.exit id) :: K) fr H R := Ret_exit_eq (by simp [aExit, h])
theorem Ret_exit_here {id : Nat} : Ret E af lim (.code (.exit id) :: .inBlock id :: K) fr H R = Ret E af lim K fr H R := Ret_exit (by simp [aExit])
theorem Ret_code {c c' : ACode} (h : c = c') : Ret E af lim (.code c :: K) fr H R = Ret E af lim (.code c' :: K) fr H R := by rw [h]
theorem loadCell_lit {b o : Nat} {s : Option Nat} : AM.loadCell H ⟨b, o, s⟩ = (match hget H b with | .cells _ c => c[o]? | _ => none) := rfl
theorem loadCells_lit {b o n : Nat} {s : Option Nat} : AM.loadCells H ⟨b, o, s⟩ n = (match hget H b with | .cells _ c => if o + n ≤ c.length then some ((c.drop o).take n) else none | _ => none) := rfl
theorem storeAt_lit {b o : Nat} {s : Option Nat} {vs : List Value} : AM.storeAt lim H ⟨b, o, s⟩ vs = (match hget H b with | .cells false c => if lim ≤ b ∧ o + vs.length ≤ c.length then some (H.set b (.cells false (setAll c o vs))) else none | _ => none) := rfl
/-- To what a call comes, it comes but to that. -/
theorem CallR.eq {mp : Bool} {g : FuncId} {as : List Value} {Q : Value → Heap → Prop} {v : Value} {H' : Heap} (h : CallR E mp lim g as H fun v' H1 => v' = v ∧ H1 = H') : CallR E mp lim g as H Q = Q v H' := by
  obtain ⟨n, v', H1, h1, rfl, rfl⟩ := h
  exact CallR.det h1
end



/-! ### Cases -/
section
variable {p q : Prop} {t b : Bool}
theorem wantK_undef : wantK undef b p q = q := by unfold undef wantK; rfl
theorem wantK_not : wantK (.bool (!t)) b p q = wantK (.bool t) (!b) p q := by cases t <;> cases b <;> simp [wantK]
theorem condK_not : condK (.bool (!t)) p q = condK (.bool t) q p := by cases t <;> rfl
end
theorem int_lt_cast {a b : Nat} : ((a : Int) < (b : Int)) = (a < b) := by simp
theorem int_le_cast {a b : Nat} : ((a : Int) ≤ (b : Int)) = (a ≤ b) := by simp
theorem int_zero_lt {a : Nat} : ((0 : Int) < (a : Int)) = (0 < a) := by simp
theorem decide_t {p : Prop} [Decidable p] (h : p) : decide p = true := by simp [h]

theorem wrap_id {n : Int} (h1 : -2 ^ 63 ≤ n) (h2 : n < 2 ^ 63) : IntKind.i64.wrap n = n := by
  by_cases h : 0 ≤ n
  · have h1 : n % 2 ^ 64 = n := Int.emod_eq_of_lt h (by omega)
    simp only [IntKind.wrap, IntKind.bits, IntKind.signed, h1]
    rw [if_neg (by simp; omega)]
  · have h1 : n % 2 ^ 64 = n + 2 ^ 64 := by
      rw [← Int.add_emod_right, Int.emod_eq_of_lt (by omega) (by omega)]
    simp only [IntKind.wrap, IntKind.bits, IntKind.signed, h1]
    rw [if_pos (by simp; omega)]
    omega
theorem wrap_pred {n : Nat} (h : 0 < n) (h2 : n < 2 ^ 63) : IntKind.i64.wrap ((n : Int) - 1) = ((n - 1 : Nat) : Int) := by rw [wrap_id (by omega) (by omega)]; omega
theorem hget_cells {H : Heap} {b : Nat} (h : isCells (hget H b) = true) : ∃ ro, hget H b = .cells ro (cellsOf (hget H b)) := by
  cases hb : hget H b with
  | cells ro c => exact ⟨ro, by simp [cellsOf]⟩
  | _ => rw [hb] at h; simp [isCells] at h
theorem Sl.lit {α : Type} {H : Heap} {enc : α → List Value} {e b : Nat} {l : List α} (he : ∀ x, (enc x).length = e) (h : isCells (hget H b) = true) (hc : cellsOf (hget H b) = l.flatMap enc) : Sl H enc e (some ⟨b, 0, none⟩) l := by
  obtain ⟨ro, h1⟩ := hget_cells h
  refine ⟨rfl, fun _ => ⟨ro, _, h1, ?_, ?_⟩⟩
  · rw [hc, flat_len he]; simp
  · rw [hc, List.drop_zero, List.take_of_length_le (by rw [flat_len he]; exact Nat.le_refl _)]

/-- All places from i on are as P says. -/
def allFrom (P : Nat → Bool) (n i : Nat) : Bool := (List.range' i (n - i)).all P
theorem allFrom_step {P : Nat → Bool} {n i : Nat} (h : i < n) : allFrom P n i = (P i && allFrom P n (i + 1)) := by
  unfold allFrom
  rw [show n - i = (n - (i + 1)) + 1 by omega, List.range'_succ, List.all_cons]
theorem allFrom_end {P : Nat → Bool} {n : Nat} : allFrom P n n = true := by simp [allFrom]
theorem allFrom_iff {P : Nat → Bool} {n i : Nat} : allFrom P n i = true ↔ ∀ j, i ≤ j → j < n → P j = true := by
  unfold allFrom
  simp only [List.all_eq_true, List.mem_range'_1]
  exact ⟨fun h j h1 h2 => h j ⟨h1, by omega⟩, fun h j hj => h j hj.1 (by omega)⟩
end Go.AM
