/-
  Joined texts, 4 of 9. A part of the claim that the last text states.
-/
import Derived.Sort.AssemblyPlain
import Derived.Test.YtlmoijifgbkapaaPU3
set_option linter.unusedVariables false
set_option linter.unusedSimpArgs false
namespace Go.AM

/-! ### Slices that are read -/
section
variable {α : Type}
/-- The element at a place, or the type's default. -/
def gt [Inhabited α] (l : List α) (i : Nat) : α := l.getD i default
theorem gt_lt [Inhabited α] {l : List α} {i : Nat} (h : i < l.length) : gt l i = l[i] := by simp [gt, List.getD_eq_getElem?_getD, List.getElem?_eq_getElem h]
theorem gt_cons_zero [Inhabited α] {x : α} {l : List α} : gt (x :: l) 0 = x := rfl
theorem gt_cons_succ [Inhabited α] {x : α} {l : List α} {i : Nat} : gt (x :: l) (i + 1) = gt l i := by simp [gt]
theorem gt_append_left [Inhabited α] {l r : List α} {i : Nat} (h : i < l.length) : gt (l ++ r) i = gt l i := by
  simp [gt, List.getD_eq_getElem?_getD, List.getElem?_append_left h]
theorem gt_append_len [Inhabited α] {l r : List α} {i : Nat} : gt (l ++ r) (l.length + i) = gt r i := by
  unfold gt
  rw [List.getD_eq_getElem?_getD, List.getD_eq_getElem?_getD, List.getElem?_append_right (by omega), Nat.add_sub_cancel_left]
theorem gt_mem [Inhabited α] {l : List α} {i : Nat} (h : i < l.length) : gt l i ∈ l := by rw [gt_lt h]; exact List.getElem_mem h

/-- Where a slice begins. -/
def addrOf (p : Option Addr) : Addr := p.getD ⟨0, 0, none⟩
/-- The address of an element. -/
def elt (p : Option Addr) (e i : Nat) : Addr := (addrOf p).add (i * e)

/-- A slice at p has the elements l, each in e cells. -/
def Sl (H : Heap) (enc : α → List Value) (e : Nat) (p : Option Addr) (l : List α) : Prop :=
  match p with
  | none => l = []
  | some a => a.spot = none ∧ (l ≠ [] → ∃ ro c, hget H a.block = .cells ro c ∧ a.off + l.length * e ≤ c.length ∧ (c.drop a.off).take (l.length * e) = l.flatMap enc)

theorem hget_alive {H : Heap} {i : Nat} {ro : Bool} {c : List Value} (h : hget H i = .cells ro c) : i < H.length := by
  rcases Nat.lt_or_ge i H.length with h1 | h1
  · exact h1
  · unfold hget at h
    rw [List.getD_eq_getElem?_getD, List.getElem?_eq_none h1] at h
    cases h

def cellsOf : Blk → List Value | .cells _ c => c | _ => []
def isCells : Blk → Bool | .cells _ _ => true | _ => false
theorem cellsOf_cells {ro : Bool} {c : List Value} : cellsOf (.cells ro c) = c := rfl
theorem isCells_cells {ro : Bool} {c : List Value} : isCells (.cells ro c) = true := id rfl
theorem Sl.app {H : Heap} {enc : α → List Value} {e : Nat} {p : Option Addr} {l : List α} (h : Sl H enc e p l) (X : Heap) : Sl (H ++ X) enc e p l := by
  cases p with
  | none => exact h
  | some a =>
    refine ⟨h.1, fun hn => ?_⟩
    obtain ⟨ro, c, h2, h3⟩ := h.2 hn
    exact ⟨ro, c, by rw [hget_old (hget_alive h2)]; exact h2, h3⟩

/-- Heaps with the same cells. -/
theorem Sl.sim {H G : Heap} {enc : α → List Value} {e : Nat} {p : Option Addr} {l : List α} (h : Sl H enc e p l) (hG : ∀ b ro c, hget H b = .cells ro c → hget G b = .cells ro c) : Sl G enc e p l := by
  cases p with
  | none => exact h
  | some a =>
    refine ⟨h.1, fun hn => ?_⟩
    obtain ⟨ro, c, h2, h3⟩ := h.2 hn
    exact ⟨ro, c, hG _ _ _ h2, h3⟩
theorem flat_len {enc : α → List Value} {e : Nat} (he : ∀ x, (enc x).length = e) (l : List α) : (l.flatMap enc).length = l.length * e := by
  induction l with
  | nil => simp
  | cons x l ih => simp [ih, he, Nat.add_mul, Nat.add_comm]
theorem flat_drop {enc : α → List Value} {e : Nat} (he : ∀ x, (enc x).length = e) : ∀ (l : List α) (i : Nat), i < l.length → [Inhabited α] → ((l.flatMap enc).drop (i * e)).take e = enc (gt l i)
  | [], i, h, _ => by simp at h
  | x :: l, 0, _, _ => by
    rw [List.flatMap_cons, Nat.zero_mul, List.drop_zero, List.take_append_of_le_length (by rw [he]; exact Nat.le_refl _), List.take_of_length_le (by rw [he]; exact Nat.le_refl _)]
    rfl
  | x :: l, i + 1, h, _ => by
    rw [List.flatMap_cons, List.drop_append, List.drop_eq_nil_of_le (by rw [he, Nat.add_mul]; omega), List.nil_append, he, show (i + 1) * e - e = i * e by rw [Nat.add_mul]; omega]
    have := flat_drop he l i (by simpa using h)
    rw [this, gt_cons_succ]

variable [Inhabited α] {H : Heap} {enc : α → List Value} {e : Nat} {p : Option Addr} {l : List α}
theorem Sl.loadCells (h : Sl H enc e p l) (he : ∀ x, (enc x).length = e) {i : Nat} (hi : i < l.length) : AM.loadCells H (elt p e i) e = some (enc (gt l i)) := by
  cases p with
  | none => simp only [Sl] at h; subst h; simp at hi
  | some a =>
    obtain ⟨b, o, s⟩ := a
    obtain ⟨ro, c, h2, h4, h3⟩ := h.2 (by rintro rfl; simp at hi)
    have h1 := h.1
    simp only at h1 h2 h3 h4; subst h1
    have hie : i * e + e ≤ l.length * e := by
      have := Nat.mul_le_mul_right e (Nat.succ_le_of_lt hi)
      rw [Nat.succ_mul] at this; exact this
    have hf := flat_drop he l i hi
    rw [← h3, List.drop_take, List.take_take, List.drop_drop] at hf
    simp only [elt, addrOf, Option.getD_some, addr_add, AM.loadCells, h2]
    rw [if_pos (by omega), ← hf, Nat.min_eq_left (by omega)]
theorem Sl.loadCell (h : Sl H enc e p l) (he : ∀ x, (enc x).length = e) {i j : Nat} (hi : i < l.length) (hj : j < e) : AM.loadCell H ((elt p e i).add j) = (enc (gt l i))[j]? := by
  have h0 := h.loadCells he hi
  cases p with
  | none => simp only [Sl] at h; subst h; simp at hi
  | some a =>
    obtain ⟨b, o, s⟩ := a
    obtain ⟨ro, c, h2, h4, h3⟩ := h.2 (by rintro rfl; simp at hi)
    have h1 := h.1
    simp only at h1 h2 h3 h4; subst h1
    simp only [elt, addrOf, Option.getD_some, addr_add, AM.loadCells, h2] at h0
    split at h0
    · simp only [Option.some.injEq] at h0
      rw [← h0]
      simp only [elt, addrOf, Option.getD_some, addr_add, AM.loadCell, h2, List.getElem?_take, List.getElem?_drop, if_pos hj, Nat.add_assoc]
    · cases h0
theorem Sl.loadCell0 (h : Sl H enc e p l) (he : ∀ x, (enc x).length = e) {i : Nat} (hi : i < l.length) (hj : 0 < e) : AM.loadCell H (elt p e i) = (enc (gt l i))[0]? := by
  rw [← h.loadCell he hi hj]
  congr 1
omit [Inhabited α] in
theorem Sl.idx (h : Sl H enc e p l) {i c : Nat} {k : IntKind} {H1 : Heap} (hi : i < l.length) : idxK e (.slice p l.length c) (.int k (i : Int)) H1 = some (.pointer (some (elt p e i)), H1) := by
  cases p with
  | none => simp only [Sl] at h; subst h; simp at hi
  | some a => exact idxK_nat hi
end

theorem hget_set_eq {X : Heap} {j : Nat} {b : Blk} (h : j < X.length) : hget (X.set j b) j = b := by
  unfold hget; rw [List.getD_eq_getElem?_getD, List.getElem?_set_self h]; rfl
theorem hget_set_ne {X : Heap} {i j : Nat} {b : Blk} (h : i ≠ j) : hget (X.set j b) i = hget X i := by
  unfold hget; rw [List.getD_eq_getElem?_getD, List.getD_eq_getElem?_getD, List.getElem?_set_ne (Ne.symm h)]
theorem find_drop {α : Type} [Inhabited α] {l : List α} {i : Nat} {w : α → Bool} (h : i < l.length) : (l.drop i).find? w = if w (gt l i) = true then some (gt l i) else (l.drop (i + 1)).find? w := by
  rw [List.drop_eq_getElem_cons h, List.find?_cons, gt_lt h]
  split <;> simp_all

theorem idxK_zero {e len c : Nat} {p : Addr} {k : IntKind} {H : Heap} (h : 0 < len) : idxK e (.slice (some p) len c) (.int k 0) H = some (.pointer (some (p.add 0)), H) := by
  have := idxK_nat (e := e) (n := 0) (len := len) (c := c) (p := p) (k := k) (H := H) h
  rw [Nat.zero_mul] at this
  exact this

/-! ### Maps -/
theorem keyOk_int {k : IntKind} {n : Int} : keyOk (.int k) (.int k n) = true := by simp [keyOk]
theorem keyOk_str {b : ByteArray} : keyOk .str (.string b) = true := id rfl
theorem findKey_nil {v : Value} {i : Nat} : findKey v [] i = some none := rfl
theorem findKey_int {k : IntKind} {a b : Int} {v : Value} {es : List (Value × Value)} {i : Nat} : findKey (.int k a) ((.int k b, v) :: es) i = if a = b then some (some (i, v)) else findKey (.int k a) es (i + 1) := by
  simp only [findKey, keyEq, if_true]
  by_cases h : a = b
  · simp [h]
  · have e : (a == b) = false := by simpa using h
    simp [h, e]
theorem mapEntries_some {H : Heap} {r : Nat} : mapEntries H (.map (some r)) = (match hget H r with | .map es => some es | _ => none) := rfl
theorem mapEntries_none {H : Heap} : mapEntries H (.map none) = some [] := rfl
theorem findKey_no {α : Type} {k : IntKind} {a : Int} {f : α → Int} {g : α → Value} : ∀ {l : List α} {i : Nat}, (∀ x ∈ l, f x ≠ a) → findKey (.int k a) (l.map fun x => (.int k (f x), g x)) i = some none
  | [], _, _ => rfl
  | x :: l, i, h => by
    rw [List.map_cons, findKey_int, if_neg (fun e => h x (by simp) e.symm)]
    exact findKey_no fun y hy => h y (by simp [hy])
theorem findKey_yes {α : Type} {k : IntKind} {a : Int} {f : α → Int} {g : α → Value} {v : Value} : ∀ {l : List α} {i : Nat}, (∃ x ∈ l, f x = a) → (∀ x ∈ l, f x = a → g x = v) → ∃ j, findKey (.int k a) (l.map fun x => (.int k (f x), g x)) i = some (some (j, v))
  | [], _, h, _ => by obtain ⟨x, hx, _⟩ := h; simp at hx
  | x :: l, i, h, hv => by
    rw [List.map_cons, findKey_int]
    by_cases e : a = f x
    · exact ⟨i, by rw [if_pos e, hv x (by simp) e.symm]⟩
    · rw [if_neg e]
      refine findKey_yes ?_ fun y hy => hv y (by simp [hy])
      obtain ⟨y, hy, hy2⟩ := h
      rcases List.mem_cons.1 hy with rfl | hy
      · exact absurd hy2.symm e
      · exact ⟨y, hy, hy2⟩

/-! ### Heaps that grow -/
def Ext (H G : Heap) : Prop := ∃ X, G = H ++ X
section
variable {H G : Heap}
theorem Ext.refl : Ext H H := ⟨[], by simp⟩
theorem Ext.app (h : Ext H G) {X : Heap} : Ext H (G ++ X) := by
  obtain ⟨Y, rfl⟩ := h
  exact ⟨Y ++ X, by simp⟩
theorem Ext.trans {K : Heap} (h : Ext H G) (k : Ext G K) : Ext H K := by
  obtain ⟨Y, rfl⟩ := k
  exact h.app
theorem Ext.len (h : Ext H G) : H.length ≤ G.length := by
  obtain ⟨Y, rfl⟩ := h
  simp
theorem Ext.sl {α : Type} {enc : α → List Value} {e : Nat} {p : Option Addr} {l : List α} (h : Ext H G) (hs : Sl H enc e p l) : Sl G enc e p l := by
  obtain ⟨Y, rfl⟩ := h
  exact hs.app Y
theorem Ext.cells (h : Ext H G) {b : Nat} {ro : Bool} {c : List Value} (hs : hget H b = .cells ro c) : hget G b = .cells ro c := by
  obtain ⟨Y, rfl⟩ := h
  rw [hget_old (hget_alive hs)]; exact hs
end

/-! ### Loops -/
section
variable {E : Env} {af : AFunc} {lim : Nat} {K : List AItem} {fr : Nat → Value} {H : Heap} {R : Value → Heap → Prop} {b : ACode}
/-- A loop whose rounds end it, or come again with less. -/
theorem Ret_rounds {S : Type} (m : S → Nat) (I : S → (Nat → Value) → Heap → Prop) (s : S) (h0 : I s fr H)
    (step : ∀ s fr H, I s fr H → (∀ s' fr' H', I s' fr' H' → m s' < m s → Ret E af lim (.inLoop b :: K) fr' H' R) → Ret E af lim (.code b :: .inLoop b :: K) fr H R) :
    Ret E af lim (.code (.loop b) :: K) fr H R := by
  rw [Ret_loop, ← Ret_inLoop]
  have key : ∀ n s fr H, m s ≤ n → I s fr H → Ret E af lim (.inLoop b :: K) fr H R := by
    intro n
    induction n with
    | zero =>
      intro s fr H hm hi
      rw [Ret_inLoop]
      exact step s fr H hi fun s' fr' H' _ hl => absurd hl (by omega)
    | succ n ih =>
      intro s fr H hm hi
      rw [Ret_inLoop]
      exact step s fr H hi fun s' fr' H' hi' hl => ih s' fr' H' (by omega) hi'
  exact key _ s fr H (Nat.le_refl _) h0

theorem CallR.mono {mp : Bool} {g : FuncId} {as : List Value} {Q Q' : Value → Heap → Prop} (h : CallR E mp lim g as H Q) (hq : ∀ v H', Q v H' → Q' v H') : CallR E mp lim g as H Q' := by
  obtain ⟨n, v, H', h1, h2⟩ := h
  exact ⟨n, v, H', h1, hq v H' h2⟩
theorem Ret.mono {k : List AItem} {R' : Value → Heap → Prop} (h : Ret E af lim k fr H R) (hq : ∀ v H', R v H' → R' v H') : Ret E af lim k fr H R' := by
  obtain ⟨n, v, H', h1, h2⟩ := h
  exact ⟨n, v, H', h1, hq v H' h2⟩
theorem Ret_pad {k : List AItem} (h : Ret E af lim k fr (H ++ []) R) : Ret E af lim k fr H R := by rwa [List.append_nil] at h
theorem Ret_exit_eq {k k' : List AItem} {id : Nat} (h : aExit id k = aExit id k') : Ret E af lim (.code (.exit id) :: k) fr H R = Ret E af lim (.code (.exit id) :: k') fr H R := by
  cases hk : aExit id k' with
  | some K' => rw [Ret_exit (h.trans hk), Ret_exit hk]
  | none =>
    have key : ∀ {k : List AItem}, aExit id k = none → ¬ Ret E af lim (.code (.exit id) :: k) fr H R := by
      rintro k hk ⟨n, v, H', hx, _⟩
      cases n with
      | zero => simp [aRun] at hx
      | succ n => rw [aRun.eq_def] at hx; simp only [hk] at hx; cases hx
    exact propext ⟨fun q => absurd q (key (h.trans hk)), fun q => absurd q (key hk)⟩
theorem Ret_exit_code {id : Nat} {c : ACode} : Ret E af lim (.code (.exit id) :: .code c :: K) fr H R = Ret E af lim (.code (.exit id) :: K) fr H R := Ret_exit_eq (by simp [aExit])
theorem Ret_exit_loop {id : Nat} {c : ACode} : Ret E af lim (.code (.exit id) :: .inLoop c :: K) fr H R = Ret E af lim (.code (.exit id) :: K) fr H R := Ret_exit_eq (by simp [aExit])
theorem Ret_exit_other {id id' : Nat} (h : id' ≠ id) : Ret E af lim (.code (.exit id) :: .inBlock id' :: K) fr H R = Ret E af lim (.code (.exit id) :: K) fr H R := Ret_exit_eq (by simp [aExit, h])
theorem Ret_exit_here {id : Nat} : Ret E af lim (.code (.exit id) :: .inBlock id :: K) fr H R = Ret E af lim K fr H R := Ret_exit (by simp [aExit])
theorem Ret_code {c c' : ACode} (h : c = c') : Ret E af lim (.code c :: K) fr H R = Ret E af lim (.code c' :: K) fr H R := by rw [h]
theorem loadCell_lit {b o : Nat} {s : Option Nat} : AM.loadCell H ⟨b, o, s⟩ = (match hget H b with | .cells _ c => c[o]? | _ => none) := rfl
theorem loadCells_lit {b o n : Nat} {s : Option Nat} : AM.loadCells H ⟨b, o, s⟩ n = (match hget H b with | .cells _ c => if o + n ≤ c.length then some ((c.drop o).take n) else none | _ => none) := rfl
theorem storeAt_lit {b o : Nat} {s : Option Nat} {vs : List Value} : AM.storeAt lim H ⟨b, o, s⟩ vs = (match hget H b with | .cells false c => if lim ≤ b ∧ o + vs.length ≤ c.length then some (H.set b (.cells false (setAll c o vs))) else none | _ => none) := rfl
/-- To what a call comes, it comes but to that. -/
theorem CallR.eq {mp : Bool} {g : FuncId} {as : List Value} {Q : Value → Heap → Prop} {v : Value} {H' : Heap} (h : CallR E mp lim g as H fun v' H1 => v' = v ∧ H1 = H') : CallR E mp lim g as H Q = Q v H' := by
  obtain ⟨n, v', H1, h1, rfl, rfl⟩ := h
  exact CallR.det h1
end



/-! ### Cases -/
section
variable {p q : Prop} {t b : Bool}
theorem wantK_undef : wantK undef b p q = q := by unfold undef wantK; rfl
theorem wantK_not : wantK (.bool (!t)) b p q = wantK (.bool t) (!b) p q := by cases t <;> cases b <;> simp [wantK]
theorem condK_not : condK (.bool (!t)) p q = condK (.bool t) q p := by cases t <;> rfl
end
theorem int_lt_cast {a b : Nat} : ((a : Int) < (b : Int)) = (a < b) := by simp
theorem int_le_cast {a b : Nat} : ((a : Int) ≤ (b : Int)) = (a ≤ b) := by simp
theorem int_zero_lt {a : Nat} : ((0 : Int) < (a : Int)) = (0 < a) := by simp
theorem decide_t {p : Prop} [Decidable p] (h : p) : decide p = true := by simp [h]

theorem wrap_id {n : Int} (h1 : -2 ^ 63 ≤ n) (h2 : n < 2 ^ 63) : IntKind.i64.wrap n = n := by
  by_cases h : 0 ≤ n
  · have h1 : n % 2 ^ 64 = n := Int.emod_eq_of_lt h (by omega)
    simp only [IntKind.wrap, IntKind.bits, IntKind.signed, h1]
    rw [if_neg (by simp; omega)]
  · have h1 : n % 2 ^ 64 = n + 2 ^ 64 := by
      rw [← Int.add_emod_right, Int.emod_eq_of_lt (by omega) (by omega)]
    simp only [IntKind.wrap, IntKind.bits, IntKind.signed, h1]
    rw [if_pos (by simp; omega)]
    omega
theorem wrap_pred {n : Nat} (h : 0 < n) (h2 : n < 2 ^ 63) : IntKind.i64.wrap ((n : Int) - 1) = ((n - 1 : Nat) : Int) := by rw [wrap_id (by omega) (by omega)]; omega
theorem hget_cells {H : Heap} {b : Nat} (h : isCells (hget H b) = true) : ∃ ro, hget H b = .cells ro (cellsOf (hget H b)) := by
  cases hb : hget H b with
  | cells ro c => exact ⟨ro, by simp [cellsOf]⟩
  | _ => rw [hb] at h; simp [isCells] at h
theorem Sl.lit {α : Type} {H : Heap} {enc : α → List Value} {e b : Nat} {l : List α} (he : ∀ x, (enc x).length = e) (h : isCells (hget H b) = true) (hc : cellsOf (hget H b) = l.flatMap enc) : Sl H enc e (some ⟨b, 0, none⟩) l := by
  obtain ⟨ro, h1⟩ := hget_cells h
  refine ⟨rfl, fun _ => ⟨ro, _, h1, ?_, ?_⟩⟩
  · rw [hc, flat_len he]; simp
  · rw [hc, List.drop_zero, List.take_of_length_le (by rw [flat_len he]; exact Nat.le_refl _)]

/-- All places from i on are as P says. -/
def allFrom (P : Nat → Bool) (n i : Nat) : Bool := (List.range' i (n - i)).all P
theorem allFrom_step {P : Nat → Bool} {n i : Nat} (h : i < n) : allFrom P n i = (P i && allFrom P n (i + 1)) := by
  unfold allFrom
  rw [show n - i = (n - (i + 1)) + 1 by omega, List.range'_succ, List.all_cons]
theorem allFrom_end {P : Nat → Bool} {n : Nat} : allFrom P n n = true := by simp [allFrom]
theorem allFrom_iff {P : Nat → Bool} {n i : Nat} : allFrom P n i = true ↔ ∀ j, i ≤ j → j < n → P j = true := by
  unfold allFrom
  simp only [List.all_eq_true, List.mem_range'_1]
  exact ⟨fun h j h1 h2 => h j ⟨h1, by omega⟩, fun h j hj => h j hj.1 (by omega)⟩
end Go.AM
set_option linter.unusedVariables false
set_option linter.unusedSimpArgs false
set_option linter.defProp false
namespace Go.AM
set_option maxRecDepth 100000
def SB := And.intro @Ret_seq (And.intro @wantK_tt (And.intro @wantK_ff (And.intro @wantK_tf (And.intro @wantK_ft (And.intro @condK_tt (And.intro @condK_ff (And.intro @int_beq (And.intro @int_bne (And.intro @not_dec (And.intro @fillParts_cons (And.intro @fillParts_nil (And.intro @fillK_some (And.intro @fillV_int (And.intro @fillV_bool (And.intro @fillV_agg (And.intro @setAll_nil (And.intro @setAll_cons (And.intro @Ret_cops (And.intro @Ret_exit_code (And.intro @Ret_exit_loop (And.intro @Ret_exit_other (And.intro @Ret_exit_here (And.intro @Ret_skip (And.intro @Ret_block (And.intro @Ret_inBlock (And.intro @Ret_cond (And.intro @Ret_is (And.intro @Ret_in (And.intro @false_and (And.intro @and_false (And.intro @Ret_ops_nil (And.intro @Ret_ret (And.intro @decide_true (And.intro @gK_none (And.intro @gK_some (And.intro @on_mov (And.intro @on_pick (And.intro @on_bin (And.intro @on_eqv (And.intro @on_un (And.intro @on_conv (And.intro @on_alloc (And.intro @on_box (And.intro @on_build (And.intro @on_buildSlice (And.intro @on_load1 (And.intro @on_loadN (And.intro @on_store (And.intro @on_nilCheck (And.intro @on_fieldAddr (And.intro @on_field1 (And.intro @on_fieldN (And.intro @on_idxAddrA (And.intro @on_idxAddrS (And.intro @on_idxA (And.intro @on_idxStr (And.intro @on_sliceS (And.intro @on_sliceA (And.intro @on_sliceStr (And.intro @on_lenStr (And.intro @on_lenSlice (And.intro @on_lenMap (And.intro @on_lenK (And.intro @on_append (And.intro @on_append0 (And.intro @on_copy (And.intro @on_minmax (And.intro @on_makeSlice (And.intro @on_makeMap (And.intro @on_lookup (And.intro @on_mapUpdate (And.intro @on_delete (And.intro @on_makeFunc (And.intro @on_extract (And.intro @on_b2s (And.intro @on_strId (And.intro @ob_mov (And.intro @ob_pick (And.intro @ob_bin (And.intro @ob_eqv (And.intro @ob_un (And.intro @ob_conv (And.intro @ob_alloc (And.intro @ob_box (And.intro @ob_build (And.intro @ob_buildSlice (And.intro @ob_load1 (And.intro @ob_loadN (And.intro @ob_store (And.intro @ob_nilCheck (And.intro @ob_fieldAddr (And.intro @ob_field1 (And.intro @ob_fieldN (And.intro @ob_idxAddrA (And.intro @ob_idxAddrS (And.intro @ob_idxA (And.intro @ob_idxStr (And.intro @ob_sliceS (And.intro @ob_sliceA (And.intro @ob_sliceStr (And.intro @ob_lenStr (And.intro @ob_lenSlice (And.intro @ob_lenMap (And.intro @ob_lenK (And.intro @ob_append (And.intro @ob_append0 (And.intro @ob_copy (And.intro @ob_minmax (And.intro @ob_makeSlice (And.intro @ob_makeMap (And.intro @ob_lookup (And.intro @ob_mapUpdate (And.intro @ob_delete (And.intro @ob_makeFunc (And.intro @ob_extract (And.intro @ob_b2s (And.intro @ob_strId (And.intro @oK_call (And.intro @oK_callB (And.intro @calK_some (And.intro @List.map_cons.{0,0} (And.intro @List.map_nil.{0,0} (And.intro @Option.map_none.{0,0} (And.intro @mask_nil (And.intro @mask_cons (And.intro @unmask_cons (And.intro @pad_one (And.intro @pad_zero (And.intro @pad_two (And.intro @pad_three (And.intro @Ret_drawn (And.intro @Nat.add_assoc (And.intro @unmask_nil (And.intro @unmask_mask (And.intro @ev_tmp (And.intro @ev_const (And.intro @ev_func (And.intro @upd_same (And.intro @upd_ne (And.intro @not_false_eq_true (And.intro @opK_some (And.intro @Option.map_some.{0,0} (And.intro @List.getD_cons_zero.{0} (And.intro @List.getD_cons_succ.{0} (And.intro @decide_false (And.intro @Bool.false_eq_true (And.intro @not_true_eq_false (And.intro @and_true (And.intro @true_and (And.intro @hget_new (And.intro @hget_new0 (And.intro @hget_old (And.intro @set_new (And.intro @set_new0 (And.intro @List.set_cons_zero.{0} (And.intro @List.set_cons_succ.{0} (And.intro @List.append_assoc.{0} (And.intro @List.cons_append.{0} (And.intro @List.nil_append.{0} (And.intro @storeAt_lit (And.intro @loadCell_lit (And.intro @loadCells_lit (And.intro @idxK_nat (And.intro @List.length_cons.{0} (And.intro @List.length_nil.{0} (And.intro @addr_add (And.intro @List.drop_zero.{0} (And.intro @List.drop_succ_cons.{0} (And.intro @List.take_succ_cons.{0} (And.intro @List.take_zero.{0} (And.intro @Nat.le_refl (And.intro @Nat.le_add_right (And.intro @Nat.zero_add (And.intro @Nat.add_zero (And.intro @result_fin (And.intro @resAll_nil (And.intro @resAll_cons (And.intro @consK_some (And.intro @finK_one (And.intro @finK_more (And.intro @finK_nil (And.intro @cells_agg (And.intro @cells_int (And.intro @cells_bool (And.intro @arr_list (And.intro @arr_size (And.intro @Option.some.injEq.{0} (And.intro @Prod.mk.injEq.{0,0} (And.intro @List.length_append.{0} (And.intro @List.getElem?_cons_zero.{0} (And.intro @List.getElem?_cons_succ.{0} (And.intro @Nat.lt_irrefl (And.intro @and_self (And.intro @int_lt_cast (And.intro @int_le_cast (And.intro @wantK_not (And.intro @condK_not (And.intro @Bool.not_true (And.intro @Bool.not_false (And.intro @Nat.le_add_right_of_le (And.intro @int_zero_lt (And.intro @wantK_undef (And.intro @keyOk_int (And.intro @keyOk_str (And.intro @findKey_nil (And.intro @findKey_int (And.intro @mapEntries_some (And.intro @mapEntries_none (And.intro @Int.cast_ofNat_Int (And.intro @idxK_zero (@Ret_nil)))))))))))))))))))))))))))))))))))))))))))))))))))))))))))))))))))))))))))))))))))))))))))))))))))))))))))))))))))))))))))))))))))))))))))))))))))))))))))))))))))))))))))))))))))))))))))))))))))))))))))))))))))
end Go.AM
namespace Go.Proofs.Ytlmoijifgbkapaa.Fn
open Go.AM Go.AM.Sym
set_option maxRecDepth 100000
set_option linter.unusedVariables false
set_option linter.unusedSimpArgs false
set_option maxHeartbeats 4000000

def orc (g : FuncId) (as : List Value) : Option Value := if g = 10 ∧ as = [] then some (.bool true) else none
def E : Env := ⟨tr, pf, orc⟩
section
variable {mp : Bool} {lim : Nat} {g : FuncId} {as : List Value} {v : Value} {af : AFunc} {H : Heap} {Q : Value → Heap → Prop}
theorem pc (h : g ≠ 10) (ht : tr g = some af) (hp : pf g = true) (hf : flat 4 v = true) (hr : Ret E af H.length [.code af.body] (frame0 as) (H ++ []) fun v' _ => v' = v) : CallR E mp lim g as H Q = Q v H :=
  CallR_pure (E := E) (by simp [E, orc, h]) ht hp hf (Ret_pad hr)
end

theorem in_ok (mp : Bool) (lim : Nat) (n lo hi : Int) (H : Heap) (Q : Value → Heap → Prop) : CallR E mp lim 34 [.int .i64 n, .int .i64 lo, .int .i64 hi] H Q = Q (.bool (decide (lo ≤ n ∧ n ≤ hi))) H := by
  refine pc (by decide) e34 rfl rfl ?_
  rw [b34, c34]
  simp only [n34, r34, SB, Nat.reduceLT, callee, aOp, ne_eq, Nat.reduceEqDiff, aBin, aUn, if_true, if_false, reduceCtorEq, frame0, place, notTuple, Nat.reduceAdd, Nat.reduceLeDiff, resVal, dite_true, dite_false, Int.reduceEq, Int.reduceLT, Int.reduceLE]
  repeat' ((first | refine wantK_dec (fun hw => ?_) (fun hw => ?_) | refine condK_dec (fun hw => ?_) (fun hw => ?_) | refine wantK_any (fun hw => ?_) (fun hw => ?_) | refine condK_any (fun hw => ?_) (fun hw => ?_)) <;> (try simp only [hw, n34, r34, SB, Nat.reduceLT, callee, aOp, ne_eq, Nat.reduceEqDiff, aBin, aUn, if_true, if_false, reduceCtorEq, frame0, place, notTuple, Nat.reduceAdd, Nat.reduceLeDiff, resVal, dite_true, dite_false, Int.reduceEq, Int.reduceLT, Int.reduceLE]))

theorem id_ok (mp : Bool) (lim : Nat) (n : Int) (H : Heap) (Q : Value → Heap → Prop) : CallR E mp lim 32 [.int .i64 n] H Q = Q (.agg #[.int .i64 n, .int .i64 1, .int .i64 999999]) H := by
  refine pc (by decide) e32 rfl rfl ?_
  rw [b32, c32]
  simp only [n32, r32, SB, Nat.reduceLT, callee, aOp, ne_eq, Nat.reduceEqDiff, aBin, aUn, if_true, if_false, reduceCtorEq, frame0, place, notTuple, Nat.reduceAdd, Nat.reduceLeDiff, resVal, dite_true, dite_false, Int.reduceEq, Int.reduceLT, Int.reduceLE]

theorem isNaN_ok (mp : Bool) (lim : Nat) (n : Int) (H : Heap) (Q : Value → Heap → Prop) : CallR E mp lim 67 [.int .i64 n] H Q = Q (.bool false) H := by
  refine pc (by decide) e67 rfl rfl ?_
  rw [b67, c67]
  simp only [n67, r67, SB, Nat.reduceLT, callee, aOp, ne_eq, Nat.reduceEqDiff, aBin, aUn, if_true, if_false, reduceCtorEq, frame0, place, notTuple, Nat.reduceAdd, Nat.reduceLeDiff, resVal, dite_true, dite_false, Int.reduceEq, Int.reduceLT, Int.reduceLE]
theorem isNaN8_ok (mp : Bool) (lim : Nat) (n : Int) (H : Heap) (Q : Value → Heap → Prop) : CallR E mp lim 68 [.int .u8 n] H Q = Q (.bool false) H := by
  refine pc (by decide) e68 rfl rfl ?_
  rw [b68, c68]
  simp only [n68, r68, SB, Nat.reduceLT, callee, aOp, ne_eq, Nat.reduceEqDiff, aBin, aUn, if_true, if_false, reduceCtorEq, frame0, place, notTuple, Nat.reduceAdd, Nat.reduceLeDiff, resVal, dite_true, dite_false, Int.reduceEq, Int.reduceLT, Int.reduceLE]

def cmpI (a b : Int) : Int := if a < b then -1 else if b < a then 1 else 0
theorem cmp_ok (mp : Bool) (lim : Nat) (a b : Int) (H : Heap) (Q : Value → Heap → Prop) : CallR E mp lim 53 [.int .i64 a, .int .i64 b] H Q = Q (.int .i64 (cmpI a b)) H := by
  refine pc (by decide) e53 rfl rfl ?_
  rw [b53, c53]
  simp only [n53, r53, isNaN_ok, SB, Nat.reduceLT, callee, aOp, ne_eq, Nat.reduceEqDiff, aBin, aUn, if_true, if_false, reduceCtorEq, frame0, place, notTuple, Nat.reduceAdd, Nat.reduceLeDiff, resVal, dite_true, dite_false, Int.reduceEq, Int.reduceLT, Int.reduceLE]
  repeat' ((first | refine wantK_dec (fun hw => ?_) (fun hw => ?_) | refine condK_dec (fun hw => ?_) (fun hw => ?_) | refine wantK_any (fun hw => ?_) (fun hw => ?_) | refine condK_any (fun hw => ?_) (fun hw => ?_)) <;> (try simp only [hw, n53, r53, isNaN_ok, SB, Nat.reduceLT, callee, aOp, ne_eq, Nat.reduceEqDiff, aBin, aUn, if_true, if_false, reduceCtorEq, frame0, place, notTuple, Nat.reduceAdd, Nat.reduceLeDiff, resVal, dite_true, dite_false, Int.reduceEq, Int.reduceLT, Int.reduceLE]))
  all_goals simp [cmpI, *]
theorem cmp8_ok (mp : Bool) (lim : Nat) (a b : Int) (H : Heap) (Q : Value → Heap → Prop) : CallR E mp lim 54 [.int .u8 a, .int .u8 b] H Q = Q (.int .i64 (cmpI a b)) H := by
  refine pc (by decide) e54 rfl rfl ?_
  rw [b54, c54]
  simp only [n54, r54, isNaN8_ok, SB, Nat.reduceLT, callee, aOp, ne_eq, Nat.reduceEqDiff, aBin, aUn, if_true, if_false, reduceCtorEq, frame0, place, notTuple, Nat.reduceAdd, Nat.reduceLeDiff, resVal, dite_true, dite_false, Int.reduceEq, Int.reduceLT, Int.reduceLE]
  repeat' ((first | refine wantK_dec (fun hw => ?_) (fun hw => ?_) | refine condK_dec (fun hw => ?_) (fun hw => ?_) | refine wantK_any (fun hw => ?_) (fun hw => ?_) | refine condK_any (fun hw => ?_) (fun hw => ?_)) <;> (try simp only [hw, n54, r54, isNaN8_ok, SB, Nat.reduceLT, callee, aOp, ne_eq, Nat.reduceEqDiff, aBin, aUn, if_true, if_false, reduceCtorEq, frame0, place, notTuple, Nat.reduceAdd, Nat.reduceLeDiff, resVal, dite_true, dite_false, Int.reduceEq, Int.reduceLT, Int.reduceLE]))
  all_goals simp [cmpI, *]

/-- A number and its limits, as it lies. -/
def encL (x : Int × Int × Int) : List Value := [.int .i64 x.1, .int .i64 x.2.1, .int .i64 x.2.2]
def inB (x : Int × Int × Int) : Bool := decide (x.2.1 ≤ x.1 ∧ x.1 ≤ x.2.2)

theorem within_ok (mp : Bool) (lim : Nat) {p : Option Addr} {l : List (Int × Int × Int)} {cap : Nat} {H : Heap} {Q : Value → Heap → Prop} (hs : Sl H encL 3 p l) (hn : l.length < 2 ^ 62) :
    CallR E mp lim 31 [.slice p l.length cap] H Q = Q (.bool (allFrom (fun i => inB (gt l i)) l.length 0)) H := by
  refine pc (by decide) e31 rfl rfl ?_
  rw [b31, c31]
  simp only [n31, r31, SB, Nat.reduceLT, callee, aOp, ne_eq, Nat.reduceEqDiff, aBin, aUn, if_true, if_false, reduceCtorEq, frame0, place, notTuple, Nat.reduceAdd, Nat.reduceLeDiff, resVal, dite_true, dite_false, Int.reduceEq, Int.reduceLT, Int.reduceLE]
  refine Ret_rounds (fun i => l.length - i) (fun i fr G => i ≤ l.length ∧ fr 5 = .slice p l.length cap ∧ fr 6 = .int .i64 (l.length : Int) ∧ fr 7 = .int .i64 (i : Int) ∧ H.length ≤ G.length ∧ Sl G encL 3 p l ∧
    allFrom (fun i => inB (gt l i)) l.length 0 = allFrom (fun i => inB (gt l i)) l.length i) 0 ⟨Nat.zero_le _, (by simp only [upd_same, upd_ne, ne_eq, Nat.reduceEqDiff, not_false_eq_true, frame0, List.getD_cons_zero, List.getD_cons_succ]), (by simp only [upd_same, upd_ne, ne_eq, Nat.reduceEqDiff, not_false_eq_true, frame0, List.getD_cons_zero, List.getD_cons_succ]), by rfl, by simp, hs.app _, rfl⟩ ?_
  intro i fr G ⟨hi, h5, h6, h7, hL, hg, ha⟩ hN
  rw [Ret_code l31_1.eq_1]
  refine Ret_pad ?_
  by_cases hlt : i < l.length
  · have hld := (hg.app []).loadCells (fun _ => rfl) hlt
    have hidx := fun c (k : IntKind) (H1 : Heap) => hg.idx (c := c) (k := k) (H1 := H1) hlt
    have hw1 : IntKind.i64.wrap ((i : Int) + 1) = ((i + 1 : Nat) : Int) := wrap_nat (by omega)
    simp only [n31, r31, h5, h6, h7, hlt, hL, hidx, hld, encL, hw1, SB, Nat.reduceLT, callee, aOp, ne_eq, Nat.reduceEqDiff, aBin, aUn, if_true, if_false, reduceCtorEq, frame0, place, notTuple, Nat.reduceAdd, Nat.reduceLeDiff, resVal, dite_true, dite_false, Int.reduceEq, Int.reduceLT, Int.reduceLE]
    repeat' ((first | refine wantK_dec (fun hw => ?_) (fun hw => ?_) | refine condK_dec (fun hw => ?_) (fun hw => ?_) | refine wantK_any (fun hw => ?_) (fun hw => ?_) | refine condK_any (fun hw => ?_) (fun hw => ?_)) <;> (try simp only [hw, n31, r31, h5, h6, h7, hlt, hL, hidx, hld, encL, hw1, SB, Nat.reduceLT, callee, aOp, ne_eq, Nat.reduceEqDiff, aBin, aUn, if_true, if_false, reduceCtorEq, frame0, place, notTuple, Nat.reduceAdd, Nat.reduceLeDiff, resVal, dite_true, dite_false, Int.reduceEq, Int.reduceLT, Int.reduceLE]))
    · rw [ha, allFrom_step hlt]; simp [inB]; omega
    · rw [ha, allFrom_step hlt]; simp [inB]; omega
    · refine hN (i + 1) _ _ ⟨by omega, (by simp only [h5, upd_same, upd_ne, ne_eq, Nat.reduceEqDiff, not_false_eq_true, frame0, List.getD_cons_zero, List.getD_cons_succ]), (by simp only [h6, upd_same, upd_ne, ne_eq, Nat.reduceEqDiff, not_false_eq_true, frame0, List.getD_cons_zero, List.getD_cons_succ]), (by simp only [upd_same, upd_ne, ne_eq, Nat.reduceEqDiff, not_false_eq_true, frame0, List.getD_cons_zero, List.getD_cons_succ]), by simp; omega, hg.app _, ?_⟩ (by omega)
      rw [ha, allFrom_step hlt]; simp [inB]; omega
  · obtain rfl : i = l.length := by omega
    simp only [n31, r31, h5, h6, h7, hlt, ha, allFrom_end, SB, Nat.reduceLT, callee, aOp, ne_eq, Nat.reduceEqDiff, aBin, aUn, if_true, if_false, reduceCtorEq, frame0, place, notTuple, Nat.reduceAdd, Nat.reduceLeDiff, resVal, dite_true, dite_false, Int.reduceEq, Int.reduceLT, Int.reduceLE]

/-- Numbers and their limits, read off. -/
def rowsOf : List Value → List (Int × Int × Int)
  | .int _ a :: .int _ b :: .int _ c :: r => (a, b, c) :: rowsOf r
  | _ => []
def okRows : List Value → Bool
  | .int .i64 _ :: .int .i64 _ :: .int .i64 _ :: r => okRows r
  | [] => true
  | _ => false
theorem rowsOf_cons {j k l : IntKind} {a b c : Int} {r : List Value} : rowsOf (.int j a :: .int k b :: .int l c :: r) = (a, b, c) :: rowsOf r := rfl
theorem rowsOf_nil : rowsOf [] = [] := rfl
theorem okRows_cons {a b c : Int} {r : List Value} : okRows (.int .i64 a :: .int .i64 b :: .int .i64 c :: r) = okRows r := id rfl
theorem okRows_nil : okRows [] = true := id rfl
theorem rowsOf_ok : ∀ c : List Value, okRows c = true → c = (rowsOf c).flatMap encL
  | [], _ => rfl
  | .int .i64 a :: .int .i64 b :: .int .i64 c :: r, h => by
    rw [rowsOf_cons, List.flatMap_cons, ← rowsOf_ok r h]; rfl
def allIn : List (Int × Int × Int) → Bool
  | [] => true
  | x :: l => inB x && allIn l
theorem allIn_from (l : List (Int × Int × Int)) : allFrom (fun i => inB (gt l i)) l.length 0 = allIn l := by
  induction l with
  | nil => rfl
  | cons x l ih =>
    rw [allFrom_step (by simp), gt_cons_zero, allIn, ← ih]
    congr 1
    rw [Bool.eq_iff_iff, allFrom_iff, allFrom_iff]
    constructor
    · intro h j h1 h2
      have := h (j + 1) (by omega) (by simp; omega)
      rwa [gt_cons_succ] at this
    · intro h j h1 h2
      obtain ⟨j, rfl⟩ : ∃ j', j = j' + 1 := ⟨j - 1, by omega⟩
      rw [gt_cons_succ]
      exact h j (by omega) (by simp at h2; omega)
theorem within_lit {mp : Bool} {lim b n cap : Nat} {H : Heap} {Q : Value → Heap → Prop} (h1 : isCells (hget H b) = true) (h2 : okRows (cellsOf (hget H b)) = true) (h3 : (rowsOf (cellsOf (hget H b))).length = n) (h4 : n < 2 ^ 62) :
    CallR E mp lim 31 [.slice (some ⟨b, 0, none⟩) n cap] H Q = Q (.bool (allIn (rowsOf (cellsOf (hget H b))))) H := by
  subst h3
  rw [within_ok mp lim (Sl.lit (fun _ => rfl) h1 (rowsOf_ok _ h2)) h4, allIn_from]

/-- The first of some numbers that is not zero. -/
def orL : List Int → Int
  | [] => 0
  | x :: l => if x ≠ 0 then x else orL l
def encI (x : Int) : List Value := [.int .i64 x]
theorem orL_drop {l : List Int} {i : Nat} (h : i < l.length) : orL (l.drop i) = if gt l i ≠ 0 then gt l i else orL (l.drop (i + 1)) := by
  rw [List.drop_eq_getElem_cons h, orL, gt_lt h]
theorem or_ok (mp : Bool) (lim : Nat) {p : Option Addr} {l : List Int} {cap : Nat} {H : Heap} {Q : Value → Heap → Prop} (hs : Sl H encI 1 p l) (hn : l.length < 2 ^ 62) :
    CallR E mp lim 52 [.slice p l.length cap] H Q = Q (.int .i64 (orL l)) H := by
  refine pc (by decide) e52 rfl rfl ?_
  rw [b52, c52]
  simp only [n52, r52, SB, Nat.reduceLT, callee, aOp, ne_eq, Nat.reduceEqDiff, aBin, aUn, if_true, if_false, reduceCtorEq, frame0, place, notTuple, Nat.reduceAdd, Nat.reduceLeDiff, resVal, dite_true, dite_false, Int.reduceEq, Int.reduceLT, Int.reduceLE]
  refine Ret_rounds (fun i => l.length - i) (fun i fr G => i ≤ l.length ∧ fr 6 = .slice p l.length cap ∧ fr 7 = .int .i64 (l.length : Int) ∧ fr 8 = .int .i64 (i : Int) ∧ fr 3 = .int .i64 0 ∧ Sl G encI 1 p l ∧
    orL l = orL (l.drop i)) 0 ⟨Nat.zero_le _, (by simp only [upd_same, upd_ne, ne_eq, Nat.reduceEqDiff, not_false_eq_true, frame0, List.getD_cons_zero, List.getD_cons_succ]), (by simp only [upd_same, upd_ne, ne_eq, Nat.reduceEqDiff, not_false_eq_true, frame0, List.getD_cons_zero, List.getD_cons_succ]), by rfl, (by simp only [upd_same, upd_ne, ne_eq, Nat.reduceEqDiff, not_false_eq_true, frame0, List.getD_cons_zero, List.getD_cons_succ]), hs.app _, rfl⟩ ?_
  intro i fr G ⟨hi, h6, h7, h8, h3, hg, ha⟩ hN
  rw [Ret_code l52_1.eq_1]
  refine Ret_pad ?_
  by_cases hlt : i < l.length
  · have hld := (hg.app []).loadCell0 (fun _ => rfl) hlt (by decide)
    have hidx := fun c (k : IntKind) (H1 : Heap) => hg.idx (c := c) (k := k) (H1 := H1) hlt
    have hw1 : IntKind.i64.wrap ((i : Int) + 1) = ((i + 1 : Nat) : Int) := wrap_nat (by omega)
    rw [orL_drop hlt] at ha
    simp only [n52, r52, h6, h7, h8, h3, hlt, hidx, hld, encI, hw1, SB, Nat.reduceLT, callee, aOp, ne_eq, Nat.reduceEqDiff, aBin, aUn, if_true, if_false, reduceCtorEq, frame0, place, notTuple, Nat.reduceAdd, Nat.reduceLeDiff, resVal, dite_true, dite_false, Int.reduceEq, Int.reduceLT, Int.reduceLE]
    repeat' ((first | refine wantK_dec (fun hw => ?_) (fun hw => ?_) | refine condK_dec (fun hw => ?_) (fun hw => ?_) | refine wantK_any (fun hw => ?_) (fun hw => ?_) | refine condK_any (fun hw => ?_) (fun hw => ?_)) <;> (try simp only [hw, n52, r52, h6, h7, h8, h3, hlt, hidx, hld, encI, hw1, SB, Nat.reduceLT, callee, aOp, ne_eq, Nat.reduceEqDiff, aBin, aUn, if_true, if_false, reduceCtorEq, frame0, place, notTuple, Nat.reduceAdd, Nat.reduceLeDiff, resVal, dite_true, dite_false, Int.reduceEq, Int.reduceLT, Int.reduceLE]))
    · rw [ha, if_pos hw]
    · refine hN (i + 1) _ _ ⟨by omega, (by simp only [h6, upd_same, upd_ne, ne_eq, Nat.reduceEqDiff, not_false_eq_true, frame0, List.getD_cons_zero, List.getD_cons_succ]), (by simp only [h7, upd_same, upd_ne, ne_eq, Nat.reduceEqDiff, not_false_eq_true, frame0, List.getD_cons_zero, List.getD_cons_succ]), (by simp only [upd_same, upd_ne, ne_eq, Nat.reduceEqDiff, not_false_eq_true, frame0, List.getD_cons_zero, List.getD_cons_succ]), (by simp only [h3, upd_same, upd_ne, ne_eq, Nat.reduceEqDiff, not_false_eq_true, frame0, List.getD_cons_zero, List.getD_cons_succ]), hg.app _, ?_⟩ (by omega)
      rw [ha, if_neg hw]
  · obtain rfl : i = l.length := by omega
    rw [List.drop_length, orL] at ha
    simp only [n52, r52, h6, h7, h8, h3, hlt, ha, SB, Nat.reduceLT, callee, aOp, ne_eq, Nat.reduceEqDiff, aBin, aUn, if_true, if_false, reduceCtorEq, frame0, place, notTuple, Nat.reduceAdd, Nat.reduceLeDiff, resVal, dite_true, dite_false, Int.reduceEq, Int.reduceLT, Int.reduceLE]

def intsOf : List Value → List Int
  | .int _ a :: r => a :: intsOf r
  | _ => []
def okInts : List Value → Bool
  | .int .i64 _ :: r => okInts r
  | [] => true
  | _ => false
theorem intsOf_cons {j : IntKind} {a : Int} {r : List Value} : intsOf (.int j a :: r) = a :: intsOf r := rfl
theorem intsOf_nil : intsOf [] = [] := rfl
theorem okInts_cons {a : Int} {r : List Value} : okInts (.int .i64 a :: r) = okInts r := id rfl
theorem okInts_nil : okInts [] = true := id rfl
theorem intsOf_ok : ∀ c : List Value, okInts c = true → c = (intsOf c).flatMap encI
  | [], _ => rfl
  | .int .i64 a :: r, h => by
    rw [intsOf_cons, List.flatMap_cons, ← intsOf_ok r h]; rfl
theorem or_lit {mp : Bool} {lim b n cap : Nat} {H : Heap} {Q : Value → Heap → Prop} (h1 : isCells (hget H b) = true) (h2 : okInts (cellsOf (hget H b)) = true) (h3 : (intsOf (cellsOf (hget H b))).length = n) (h4 : n < 2 ^ 62) :
    CallR E mp lim 52 [.slice (some ⟨b, 0, none⟩) n cap] H Q = Q (.int .i64 (orL (intsOf (cellsOf (hget H b))))) H := by
  subst h3
  rw [or_ok mp lim (Sl.lit (fun _ => rfl) h1 (intsOf_ok _ h2)) h4]

/-- A standard. -/
structure Std where
  cls : Int
  frm : Int
  to : Int
  mins : Int
  deriving Inhabited
def encS (x : Std) : List Value := [.int .u8 x.cls, .int .i64 x.frm, .int .i64 x.to, .int .i64 x.mins]
def cmpS (a b : Std) : Int := orL [cmpI a.cls b.cls, cmpI a.frm b.frm, cmpI a.to b.to]
theorem compare_ok {mp : Bool} {lim : Nat} {a1 a2 a3 a4 b1 b2 b3 b4 : Int} {H : Heap} {Q : Value → Heap → Prop} : CallR E mp lim 33 [.agg #[.int .u8 a1, .int .i64 a2, .int .i64 a3, .int .i64 a4], .agg #[.int .u8 b1, .int .i64 b2, .int .i64 b3, .int .i64 b4]] H Q = Q (.int .i64 (cmpS ⟨a1, a2, a3, a4⟩ ⟨b1, b2, b3, b4⟩)) H := by
  refine pc (by decide) e33 rfl rfl ?_
  rw [b33, c33]
  simp only [n33, r33, cmp_ok, cmp8_ok, or_lit, isCells_cells, cellsOf_cells, intsOf_cons, intsOf_nil, okInts_cons, okInts_nil, Nat.reducePow, cmpS, SB, Nat.reduceLT, callee, aOp, ne_eq, Nat.reduceEqDiff, aBin, aUn, if_true, if_false, reduceCtorEq, frame0, place, notTuple, Nat.reduceAdd, Nat.reduceLeDiff, resVal, dite_true, dite_false, Int.reduceEq, Int.reduceLT, Int.reduceLE]

theorem encS_len (x : Std) : (encS x).length = 4 := rfl
theorem std_eta {x : Std} : (⟨x.cls, x.frm, x.to, x.mins⟩ : Std) = x := rfl
def okStd (x : Std) : Bool := decide (1 ≤ x.cls) && allIn [(x.frm, 1, 999999), (x.to, 1, 999999), (x.mins, 0, 100000)]
def okAt (l : List Std) (i : Nat) : Bool := okStd (gt l i) && (decide (i = 0) || decide (cmpS (gt l (i - 1)) (gt l i) < 0))
def right (l : List Std) : Bool := decide (l.length ≤ 500) && allFrom (okAt l) l.length 0

theorem Right_ok (mp : Bool) (lim : Nat) {p : Option Addr} {l : List Std} {cap : Nat} {H : Heap} {Q : Value → Heap → Prop} (hs : Sl H encS 4 p l) (hn : l.length < 2 ^ 62) :
    CallR E mp lim 11 [.slice p l.length cap] H Q = Q (.bool (right l)) H := by
  refine pc (by decide) e11 rfl rfl ?_
  rw [b11, c11]
  simp only [n11, r11, SB, Nat.reduceLT, callee, aOp, ne_eq, Nat.reduceEqDiff, aBin, aUn, if_true, if_false, reduceCtorEq, frame0, place, notTuple, Nat.reduceAdd, Nat.reduceLeDiff, resVal, dite_true, dite_false, Int.reduceEq, Int.reduceLT, Int.reduceLE]
  repeat' ((first | refine wantK_dec (fun hw => ?_) (fun hw => ?_) | refine condK_dec (fun hw => ?_) (fun hw => ?_) | refine wantK_any (fun hw => ?_) (fun hw => ?_) | refine condK_any (fun hw => ?_) (fun hw => ?_)) <;> (try simp only [hw, n11, r11, SB, Nat.reduceLT, callee, aOp, ne_eq, Nat.reduceEqDiff, aBin, aUn, if_true, if_false, reduceCtorEq, frame0, place, notTuple, Nat.reduceAdd, Nat.reduceLeDiff, resVal, dite_true, dite_false, Int.reduceEq, Int.reduceLT, Int.reduceLE]))
  · simp [right]; omega
  have h500 : l.length ≤ 500 := by omega
  refine Ret_rounds (fun i => l.length - i) (fun i fr G => i ≤ l.length ∧ fr 0 = .slice p l.length cap ∧ fr 8 = .slice p l.length cap ∧ fr 9 = .int .i64 (l.length : Int) ∧ fr 10 = .int .i64 (i : Int) ∧ Ext H G ∧
    allFrom (okAt l) l.length 0 = allFrom (okAt l) l.length i) 0 ⟨Nat.zero_le _, (by simp only [upd_same, upd_ne, ne_eq, Nat.reduceEqDiff, not_false_eq_true, frame0, List.getD_cons_zero, List.getD_cons_succ]), (by simp only [upd_same, upd_ne, ne_eq, Nat.reduceEqDiff, not_false_eq_true, frame0, List.getD_cons_zero, List.getD_cons_succ]), (by simp only [upd_same, upd_ne, ne_eq, Nat.reduceEqDiff, not_false_eq_true, frame0, List.getD_cons_zero, List.getD_cons_succ]), by rfl, Ext.refl.app, rfl⟩ ?_
  intro i fr G ⟨hi, h0, h8, h9, h10, hE, ha⟩ hN
  rw [Ret_code l11_1.eq_1]
  refine Ret_pad ?_
  by_cases hlt : i < l.length
  · have hL := hE.len
    have hg := hE.sl hs
    have hld := fun X => (hg.app X).loadCells encS_len hlt
    have hidx := fun c (k : IntKind) (H1 : Heap) => hg.idx (c := c) (k := k) (H1 := H1) hlt
    have hw1 : IntKind.i64.wrap ((i : Int) + 1) = ((i + 1 : Nat) : Int) := wrap_nat (by omega)
    have hw2 : 0 < i → IntKind.i64.wrap ((i : Int) - 1) = ((i - 1 : Nat) : Int) := fun h => wrap_pred h (by omega)
    have hlp := fun (_ : 0 < i) => (by omega : i - 1 < l.length)
    have hldp := fun (h : 0 < i) X => (hg.app X).loadCells encS_len (hlp h)
    have hidxp := fun (h : 0 < i) c (k : IntKind) (H1 : Heap) => hg.idx (c := c) (k := k) (H1 := H1) (hlp h)
    simp only [n11, r11, h0, h8, h9, h10, hlt, hL, hidx, hld, encS, hw1, id_ok, SB, Nat.reduceLT, callee, aOp, ne_eq, Nat.reduceEqDiff, aBin, aUn, if_true, if_false, reduceCtorEq, frame0, place, notTuple, Nat.reduceAdd, Nat.reduceLeDiff, resVal, dite_true, dite_false, Int.reduceEq, Int.reduceLT, Int.reduceLE]
    repeat' ((first | refine wantK_dec (fun hw => ?_) (fun hw => ?_) | refine condK_dec (fun hw => ?_) (fun hw => ?_) | refine wantK_any (fun hw => ?_) (fun hw => ?_) | refine condK_any (fun hw => ?_) (fun hw => ?_)) <;> (try simp only [hw, n11, r11, h0, h8, h9, h10, hlt, hL, hidx, hld, hidxp, hldp, encS, hw1, hw2, id_ok, within_lit, isCells_cells, cellsOf_cells, rowsOf_cons, rowsOf_nil, okRows_cons, okRows_nil, Nat.reducePow, compare_ok, std_eta, SB, Nat.reduceLT, callee, aOp, ne_eq, Nat.reduceEqDiff, aBin, aUn, if_true, if_false, reduceCtorEq, frame0, place, notTuple, Nat.reduceAdd, Nat.reduceLeDiff, resVal, dite_true, dite_false, Int.reduceEq, Int.reduceLT, Int.reduceLE]))
    all_goals first | refine hN (i + 1) _ _ ⟨by omega, (by simp only [h0, upd_same, upd_ne, ne_eq, Nat.reduceEqDiff, not_false_eq_true, frame0, List.getD_cons_zero, List.getD_cons_succ]), (by simp only [h8, upd_same, upd_ne, ne_eq, Nat.reduceEqDiff, not_false_eq_true, frame0, List.getD_cons_zero, List.getD_cons_succ]), (by simp only [h9, upd_same, upd_ne, ne_eq, Nat.reduceEqDiff, not_false_eq_true, frame0, List.getD_cons_zero, List.getD_cons_succ]), (by simp only [upd_same, upd_ne, ne_eq, Nat.reduceEqDiff, not_false_eq_true, frame0, List.getD_cons_zero, List.getD_cons_succ]), hE.app, ?_⟩ (by omega) | skip
    all_goals clear hN; simp only [right, ha, allFrom_step hlt, okAt, okStd]
    all_goals simp [*]
    all_goals omega
  · obtain rfl : i = l.length := by omega
    simp only [n11, r11, h0, h8, h9, h10, hlt, SB, Nat.reduceLT, callee, aOp, ne_eq, Nat.reduceEqDiff, aBin, aUn, if_true, if_false, reduceCtorEq, frame0, place, notTuple, Nat.reduceAdd, Nat.reduceLeDiff, resVal, dite_true, dite_false, Int.reduceEq, Int.reduceLT, Int.reduceLE]
    simp [right, h500, ha, allFrom_end]
end Go.Proofs.Ytlmoijifgbkapaa.Fn
namespace Go.Proofs.Ytlmoijifgbkapaa.Fn
open Go.AM Go.AM.Sym
set_option maxRecDepth 100000
set_option linter.unusedVariables false
set_option linter.unusedSimpArgs false
set_option maxHeartbeats 4000000

def aheadS (a b : Std) : Bool := if a.cls ≠ b.cls then decide (a.cls < b.cls) else if a.frm ≠ b.frm then decide (a.frm < b.frm) else decide (a.to < b.to)
theorem aheadS_cmp (a b : Std) : aheadS a b = decide (cmpS a b < 0) := by
  simp only [aheadS, cmpS, orL, cmpI, ne_eq, ite_not]
  rw [Bool.eq_iff_iff]
  repeat' split
  all_goals simp
  all_goals omega
theorem ahead_ok {mp : Bool} {lim : Nat} {a1 a2 a3 a4 b1 b2 b3 b4 : Int} {H : Heap} {Q : Value → Heap → Prop} : CallR E mp lim 35 [.agg #[.int .u8 a1, .int .i64 a2, .int .i64 a3, .int .i64 a4], .agg #[.int .u8 b1, .int .i64 b2, .int .i64 b3, .int .i64 b4]] H Q = Q (.bool (aheadS ⟨a1, a2, a3, a4⟩ ⟨b1, b2, b3, b4⟩)) H := by
  refine pc (by decide) e35 rfl rfl ?_
  rw [b35, c35]
  simp only [n35, r35, SB, Nat.reduceLT, callee, aOp, ne_eq, Nat.reduceEqDiff, aBin, aUn, if_true, if_false, reduceCtorEq, frame0, place, notTuple, Nat.reduceAdd, Nat.reduceLeDiff, resVal, dite_true, dite_false, Int.reduceEq, Int.reduceLT, Int.reduceLE]
  repeat' ((first | refine wantK_dec (fun hw => ?_) (fun hw => ?_) | refine condK_dec (fun hw => ?_) (fun hw => ?_) | refine wantK_any (fun hw => ?_) (fun hw => ?_) | refine condK_any (fun hw => ?_) (fun hw => ?_)) <;> (try simp only [hw, n35, r35, SB, Nat.reduceLT, callee, aOp, ne_eq, Nat.reduceEqDiff, aBin, aUn, if_true, if_false, reduceCtorEq, frame0, place, notTuple, Nat.reduceAdd, Nat.reduceLeDiff, resVal, dite_true, dite_false, Int.reduceEq, Int.reduceLT, Int.reduceLE]))
  all_goals simp [aheadS, *]

theorem okStd_ref (x : Std) : okStd x = (!decide (x.cls = 0 ∨ x.cls < 0) && decide (1 ≤ x.frm ∧ x.frm ≤ 999999) && decide (1 ≤ x.to ∧ x.to ≤ 999999) && decide (0 ≤ x.mins ∧ x.mins ≤ 100000)) := by
  simp only [okStd, allIn, inB, Bool.and_true]
  rw [Bool.eq_iff_iff]
  simp
  omega

theorem refRight_ok (mp : Bool) (lim : Nat) {p : Option Addr} {l : List Std} {cap : Nat} {H : Heap} {Q : Value → Heap → Prop} (hs : Sl H encS 4 p l) (hn : l.length < 2 ^ 62) (hu : ∀ x ∈ l, 0 ≤ x.cls) :
    CallR E mp lim 12 [.slice p l.length cap] H Q = Q (.bool (right l)) H := by
  refine pc (by decide) e12 rfl rfl ?_
  rw [b12, c12]
  simp only [n12, r12, SB, Nat.reduceLT, callee, aOp, ne_eq, Nat.reduceEqDiff, aBin, aUn, if_true, if_false, reduceCtorEq, frame0, place, notTuple, Nat.reduceAdd, Nat.reduceLeDiff, resVal, dite_true, dite_false, Int.reduceEq, Int.reduceLT, Int.reduceLE]
  refine Ret_rounds (fun i => l.length - i) (fun i fr G => i ≤ l.length ∧ fr 0 = .slice p l.length cap ∧ fr 3 = .int .i64 (i : Int) ∧ Ext H G ∧
    allFrom (okAt l) l.length 0 = allFrom (okAt l) l.length i) 0 ⟨Nat.zero_le _, (by simp only [upd_same, upd_ne, ne_eq, Nat.reduceEqDiff, not_false_eq_true, frame0, List.getD_cons_zero, List.getD_cons_succ]), by rfl, Ext.refl.app, rfl⟩ ?_
  intro i fr G ⟨hi, h0, h3, hE, ha⟩ hN
  rw [Ret_code l12_1.eq_1]
  refine Ret_pad ?_
  by_cases hlt : i < l.length
  · have hL := hE.len
    have hg := hE.sl hs
    have hld := fun X => (hg.app X).loadCells encS_len hlt
    have hidx := fun c (k : IntKind) (H1 : Heap) => hg.idx (c := c) (k := k) (H1 := H1) hlt
    have hw1 : IntKind.i64.wrap ((i : Int) + 1) = ((i + 1 : Nat) : Int) := wrap_nat (by omega)
    have hw2 : 0 < i → IntKind.i64.wrap ((i : Int) - 1) = ((i - 1 : Nat) : Int) := fun h => wrap_pred h (by omega)
    have hlp := fun (_ : 0 < i) => (by omega : i - 1 < l.length)
    have hldp := fun (h : 0 < i) X => (hg.app X).loadCells encS_len (hlp h)
    have hidxp := fun (h : 0 < i) c (k : IntKind) (H1 : Heap) => hg.idx (c := c) (k := k) (H1 := H1) (hlp h)
    have hu' := hu _ (gt_mem hlt)
    simp only [n12, r12, h0, h3, hlt, hL, hidx, hld, encS, hw1, in_ok, SB, Nat.reduceLT, callee, aOp, ne_eq, Nat.reduceEqDiff, aBin, aUn, if_true, if_false, reduceCtorEq, frame0, place, notTuple, Nat.reduceAdd, Nat.reduceLeDiff, resVal, dite_true, dite_false, Int.reduceEq, Int.reduceLT, Int.reduceLE]
    repeat' ((first | refine wantK_dec (fun hw => ?_) (fun hw => ?_) | refine condK_dec (fun hw => ?_) (fun hw => ?_) | refine wantK_any (fun hw => ?_) (fun hw => ?_) | refine condK_any (fun hw => ?_) (fun hw => ?_)) <;> (try simp only [hw, n12, r12, h0, h3, hlt, hL, hidx, hld, hidxp, hldp, encS, hw1, hw2, in_ok, Nat.reducePow, ahead_ok, std_eta, SB, Nat.reduceLT, callee, aOp, ne_eq, Nat.reduceEqDiff, aBin, aUn, if_true, if_false, reduceCtorEq, frame0, place, notTuple, Nat.reduceAdd, Nat.reduceLeDiff, resVal, dite_true, dite_false, Int.reduceEq, Int.reduceLT, Int.reduceLE]))
    all_goals first | refine hN (i + 1) _ _ ⟨by omega, (by simp only [h0, upd_same, upd_ne, ne_eq, Nat.reduceEqDiff, not_false_eq_true, frame0, List.getD_cons_zero, List.getD_cons_succ]), (by simp only [upd_same, upd_ne, ne_eq, Nat.reduceEqDiff, not_false_eq_true, frame0, List.getD_cons_zero, List.getD_cons_succ]), hE.app, ?_⟩ (by omega) | skip
    all_goals clear hN
    all_goals try simp only [aheadS_cmp, decide_eq_true_eq, decide_eq_false_iff_not] at *
    all_goals simp only [right, ha, allFrom_step hlt, okAt, okStd_ref]
    all_goals simp [*]
    all_goals omega
  · obtain rfl : i = l.length := by omega
    simp only [n12, r12, h0, h3, hlt, SB, Nat.reduceLT, callee, aOp, ne_eq, Nat.reduceEqDiff, aBin, aUn, if_true, if_false, reduceCtorEq, frame0, place, notTuple, Nat.reduceAdd, Nat.reduceLeDiff, resVal, dite_true, dite_false, Int.reduceEq, Int.reduceLT, Int.reduceLE]
    simp [right, ha, allFrom_end]
    omega

def wantS (c f t : Int) (x : Std) : Bool := decide (x.cls = c) && decide (x.frm = f) && decide (x.to = t)
theorem want_ok {mp : Bool} {lim : Nat} {x : Std} {c f t : Int} {b6 b7 b8 : Nat} {r6 r7 r8 : Bool} {H : Heap} {Q : Value → Heap → Prop} (h6 : hget H b6 = .cells r6 [.int .u8 c]) (h7 : hget H b7 = .cells r7 [.int .i64 f]) (h8 : hget H b8 = .cells r8 [.int .i64 t]) :
    CallR E mp lim 62 [.agg (encS x).toArray, .pointer (some ⟨b6, 0, none⟩), .pointer (some ⟨b7, 0, none⟩), .pointer (some ⟨b8, 0, none⟩)] H Q = Q (.bool (wantS c f t x)) H := by
  refine pc (by decide) e62 rfl rfl ?_
  rw [b62, c62]
  have g6 := fun X => (Ext.refl.app (X := X)).cells h6
  have g7 := fun X => (Ext.refl.app (X := X)).cells h7
  have g8 := fun X => (Ext.refl.app (X := X)).cells h8
  simp only [n62, r62, encS, g6, g7, g8, SB, Nat.reduceLT, callee, aOp, ne_eq, Nat.reduceEqDiff, aBin, aUn, if_true, if_false, reduceCtorEq, frame0, place, notTuple, Nat.reduceAdd, Nat.reduceLeDiff, resVal, dite_true, dite_false, Int.reduceEq, Int.reduceLT, Int.reduceLE]
  repeat' ((first | refine wantK_dec (fun hw => ?_) (fun hw => ?_) | refine condK_dec (fun hw => ?_) (fun hw => ?_) | refine wantK_any (fun hw => ?_) (fun hw => ?_) | refine condK_any (fun hw => ?_) (fun hw => ?_)) <;> (try simp only [hw, n62, r62, encS, g6, g7, g8, SB, Nat.reduceLT, callee, aOp, ne_eq, Nat.reduceEqDiff, aBin, aUn, if_true, if_false, reduceCtorEq, frame0, place, notTuple, Nat.reduceAdd, Nat.reduceLeDiff, resVal, dite_true, dite_false, Int.reduceEq, Int.reduceLT, Int.reduceLE]))
  all_goals simp [wantS, *]

theorem find_ok {mp : Bool} {lim : Nat} {p : Option Addr} {l : List Std} {cap : Nat} {H : Heap} {Q : Value → Heap → Prop} {g' : FuncId} {cs : List Value} (w : Std → Bool) (hs : Sl H encS 4 p l) (hn : l.length < 2 ^ 62)
    (hcl : ∀ (X : Heap) (lim : Nat) (x : Std) (Q : Value → Heap → Prop), CallR E false lim g' (.agg (encS x).toArray :: cs) (H ++ X) Q = Q (.bool (w x)) (H ++ X)) :
    CallR E mp lim 61 [.slice p l.length cap, .func (.func g') #[] cs.toArray] H Q = Q (.tuple #[.agg (encS ((l.find? w).getD default)).toArray, .bool (l.find? w).isSome]) H := by
  refine pc (by decide) e61 rfl rfl ?_
  rw [b61, c61]
  simp only [n61, r61, SB, Nat.reduceLT, callee, aOp, ne_eq, Nat.reduceEqDiff, aBin, aUn, if_true, if_false, reduceCtorEq, frame0, place, notTuple, Nat.reduceAdd, Nat.reduceLeDiff, resVal, dite_true, dite_false, Int.reduceEq, Int.reduceLT, Int.reduceLE]
  refine Ret_rounds (fun i => l.length - i) (fun i fr G => i ≤ l.length ∧ fr 9 = .slice p l.length cap ∧ fr 1 = .func (.func g') #[] cs.toArray ∧ fr 10 = .int .i64 (l.length : Int) ∧ fr 11 = .int .i64 (i : Int) ∧
    fr 4 = .pointer (some ⟨H.length, 0, none⟩) ∧ Ext H G ∧ hget G H.length = .cells false [.int .u8 0, .int .i64 0, .int .i64 0, .int .i64 0] ∧ 
    l.find? w = (l.drop i).find? w) 0 ⟨Nat.zero_le _, (by simp only [upd_same, upd_ne, ne_eq, Nat.reduceEqDiff, not_false_eq_true, frame0, List.getD_cons_zero, List.getD_cons_succ]), (by simp only [upd_same, upd_ne, ne_eq, Nat.reduceEqDiff, not_false_eq_true, frame0, List.getD_cons_zero, List.getD_cons_succ]), (by simp only [upd_same, upd_ne, ne_eq, Nat.reduceEqDiff, not_false_eq_true, frame0, List.getD_cons_zero, List.getD_cons_succ]), by rfl, (by simp only [upd_same, upd_ne, ne_eq, Nat.reduceEqDiff, not_false_eq_true, frame0, List.getD_cons_zero, List.getD_cons_succ]), Ext.refl.app, hget_new0, rfl⟩ ?_
  intro i fr G ⟨hi, h9, h1, h10, h11, h4, hE, hz, ha⟩ hN
  rw [Ret_code l61_1.eq_1]
  refine Ret_pad ?_
  have hL := hE.len
  have hzl := hget_alive hz
  have hz' := fun X => (Ext.refl.app (X := X)).cells hz
  by_cases hlt : i < l.length
  · have hg := hE.sl hs
    have hld := fun X => (hg.app X).loadCells encS_len hlt
    have hidx := fun c (k : IntKind) (H1 : Heap) => hg.idx (c := c) (k := k) (H1 := H1) hlt
    have hw1 : IntKind.i64.wrap ((i : Int) + 1) = ((i + 1 : Nat) : Int) := wrap_nat (by omega)
    rw [find_drop hlt] at ha
    have hcl' : ∀ (X : Heap) (lim : Nat) (x : Std) (Q : Value → Heap → Prop), CallR E false lim g' (.agg (encS x).toArray :: cs) (G ++ X) Q = Q (.bool (w x)) (G ++ X) := by
      obtain ⟨Y, rfl⟩ := hE
      intro X lim x Q
      rw [List.append_assoc]; exact hcl _ _ _ _
    simp only [encS] at hcl'
    simp only [n61, r61, h9, h1, h10, h11, h4, hlt, hL, hidx, hld, encS, hw1, hcl', SB, Nat.reduceLT, callee, aOp, ne_eq, Nat.reduceEqDiff, aBin, aUn, if_true, if_false, reduceCtorEq, frame0, place, notTuple, Nat.reduceAdd, Nat.reduceLeDiff, resVal, dite_true, dite_false, Int.reduceEq, Int.reduceLT, Int.reduceLE]
    repeat' ((first | refine wantK_dec (fun hw => ?_) (fun hw => ?_) | refine condK_dec (fun hw => ?_) (fun hw => ?_) | refine wantK_any (fun hw => ?_) (fun hw => ?_) | refine condK_any (fun hw => ?_) (fun hw => ?_)) <;> (try simp only [hw, n61, r61, h9, h1, h10, h11, h4, hlt, hL, hidx, hld, encS, hw1, hcl', hz', hget_set_eq, List.length_set, Nat.lt_add_right, hzl, find_drop, SB, Nat.reduceLT, callee, aOp, ne_eq, Nat.reduceEqDiff, aBin, aUn, if_true, if_false, reduceCtorEq, frame0, place, notTuple, Nat.reduceAdd, Nat.reduceLeDiff, resVal, dite_true, dite_false, Int.reduceEq, Int.reduceLT, Int.reduceLE]))
    · rw [ha, if_pos hw]; rfl
    · refine hN (i + 1) _ _ ⟨by omega, (by simp only [h9, upd_same, upd_ne, ne_eq, Nat.reduceEqDiff, not_false_eq_true, frame0, List.getD_cons_zero, List.getD_cons_succ]), (by simp only [h1, upd_same, upd_ne, ne_eq, Nat.reduceEqDiff, not_false_eq_true, frame0, List.getD_cons_zero, List.getD_cons_succ]), (by simp only [h10, upd_same, upd_ne, ne_eq, Nat.reduceEqDiff, not_false_eq_true, frame0, List.getD_cons_zero, List.getD_cons_succ]), (by simp only [upd_same, upd_ne, ne_eq, Nat.reduceEqDiff, not_false_eq_true, frame0, List.getD_cons_zero, List.getD_cons_succ]), (by simp only [h4, upd_same, upd_ne, ne_eq, Nat.reduceEqDiff, not_false_eq_true, frame0, List.getD_cons_zero, List.getD_cons_succ]), hE.app, hz' _, ?_⟩ (by omega)
      rw [ha, if_neg (by simp [hw])]
  · obtain rfl : i = l.length := by omega
    rw [List.drop_length, List.find?_nil] at ha
    simp only [n61, r61, h9, h1, h10, h11, h4, hlt, ha, hz', hzl, hL, hget_set_eq, List.length_set, Nat.lt_add_right, SB, Nat.reduceLT, callee, aOp, ne_eq, Nat.reduceEqDiff, aBin, aUn, if_true, if_false, reduceCtorEq, frame0, place, notTuple, Nat.reduceAdd, Nat.reduceLeDiff, resVal, dite_true, dite_false, Int.reduceEq, Int.reduceLT, Int.reduceLE]
    rfl
end Go.Proofs.Ytlmoijifgbkapaa.Fn
namespace Go.Proofs.Ytlmoijifgbkapaa.Fn
open Go.AM Go.AM.Sym
set_option maxRecDepth 100000
set_option linter.unusedVariables false
set_option linter.unusedSimpArgs false
set_option maxHeartbeats 4000000

def findS (l : List Std) (c f t : Int) : Option Std := l.find? (wantS c f t)
/-- The last minute of the day in which a number of minutes ends. -/
def dayEnd (n : Int) : Int := n.tdiv 1440 * 1440 + 1440 - 1
theorem dayEnd_pos {n : Int} (h : 0 ≤ n) : dayEnd n = n / 1440 * 1440 + 1439 := by
  rw [dayEnd, Int.tdiv_eq_ediv_of_nonneg h]; omega

theorem find_right {l : List Std} {w : Std → Bool} {x : Std} (h : l.find? w = some x) (hr : right l = true) : okStd x = true := by
  obtain ⟨i, hi, rfl⟩ := List.mem_iff_getElem.1 (List.mem_of_find?_eq_some h)
  simp only [right, Bool.and_eq_true, allFrom_iff] at hr
  have := hr.2 i (Nat.zero_le _) hi
  simp only [okAt, Bool.and_eq_true, gt_lt hi] at this
  exact this.1

/-- What 'promise' gives: the minute, whether there is a standard, whether it is in time. -/
def prom (l : List Std) (c f t a : Int) : Int × Bool × Bool :=
  match findS l c f t with
  | none => (0, false, false)
  | some x => if 1051898399 < a ∨ 1051898399 < dayEnd (a + x.mins) then (0, true, false) else (dayEnd (a + x.mins), true, true)

theorem promise_ok {mp : Bool} {lim : Nat} {p : Option Addr} {l : List Std} {cap : Nat} {c f t a : Int} {H : Heap} {Q : Value → Heap → Prop} (hs : Sl H encS 4 p l) (hn : l.length < 2 ^ 62) (hr : right l = true) (ha : 0 ≤ a) :
    CallR E mp lim 40 [.slice p l.length cap, .int .u8 c, .int .i64 f, .int .i64 t, .int .i64 a] H Q = Q (.tuple #[.int .i64 (prom l c f t a).1, .bool (prom l c f t a).2.1, .bool (prom l c f t a).2.2]) H := by
  refine pc (by decide) e40 rfl rfl ?_
  rw [b40, c40]
  have hf : ∀ (mp : Bool) (lim : Nat) (G : Heap) (Q : Value → Heap → Prop), Ext (H ++ [.cells false [.int .u8 c], .cells false [.int .i64 f], .cells false [.int .i64 t]]) G →
      CallR E mp lim 61 [.slice p l.length cap, .func (.func 62) #[] #[.pointer (some ⟨H.length, 0, none⟩), .pointer (some ⟨H.length + 1, 0, none⟩), .pointer (some ⟨H.length + 2, 0, none⟩)]] G Q = Q (.tuple #[.agg (encS ((findS l c f t).getD default)).toArray, .bool (findS l c f t).isSome]) G := by
    intro mp lim G Q hG
    refine find_ok (cs := [.pointer (some ⟨H.length, 0, none⟩), .pointer (some ⟨H.length + 1, 0, none⟩), .pointer (some ⟨H.length + 2, 0, none⟩)]) (wantS c f t) (hG.sl (hs.app _)) hn fun X lim x Q => ?_
    exact want_ok ((hG.app (X := X)).cells (hget_new0)) ((hG.app (X := X)).cells (hget_new)) ((hG.app (X := X)).cells (hget_new))
  cases hfs : findS l c f t with
  | none => 
    simp only [n40, r40, hf, Ext.refl, encS, hfs, Option.isSome_none, Option.getD_none, SB, Nat.reduceLT, callee, aOp, ne_eq, Nat.reduceEqDiff, aBin, aUn, if_true, if_false, reduceCtorEq, frame0, place, notTuple, Nat.reduceAdd, Nat.reduceLeDiff, resVal, dite_true, dite_false, Int.reduceEq, Int.reduceLT, Int.reduceLE]
    simp [prom, hfs]
  | some x =>
    have hx := find_right hfs hr
    simp [okStd, allIn, inB] at hx
    have hw1 : ¬ 1051898399 < a → IntKind.i64.wrap (a + x.mins) = a + x.mins := fun h => wrap_id (by omega) (by omega)
    have hw2 : ¬ 1051898399 < a → IntKind.i64.wrap ((a + x.mins).tdiv 1440) = (a + x.mins).tdiv 1440 := fun h => by rw [Int.tdiv_eq_ediv_of_nonneg (by omega)]; exact wrap_id (by omega) (by omega)
    have hw3 : ¬ 1051898399 < a → IntKind.i64.wrap ((a + x.mins).tdiv 1440 * 1440) = (a + x.mins).tdiv 1440 * 1440 := fun h => by rw [Int.tdiv_eq_ediv_of_nonneg (by omega)]; exact wrap_id (by omega) (by omega)
    have hw4 : ¬ 1051898399 < a → IntKind.i64.wrap ((a + x.mins).tdiv 1440 * 1440 + 1440) = (a + x.mins).tdiv 1440 * 1440 + 1440 := fun h => by rw [Int.tdiv_eq_ediv_of_nonneg (by omega)]; exact wrap_id (by omega) (by omega)
    have hw5 : ¬ 1051898399 < a → IntKind.i64.wrap ((a + x.mins).tdiv 1440 * 1440 + 1440 - 1) = dayEnd (a + x.mins) := fun h => by rw [Int.tdiv_eq_ediv_of_nonneg (by omega), dayEnd, Int.tdiv_eq_ediv_of_nonneg (by omega)]; exact wrap_id (by omega) (by omega)
    simp only [n40, r40, hf, Ext.refl, encS, hfs, Option.isSome_some, Option.getD_some, SB, Nat.reduceLT, callee, aOp, ne_eq, Nat.reduceEqDiff, aBin, aUn, if_true, if_false, reduceCtorEq, frame0, place, notTuple, Nat.reduceAdd, Nat.reduceLeDiff, resVal, dite_true, dite_false, Int.reduceEq, Int.reduceLT, Int.reduceLE]
    repeat' ((first | refine wantK_dec (fun hw => ?_) (fun hw => ?_) | refine condK_dec (fun hw => ?_) (fun hw => ?_) | refine wantK_any (fun hw => ?_) (fun hw => ?_) | refine condK_any (fun hw => ?_) (fun hw => ?_)) <;> (try simp only [hw, n40, r40, hw1, hw2, hw3, hw4, hw5, SB, Nat.reduceLT, callee, aOp, ne_eq, Nat.reduceEqDiff, aBin, aUn, if_true, if_false, reduceCtorEq, frame0, place, notTuple, Nat.reduceAdd, Nat.reduceLeDiff, resVal, dite_true, dite_false, Int.reduceEq, Int.reduceLT, Int.reduceLE]))
    all_goals simp [prom, hfs, *]

/-- What 'Promise' gives: the minute and the error. -/
def promiseS (l : List Std) (c f t a : Int) : Int × Int :=
  if right l = false ∨ a < 0 then (0, 2) else
  match findS l c f t with
  | none => (0, 6)
  | some x => if 1051898399 < a + x.mins then (0, 3) else (dayEnd (a + x.mins), 0)

theorem dayEnd_lt {n : Int} (h : 0 ≤ n) : 1051898399 < dayEnd n ↔ 1051898399 < n := by rw [dayEnd_pos h]; omega
theorem promise_prom {l : List Std} {c f t a : Int} (hr : right l = true) (ha : ¬ a < 0) : promiseS l c f t a = if (prom l c f t a).2.1 = false then (0, 6) else if (prom l c f t a).2.2 = false then (0, 3) else ((prom l c f t a).1, 0) := by
  cases hfs : findS l c f t with
  | none => simp [promiseS, prom, hr, ha, hfs]
  | some x =>
    have hx := find_right hfs hr
    simp [okStd, allIn, inB] at hx
    have hd := dayEnd_lt (n := a + x.mins) (by omega)
    by_cases h : 1051898399 < a + x.mins
    · simp [promiseS, prom, hr, ha, hfs, h, hd]
    · simp [promiseS, prom, hr, ha, hfs, h, hd, show ¬ 1051898399 < a by omega]

theorem Promise_ok {mp : Bool} {lim : Nat} {p : Option Addr} {l : List Std} {cap : Nat} {c f t a : Int} {H : Heap} {Q : Value → Heap → Prop} (hs : Sl H encS 4 p l) (hn : l.length < 2 ^ 62) :
    CallR E mp lim 16 [.slice p l.length cap, .int .u8 c, .int .i64 f, .int .i64 t, .int .i64 a] H Q = Q (.tuple #[.int .i64 (promiseS l c f t a).1, .int .i64 (promiseS l c f t a).2]) H := by
  refine pc (by decide) e16 rfl rfl ?_
  rw [b16, c16]
  have hR := fun mp lim X Q => Right_ok mp lim (cap := cap) (Q := Q) (hs.app X) hn
  have hP := fun (hr : right l = true) (ha : ¬ a < 0) mp lim X Q => promise_ok (c := c) (f := f) (t := t) (mp := mp) (lim := lim) (cap := cap) (Q := Q) (hs.app X) hn hr (by omega : 0 ≤ a)
  simp only [n16, r16, hR, SB, Nat.reduceLT, callee, aOp, ne_eq, Nat.reduceEqDiff, aBin, aUn, if_true, if_false, reduceCtorEq, frame0, place, notTuple, Nat.reduceAdd, Nat.reduceLeDiff, resVal, dite_true, dite_false, Int.reduceEq, Int.reduceLT, Int.reduceLE]
  repeat' ((first | refine wantK_dec (fun hw => ?_) (fun hw => ?_) | refine condK_dec (fun hw => ?_) (fun hw => ?_) | refine wantK_any (fun hw => ?_) (fun hw => ?_) | refine condK_any (fun hw => ?_) (fun hw => ?_)) <;> (try simp only [*, n16, r16, hP, SB, Nat.reduceLT, callee, aOp, ne_eq, Nat.reduceEqDiff, aBin, aUn, if_true, if_false, reduceCtorEq, frame0, place, notTuple, Nat.reduceAdd, Nat.reduceLeDiff, resVal, dite_true, dite_false, Int.reduceEq, Int.reduceLT, Int.reduceLE]))
  all_goals clear hR hP
  all_goals first
    | (rw [promise_prom (by assumption) (by assumption)]; simp [*]; done)
    | (simp [promiseS, *]; done)

theorem refPromise_ok {mp : Bool} {lim : Nat} {p : Option Addr} {l : List Std} {cap : Nat} {c f t a : Int} {H : Heap} {Q : Value → Heap → Prop} (hs : Sl H encS 4 p l) (hn : l.length < 2 ^ 62) (hu : ∀ x ∈ l, 0 ≤ x.cls) :
    CallR E mp lim 36 [.slice p l.length cap, .int .u8 c, .int .i64 f, .int .i64 t, .int .i64 a] H Q = Q (.tuple #[.int .i64 (promiseS l c f t a).1, .int .i64 (promiseS l c f t a).2]) H := by
  refine pc (by decide) e36 rfl rfl ?_
  rw [b36, c36]
  have hR := fun mp lim X Q => refRight_ok mp lim (cap := cap) (Q := Q) (hs.app X) hn hu
  simp only [n36, r36, hR, SB, Nat.reduceLT, callee, aOp, ne_eq, Nat.reduceEqDiff, aBin, aUn, if_true, if_false, reduceCtorEq, frame0, place, notTuple, Nat.reduceAdd, Nat.reduceLeDiff, resVal, dite_true, dite_false, Int.reduceEq, Int.reduceLT, Int.reduceLE]
  by_cases hr : right l = true
  case neg => simp only [n36, r36, hR, hr, SB, Nat.reduceLT, callee, aOp, ne_eq, Nat.reduceEqDiff, aBin, aUn, if_true, if_false, reduceCtorEq, frame0, place, notTuple, Nat.reduceAdd, Nat.reduceLeDiff, resVal, dite_true, dite_false, Int.reduceEq, Int.reduceLT, Int.reduceLE]; simp [promiseS, hr]
  by_cases ha0 : a < 0
  case pos => simp only [n36, r36, hR, hr, ha0, SB, Nat.reduceLT, callee, aOp, ne_eq, Nat.reduceEqDiff, aBin, aUn, if_true, if_false, reduceCtorEq, frame0, place, notTuple, Nat.reduceAdd, Nat.reduceLeDiff, resVal, dite_true, dite_false, Int.reduceEq, Int.reduceLT, Int.reduceLE]; simp [promiseS, ha0]
  simp only [n36, r36, hR, hr, ha0, SB, Nat.reduceLT, callee, aOp, ne_eq, Nat.reduceEqDiff, aBin, aUn, if_true, if_false, reduceCtorEq, frame0, place, notTuple, Nat.reduceAdd, Nat.reduceLeDiff, resVal, dite_true, dite_false, Int.reduceEq, Int.reduceLT, Int.reduceLE]
  refine Ret_rounds (fun i => l.length - i) (fun i fr G => i ≤ l.length ∧ fr 0 = .slice p l.length cap ∧ fr 1 = .int .u8 c ∧ fr 2 = .int .i64 f ∧ fr 3 = .int .i64 t ∧ fr 4 = .int .i64 a ∧ fr 12 = .int .i64 (i : Int) ∧ Ext H G ∧
    findS l c f t = (l.drop i).find? (wantS c f t)) 0 ⟨Nat.zero_le _, (by simp only [upd_same, upd_ne, ne_eq, Nat.reduceEqDiff, not_false_eq_true, frame0, List.getD_cons_zero, List.getD_cons_succ]), (by simp only [upd_same, upd_ne, ne_eq, Nat.reduceEqDiff, not_false_eq_true, frame0, List.getD_cons_zero, List.getD_cons_succ]), (by simp only [upd_same, upd_ne, ne_eq, Nat.reduceEqDiff, not_false_eq_true, frame0, List.getD_cons_zero, List.getD_cons_succ]), (by simp only [upd_same, upd_ne, ne_eq, Nat.reduceEqDiff, not_false_eq_true, frame0, List.getD_cons_zero, List.getD_cons_succ]), (by simp only [upd_same, upd_ne, ne_eq, Nat.reduceEqDiff, not_false_eq_true, frame0, List.getD_cons_zero, List.getD_cons_succ]), by rfl, Ext.refl.app, rfl⟩ ?_
  intro i fr G ⟨hi, h0, h1, h2, h3, h4, h12, hE, ha⟩ hN
  rw [Ret_code l36_1.eq_1]
  refine Ret_pad ?_
  by_cases hlt : i < l.length
  · have hL := hE.len
    have hg := hE.sl hs
    have hld := fun X j hj => (hg.app X).loadCell (j := j) encS_len hlt hj
    have hld0 := fun X => (hg.app X).loadCell0 encS_len hlt (by decide)
    have hidx := fun c (k : IntKind) (H1 : Heap) => hg.idx (c := c) (k := k) (H1 := H1) hlt
    have hw1 : IntKind.i64.wrap ((i : Int) + 1) = ((i + 1 : Nat) : Int) := wrap_nat (by omega)
    rw [find_drop hlt] at ha
    by_cases hw : wantS c f t (gt l i) = true
    · rw [if_pos hw] at ha
      have hx := find_right ha hr
      simp [okStd, allIn, inB] at hx
      simp only [wantS, Bool.and_eq_true, decide_eq_true_eq] at hw
      have hwr1 : ¬ 1051898399 < a → IntKind.i64.wrap (a + (gt l i).mins) = a + (gt l i).mins := fun h => wrap_id (by omega) (by omega)
      have hwr2 : ¬ 1051898399 < a → IntKind.i64.wrap ((a + (gt l i).mins).tdiv 1440) = (a + (gt l i).mins).tdiv 1440 := fun h => by rw [Int.tdiv_eq_ediv_of_nonneg (by omega)]; exact wrap_id (by omega) (by omega)
      have hwr3 : ¬ 1051898399 < a → IntKind.i64.wrap (1440 * (a + (gt l i).mins).tdiv 1440) = 1440 * (a + (gt l i).mins).tdiv 1440 := fun h => by rw [Int.tdiv_eq_ediv_of_nonneg (by omega)]; exact wrap_id (by omega) (by omega)
      have hwr4 : ¬ 1051898399 < a → IntKind.i64.wrap (1440 * (a + (gt l i).mins).tdiv 1440 + 1439) = dayEnd (a + (gt l i).mins) := fun h => by rw [Int.tdiv_eq_ediv_of_nonneg (by omega), dayEnd_pos (by omega), wrap_id (by omega) (by omega)]; omega
      have hd := dayEnd_lt (n := a + (gt l i).mins) (by omega)
      by_cases c1 : 1051898399 < a
      · have c2 : 1051898399 < a + (gt l i).mins := by omega
        simp only [n36, r36, h0, h1, h2, h3, h4, h12, hlt, hL, hidx, hld, hld0, encS, hw1, hw.1.1, hw.1.2, hw.2, c1, SB, Nat.reduceLT, callee, aOp, ne_eq, Nat.reduceEqDiff, aBin, aUn, if_true, if_false, reduceCtorEq, frame0, place, notTuple, Nat.reduceAdd, Nat.reduceLeDiff, resVal, dite_true, dite_false, Int.reduceEq, Int.reduceLT, Int.reduceLE]
        simp [promiseS, ha, hr, ha0, c2]
      · by_cases c2 : 1051898399 < a + (gt l i).mins
        · simp only [n36, r36, h0, h1, h2, h3, h4, h12, hlt, hL, hidx, hld, hld0, encS, hw1, hw.1.1, hw.1.2, hw.2, c1, c2, hwr1, SB, Nat.reduceLT, callee, aOp, ne_eq, Nat.reduceEqDiff, aBin, aUn, if_true, if_false, reduceCtorEq, frame0, place, notTuple, Nat.reduceAdd, Nat.reduceLeDiff, resVal, dite_true, dite_false, Int.reduceEq, Int.reduceLT, Int.reduceLE]
          simp [promiseS, ha, hr, ha0, c2]
        · simp only [n36, r36, h0, h1, h2, h3, h4, h12, hlt, hL, hidx, hld, hld0, encS, hw1, hw.1.1, hw.1.2, hw.2, c1, c2, hwr1, hwr2, hwr3, hwr4, SB, Nat.reduceLT, callee, aOp, ne_eq, Nat.reduceEqDiff, aBin, aUn, if_true, if_false, reduceCtorEq, frame0, place, notTuple, Nat.reduceAdd, Nat.reduceLeDiff, resVal, dite_true, dite_false, Int.reduceEq, Int.reduceLT, Int.reduceLE]
          simp [promiseS, ha, hr, ha0, c2]
    · rw [if_neg hw] at ha
      have hw' : ¬ (gt l i).cls = c ∨ (gt l i).cls = c ∧ ¬ (gt l i).frm = f ∨ (gt l i).cls = c ∧ (gt l i).frm = f ∧ ¬ (gt l i).to = t := by
        simp [wantS] at hw
        by_cases q1 : (gt l i).cls = c <;> by_cases q2 : (gt l i).frm = f <;> simp_all
      rcases hw' with q1 | ⟨q1, q2⟩ | ⟨q1, q2, q3⟩
      · simp only [n36, r36, h0, h1, h2, h3, h4, h12, hlt, hL, hidx, hld, hld0, encS, hw1, q1, SB, Nat.reduceLT, callee, aOp, ne_eq, Nat.reduceEqDiff, aBin, aUn, if_true, if_false, reduceCtorEq, frame0, place, notTuple, Nat.reduceAdd, Nat.reduceLeDiff, resVal, dite_true, dite_false, Int.reduceEq, Int.reduceLT, Int.reduceLE]
        refine hN (i + 1) _ _ ⟨by omega, (by simp only [h0, upd_same, upd_ne, ne_eq, Nat.reduceEqDiff, not_false_eq_true, frame0, List.getD_cons_zero, List.getD_cons_succ]), (by simp only [h1, upd_same, upd_ne, ne_eq, Nat.reduceEqDiff, not_false_eq_true, frame0, List.getD_cons_zero, List.getD_cons_succ]), (by simp only [h2, upd_same, upd_ne, ne_eq, Nat.reduceEqDiff, not_false_eq_true, frame0, List.getD_cons_zero, List.getD_cons_succ]), (by simp only [h3, upd_same, upd_ne, ne_eq, Nat.reduceEqDiff, not_false_eq_true, frame0, List.getD_cons_zero, List.getD_cons_succ]), (by simp only [h4, upd_same, upd_ne, ne_eq, Nat.reduceEqDiff, not_false_eq_true, frame0, List.getD_cons_zero, List.getD_cons_succ]), (by simp only [upd_same, upd_ne, ne_eq, Nat.reduceEqDiff, not_false_eq_true, frame0, List.getD_cons_zero, List.getD_cons_succ]), hE.app, ha⟩ (by omega)
      · simp only [n36, r36, h0, h1, h2, h3, h4, h12, hlt, hL, hidx, hld, hld0, encS, hw1, q1, q2, SB, Nat.reduceLT, callee, aOp, ne_eq, Nat.reduceEqDiff, aBin, aUn, if_true, if_false, reduceCtorEq, frame0, place, notTuple, Nat.reduceAdd, Nat.reduceLeDiff, resVal, dite_true, dite_false, Int.reduceEq, Int.reduceLT, Int.reduceLE]
        refine hN (i + 1) _ _ ⟨by omega, (by simp only [h0, upd_same, upd_ne, ne_eq, Nat.reduceEqDiff, not_false_eq_true, frame0, List.getD_cons_zero, List.getD_cons_succ]), (by simp only [h1, upd_same, upd_ne, ne_eq, Nat.reduceEqDiff, not_false_eq_true, frame0, List.getD_cons_zero, List.getD_cons_succ]), (by simp only [h2, upd_same, upd_ne, ne_eq, Nat.reduceEqDiff, not_false_eq_true, frame0, List.getD_cons_zero, List.getD_cons_succ]), (by simp only [h3, upd_same, upd_ne, ne_eq, Nat.reduceEqDiff, not_false_eq_true, frame0, List.getD_cons_zero, List.getD_cons_succ]), (by simp only [h4, upd_same, upd_ne, ne_eq, Nat.reduceEqDiff, not_false_eq_true, frame0, List.getD_cons_zero, List.getD_cons_succ]), (by simp only [upd_same, upd_ne, ne_eq, Nat.reduceEqDiff, not_false_eq_true, frame0, List.getD_cons_zero, List.getD_cons_succ]), hE.app, ha⟩ (by omega)
      · simp only [n36, r36, h0, h1, h2, h3, h4, h12, hlt, hL, hidx, hld, hld0, encS, hw1, q1, q2, q3, SB, Nat.reduceLT, callee, aOp, ne_eq, Nat.reduceEqDiff, aBin, aUn, if_true, if_false, reduceCtorEq, frame0, place, notTuple, Nat.reduceAdd, Nat.reduceLeDiff, resVal, dite_true, dite_false, Int.reduceEq, Int.reduceLT, Int.reduceLE]
        refine hN (i + 1) _ _ ⟨by omega, (by simp only [h0, upd_same, upd_ne, ne_eq, Nat.reduceEqDiff, not_false_eq_true, frame0, List.getD_cons_zero, List.getD_cons_succ]), (by simp only [h1, upd_same, upd_ne, ne_eq, Nat.reduceEqDiff, not_false_eq_true, frame0, List.getD_cons_zero, List.getD_cons_succ]), (by simp only [h2, upd_same, upd_ne, ne_eq, Nat.reduceEqDiff, not_false_eq_true, frame0, List.getD_cons_zero, List.getD_cons_succ]), (by simp only [h3, upd_same, upd_ne, ne_eq, Nat.reduceEqDiff, not_false_eq_true, frame0, List.getD_cons_zero, List.getD_cons_succ]), (by simp only [h4, upd_same, upd_ne, ne_eq, Nat.reduceEqDiff, not_false_eq_true, frame0, List.getD_cons_zero, List.getD_cons_succ]), (by simp only [upd_same, upd_ne, ne_eq, Nat.reduceEqDiff, not_false_eq_true, frame0, List.getD_cons_zero, List.getD_cons_succ]), hE.app, ha⟩ (by omega)
  · obtain rfl : i = l.length := by omega
    rw [List.drop_length, List.find?_nil] at ha
    simp only [n36, r36, h0, h1, h2, h3, h4, h12, hlt, SB, Nat.reduceLT, callee, aOp, ne_eq, Nat.reduceEqDiff, aBin, aUn, if_true, if_false, reduceCtorEq, frame0, place, notTuple, Nat.reduceAdd, Nat.reduceLeDiff, resVal, dite_true, dite_false, Int.reduceEq, Int.reduceLT, Int.reduceLE]
    simp [promiseS, ha, hr, ha0]
end Go.Proofs.Ytlmoijifgbkapaa.Fn
namespace Go.Proofs.Ytlmoijifgbkapaa.Fn
open Go.AM Go.AM.Sym
set_option maxRecDepth 100000
set_option linter.unusedVariables false
set_option linter.unusedSimpArgs false
set_option maxHeartbeats 4000000

theorem awake_ok {mp : Bool} {lim : Nat} {H : Heap} {Q : Value → Heap → Prop} : CallR E mp lim 10 [] H Q = Q (.bool true) H := CallR_orc rfl rfl rfl

theorem promises_ok {mp : Bool} {lim : Nat} {p : Option Addr} {l : List Std} {cap : Nat} {c f t a : Int} {H : Heap} {Q : Value → Heap → Prop} (hs : Sl H encS 4 p l) (hn : l.length < 2 ^ 62) (hu : ∀ x ∈ l, 0 ≤ x.cls) :
    CallR E mp lim 13 [.slice p l.length cap, .int .u8 c, .int .i64 f, .int .i64 t, .int .i64 a] H Q = Q (.bool true) H := by
  refine pc (by decide) e13 rfl rfl ?_
  rw [b13, c13]
  have h1 := fun mp lim X Q => Promise_ok (c := c) (f := f) (t := t) (a := a) (mp := mp) (lim := lim) (cap := cap) (Q := Q) (hs.app X) hn
  have h2 := fun mp lim X Q => refPromise_ok (c := c) (f := f) (t := t) (a := a) (mp := mp) (lim := lim) (cap := cap) (Q := Q) (hs.app X) hn hu
  simp only [n13, r13, h1, h2, SB, Nat.reduceLT, callee, aOp, ne_eq, Nat.reduceEqDiff, aBin, aUn, if_true, if_false, reduceCtorEq, frame0, place, notTuple, Nat.reduceAdd, Nat.reduceLeDiff, resVal, dite_true, dite_false, Int.reduceEq, Int.reduceLT, Int.reduceLE]

theorem ClaimPromise_ok {mp : Bool} {lim : Nat} {p : Option Addr} {l : List Std} {cap : Nat} {c f t a : Int} {H : Heap} {Q : Value → Heap → Prop} (hs : Sl H encS 4 p l) (hu : ∀ x ∈ l, 0 ≤ x.cls) :
    CallR E mp lim 3 [.slice p l.length cap, .int .u8 c, .int .i64 f, .int .i64 t, .int .i64 a] H Q = Q (.bool true) H := by
  refine pc (by decide) e3 rfl rfl ?_
  rw [b3, c3]
  by_cases h60 : 60 < (l.length : Int)
  · simp only [n3, r3, h60, awake_ok, SB, Nat.reduceLT, callee, aOp, ne_eq, Nat.reduceEqDiff, aBin, aUn, if_true, if_false, reduceCtorEq, frame0, place, notTuple, Nat.reduceAdd, Nat.reduceLeDiff, resVal, dite_true, dite_false, Int.reduceEq, Int.reduceLT, Int.reduceLE]
  have hn : l.length < 2 ^ 62 := by omega
  have h0 := fun mp lim X Q => Right_ok mp lim (cap := cap) (Q := Q) (hs.app X) hn
  have h1 := fun mp lim X Q => refRight_ok mp lim (cap := cap) (Q := Q) (hs.app X) hn hu
  have h2 := fun (c f t a : Int) mp lim X Q => promises_ok (c := c) (f := f) (t := t) (a := a) (mp := mp) (lim := lim) (cap := cap) (Q := Q) (hs.app X) hn hu
  simp only [n3, r3, h60, h0, h1, h2, aEq, bne_self_eq_false, beq_self_eq_true, SB, Nat.reduceLT, callee, aOp, ne_eq, Nat.reduceEqDiff, aBin, aUn, if_true, if_false, reduceCtorEq, frame0, place, notTuple, Nat.reduceAdd, Nat.reduceLeDiff, resVal, dite_true, dite_false, Int.reduceEq, Int.reduceLT, Int.reduceLE]
  refine Ret_rounds (fun i => l.length - i) (fun i fr G => i ≤ l.length ∧ fr 0 = .slice p l.length cap ∧ fr 4 = .int .i64 a ∧ fr 11 = .int .i64 (i : Int) ∧ Ext H G) 0 ⟨Nat.zero_le _, (by simp only [upd_same, upd_ne, ne_eq, Nat.reduceEqDiff, not_false_eq_true, frame0, List.getD_cons_zero, List.getD_cons_succ]), (by simp only [upd_same, upd_ne, ne_eq, Nat.reduceEqDiff, not_false_eq_true, frame0, List.getD_cons_zero, List.getD_cons_succ]), by rfl, Ext.refl.app⟩ ?_
  intro i fr G ⟨hi, g0, g4, g11, hE⟩ hN
  rw [Ret_code l3_1.eq_1]
  refine Ret_pad ?_
  by_cases hlt : i < l.length
  · have hL := hE.len
    have hg := hE.sl hs
    have hld := fun X j hj => (hg.app X).loadCell (j := j) encS_len hlt hj
    have hld0 := fun X => (hg.app X).loadCell0 encS_len hlt (by decide)
    have hidx := fun c (k : IntKind) (H1 : Heap) => hg.idx (c := c) (k := k) (H1 := H1) hlt
    have hw1 : IntKind.i64.wrap ((i : Int) + 1) = ((i + 1 : Nat) : Int) := wrap_nat (by omega)
    have h2 := fun (c f t a : Int) mp lim X Q => promises_ok (c := c) (f := f) (t := t) (a := a) (mp := mp) (lim := lim) (cap := cap) (Q := Q) (hg.app X) hn hu
    simp only [n3, r3, g0, g4, g11, hlt, hL, hidx, hld, hld0, encS, hw1, h2, SB, Nat.reduceLT, callee, aOp, ne_eq, Nat.reduceEqDiff, aBin, aUn, if_true, if_false, reduceCtorEq, frame0, place, notTuple, Nat.reduceAdd, Nat.reduceLeDiff, resVal, dite_true, dite_false, Int.reduceEq, Int.reduceLT, Int.reduceLE]
    refine hN (i + 1) _ _ ⟨by omega, (by simp only [g0, upd_same, upd_ne, ne_eq, Nat.reduceEqDiff, not_false_eq_true, frame0, List.getD_cons_zero, List.getD_cons_succ]), (by simp only [g4, upd_same, upd_ne, ne_eq, Nat.reduceEqDiff, not_false_eq_true, frame0, List.getD_cons_zero, List.getD_cons_succ]), (by simp only [upd_same, upd_ne, ne_eq, Nat.reduceEqDiff, not_false_eq_true, frame0, List.getD_cons_zero, List.getD_cons_succ]), hE.app⟩ (by omega)
  · obtain rfl : i = l.length := by omega
    simp only [n3, r3, g0, g4, g11, hlt, awake_ok, SB, Nat.reduceLT, callee, aOp, ne_eq, Nat.reduceEqDiff, aBin, aUn, if_true, if_false, reduceCtorEq, frame0, place, notTuple, Nat.reduceAdd, Nat.reduceLeDiff, resVal, dite_true, dite_false, Int.reduceEq, Int.reduceLT, Int.reduceLE]

theorem Pick_ok {mp : Bool} {lim : Nat} {a n : Int} {H : Heap} {Q : Value → Heap → Prop} (hn : 0 < n) (hn' : n < 2 ^ 62) : CallR E mp lim 17 [.int .i64 a, .int .i64 n] H Q = Q (.int .i64 (a % n)) H := by
  refine pc (by decide) e17 rfl rfl ?_
  rw [b17, c17]
  have h1 : ¬ n < 1 := by omega
  have h0 : ¬ n = 0 := by omega
  have hm := Int.emod_nonneg a h0
  have hm2 := Int.emod_lt_of_pos a hn
  have ht : a.tmod n = a % n ∨ a.tmod n = a % n - n ∧ 0 < a % n := by
    have h := Int.tmod_eq_emod (a := a) (b := n)
    by_cases hc : 0 ≤ a ∨ n ∣ a
    · rw [if_pos hc] at h; left; simpa using h
    · rw [if_neg hc] at h
      right
      refine ⟨by omega, ?_⟩
      rcases Int.lt_or_eq_of_le hm with h1 | h1
      · exact h1
      · exact absurd (.inr (Int.dvd_of_emod_eq_zero h1.symm)) hc
  have hv : a.tmod n < 0 → IntKind.i64.wrap (a.tmod n + n) = a % n := by
    intro h
    rw [wrap_id (by omega) (by omega)]; omega
  simp only [n17, r17, h1, h0, SB, Nat.reduceLT, callee, aOp, ne_eq, Nat.reduceEqDiff, aBin, aUn, if_true, if_false, reduceCtorEq, frame0, place, notTuple, Nat.reduceAdd, Nat.reduceLeDiff, resVal, dite_true, dite_false, Int.reduceEq, Int.reduceLT, Int.reduceLE]
  repeat' ((first | refine wantK_dec (fun hw => ?_) (fun hw => ?_) | refine condK_dec (fun hw => ?_) (fun hw => ?_) | refine wantK_any (fun hw => ?_) (fun hw => ?_) | refine condK_any (fun hw => ?_) (fun hw => ?_)) <;> (try simp only [hw, n17, r17, hv, SB, Nat.reduceLT, callee, aOp, ne_eq, Nat.reduceEqDiff, aBin, aUn, if_true, if_false, reduceCtorEq, frame0, place, notTuple, Nat.reduceAdd, Nat.reduceLeDiff, resVal, dite_true, dite_false, Int.reduceEq, Int.reduceLT, Int.reduceLE]))
  simp
  omega

/-! ### The order of standards -/
def LtS (a b : Std) : Prop := a.cls < b.cls ∨ a.cls = b.cls ∧ (a.frm < b.frm ∨ a.frm = b.frm ∧ a.to < b.to)
theorem cmpS_lt {a b : Std} (h : cmpS a b < 0) : LtS a b := by
  have h1 : aheadS a b = true := by rw [aheadS_cmp]; simpa using h
  unfold aheadS at h1
  unfold LtS
  split at h1
  · simp at h1; omega
  · split at h1
    · simp at h1; omega
    · simp at h1; omega
theorem right_lt {l : List Std} (hr : right l = true) {i j : Nat} (hij : i < j) (hj : j < l.length) : LtS (gt l i) (gt l j) := by
  simp only [right, Bool.and_eq_true, allFrom_iff] at hr
  induction j with
  | zero => omega
  | succ j ih =>
    have h1 := hr.2 (j + 1) (Nat.zero_le _) hj
    simp only [okAt, Bool.and_eq_true, Bool.or_eq_true, decide_eq_true_eq, Nat.add_sub_cancel] at h1
    have h2 : LtS (gt l j) (gt l (j + 1)) := by
      rcases h1.2 with h | h
      · omega
      · exact cmpS_lt h
    by_cases hi : i = j
    · subst hi; exact h2
    · have h3 := ih (by omega) (by omega)
      unfold LtS at *
      omega
theorem right_ok {l : List Std} (hr : right l = true) {i : Nat} (hi : i < l.length) : okStd (gt l i) = true := by
  simp only [right, Bool.and_eq_true, allFrom_iff] at hr
  have h1 := hr.2 i (Nat.zero_le _) hi
  simp only [okAt, Bool.and_eq_true] at h1
  exact h1.1
theorem find_at {l : List Std} (hr : right l = true) {i : Nat} (hi : i < l.length) : findS l (gt l i).cls (gt l i).frm (gt l i).to = some (gt l i) := by
  unfold findS
  rw [List.find?_eq_some_iff_getElem]
  refine ⟨by simp [wantS], i, hi, (gt_lt hi).symm, fun j hj => ?_⟩
  have h1 := right_lt hr hj hi
  rw [gt_lt (show j < l.length by omega)] at h1
  unfold LtS at h1
  simp only [wantS, Bool.not_eq_true', Bool.and_eq_false_iff, decide_eq_false_iff_not]
  omega

theorem right_one {x : Std} (h : okStd x = true) : right [x] = true := by
  simp [right, okAt, allFrom, gt, h]

theorem ClaimDays_ok {mp : Bool} {lim : Nat} {p : Option Addr} {l : List Std} {cap : Nat} {at' a d : Int} {H : Heap} {Q : Value → Heap → Prop} (hs : Sl H encS 4 p l) (hd : 0 ≤ d ∧ d < 65536) :
    CallR E mp lim 5 [.slice p l.length cap, .int .i64 at', .int .i64 a, .int .u16 d] H Q = Q (.bool true) H := by
  refine pc (by decide) e5 rfl rfl ?_
  rw [b5, c5]
  by_cases h60 : 60 < (l.length : Int)
  · simp only [n5, r5, awake_ok, h60, SB, Nat.reduceLT, callee, aOp, ne_eq, Nat.reduceEqDiff, aBin, aUn, if_true, if_false, reduceCtorEq, frame0, place, notTuple, Nat.reduceAdd, Nat.reduceLeDiff, resVal, dite_true, dite_false, Int.reduceEq, Int.reduceLT, Int.reduceLE]
  have hn : l.length < 2 ^ 62 := by omega
  have h1 := fun mp lim X Q => Right_ok mp lim (cap := cap) (Q := Q) (hs.app X) hn
  by_cases hr : right l = true
  case neg => simp only [n5, r5, awake_ok, h1, h60, hr, SB, Nat.reduceLT, callee, aOp, ne_eq, Nat.reduceEqDiff, aBin, aUn, if_true, if_false, reduceCtorEq, frame0, place, notTuple, Nat.reduceAdd, Nat.reduceLeDiff, resVal, dite_true, dite_false, Int.reduceEq, Int.reduceLT, Int.reduceLE]
  by_cases h0 : (l.length : Int) = 0
  · simp only [n5, r5, awake_ok, h1, h60, hr, h0, SB, Nat.reduceLT, callee, aOp, ne_eq, Nat.reduceEqDiff, aBin, aUn, if_true, if_false, reduceCtorEq, frame0, place, notTuple, Nat.reduceAdd, Nat.reduceLeDiff, resVal, dite_true, dite_false, Int.reduceEq, Int.reduceLT, Int.reduceLE]
  by_cases ha : a < 0
  · simp only [n5, r5, awake_ok, h1, h60, hr, h0, ha, SB, Nat.reduceLT, callee, aOp, ne_eq, Nat.reduceEqDiff, aBin, aUn, if_true, if_false, reduceCtorEq, frame0, place, notTuple, Nat.reduceAdd, Nat.reduceLeDiff, resVal, dite_true, dite_false, Int.reduceEq, Int.reduceLT, Int.reduceLE]
  by_cases ha2 : 1051898399 < a
  · simp only [n5, r5, awake_ok, h1, h60, hr, h0, ha, ha2, SB, Nat.reduceLT, callee, aOp, ne_eq, Nat.reduceEqDiff, aBin, aUn, if_true, if_false, reduceCtorEq, frame0, place, notTuple, Nat.reduceAdd, Nat.reduceLeDiff, resVal, dite_true, dite_false, Int.reduceEq, Int.reduceLT, Int.reduceLE]
  have hpk := fun mp lim X Q => Pick_ok (mp := mp) (lim := lim) (a := at') (n := (l.length : Int)) (H := H ++ X) (Q := Q) (by omega) (by omega)
  obtain ⟨k, hk⟩ : ∃ k : Nat, at' % (l.length : Int) = (k : Int) := ⟨(at' % (l.length : Int)).toNat, by have := Int.emod_nonneg at' h0; omega⟩
  have hkl : k < l.length := by have := Int.emod_lt_of_pos at' (show (0 : Int) < l.length by omega); omega
  have hx := right_ok hr hkl
  have hfa := find_at hr hkl
  generalize hg : gt l k = x at *
  have hidx := fun c (k1 : IntKind) (H1 : Heap) => hs.idx (c := c) (k := k1) (H1 := H1) hkl
  have hld := fun X => (hs.app X).loadCells encS_len hkl
  rw [hg] at hld
  have hP := fun (c f t a : Int) mp lim X Q => Promise_ok (c := c) (f := f) (t := t) (a := a) (mp := mp) (lim := lim) (cap := cap) (Q := Q) (hs.app X) hn
  have hv : IntKind.i64.wrap d = d := wrap_id (by omega) (by omega)
  have hxr := right_one hx
  have hf1 : findS [x] x.cls x.frm x.to = some x := by simp [findS, wantS]
  have hP1 := fun mp lim Q => Promise_ok (c := x.cls) (f := x.frm) (t := x.to) (a := a) (mp := mp) (lim := lim) (cap := 1) (Q := Q) (l := [x]) (p := some ⟨H.length + 1, 0, none⟩)
    (H := H ++ [.cells false (encS x), .cells false (encS x)]) (Sl.lit encS_len (by rw [hget_new]; rfl) (by rw [hget_new]; rfl)) (by simp)
  simp only [encS, List.length_cons, List.length_nil, Nat.zero_add] at hP1
  simp [okStd, allIn, inB] at hx
  have e1 : promiseS l x.cls x.frm x.to a = if 1051898399 < a + x.mins then (0, 3) else (dayEnd (a + x.mins), 0) := by simp only [promiseS, hr, ha, hfa]; simp
  have e2 : promiseS [x] x.cls x.frm x.to a = if 1051898399 < a + x.mins then (0, 3) else (dayEnd (a + x.mins), 0) := by simp only [promiseS, hxr, ha, hf1]; simp
  have e3 : promiseS l x.cls x.frm x.to (a + d) = if 1051898399 < a + d + x.mins then (0, 3) else (dayEnd (a + d + x.mins), 0) := by simp only [promiseS, hr, (show ¬ a + d < 0 by omega), hfa]; simp
  have w1 : IntKind.i64.wrap (a + x.mins) = a + x.mins := wrap_id (by omega) (by omega)
  have w2 : IntKind.i64.wrap (a + d) = a + d := wrap_id (by omega) (by omega)
  have w3 : IntKind.i64.wrap (a + d + x.mins) = a + d + x.mins := wrap_id (by omega) (by omega)
  by_cases c1 : 1051898399 < a + x.mins
  · simp only [c1, if_true] at e1 e2
    simp only [n5, r5, awake_ok, h1, h60, hr, h0, ha, ha2, hpk, hk, hidx, hld, encS, hP, hP1, e1, e2, w1, c1, SB, Nat.reduceLT, callee, aOp, ne_eq, Nat.reduceEqDiff, aBin, aUn, if_true, if_false, reduceCtorEq, frame0, place, notTuple, Nat.reduceAdd, Nat.reduceLeDiff, resVal, dite_true, dite_false, Int.reduceEq, Int.reduceLT, Int.reduceLE]
  · simp only [c1, if_false] at e1 e2
    have hdp := dayEnd_pos (n := a + x.mins) (by omega)
    have hdq := dayEnd_pos (n := a + d + x.mins) (by omega)
    have w4 : IntKind.i64.wrap (dayEnd (a + x.mins) - a) = dayEnd (a + x.mins) - a := wrap_id (by omega) (by omega)
    have w5 : IntKind.i64.wrap (dayEnd (a + x.mins) - a - x.mins) = dayEnd (a + x.mins) - a - x.mins := wrap_id (by omega) (by omega)
    have f1 : (dayEnd (a + x.mins)).tmod 1440 = 1439 := by rw [Int.tmod_eq_emod_of_nonneg (by omega)]; omega
    have f2 : a + x.mins ≤ dayEnd (a + x.mins) := by omega
    have f3 : dayEnd (a + x.mins) - a - x.mins < 1440 := by omega
    have f4 : dayEnd (a + x.mins) ≤ dayEnd (a + d + x.mins) := by omega
    by_cases c2 : 1051898399 < a + d + x.mins
    · simp only [c2, if_true] at e3
      simp only [n5, r5, awake_ok, h1, h60, hr, h0, ha, ha2, hpk, hk, hidx, hld, encS, hP, hP1, e1, e2, e3, w1, w2, w3, w4, w5, hv, c1, c2, f1, f2, f3, f4, SB, Nat.reduceLT, callee, aOp, ne_eq, Nat.reduceEqDiff, aBin, aUn, if_true, if_false, reduceCtorEq, frame0, place, notTuple, Nat.reduceAdd, Nat.reduceLeDiff, resVal, dite_true, dite_false, Int.reduceEq, Int.reduceLT, Int.reduceLE]
    · simp only [c2, if_false] at e3
      simp only [n5, r5, awake_ok, h1, h60, hr, h0, ha, ha2, hpk, hk, hidx, hld, encS, hP, hP1, e1, e2, e3, w1, w2, w3, w4, w5, hv, c1, c2, f1, f2, f3, f4, SB, Nat.reduceLT, callee, aOp, ne_eq, Nat.reduceEqDiff, aBin, aUn, if_true, if_false, reduceCtorEq, frame0, place, notTuple, Nat.reduceAdd, Nat.reduceLeDiff, resVal, dite_true, dite_false, Int.reduceEq, Int.reduceLT, Int.reduceLE]
end Go.Proofs.Ytlmoijifgbkapaa.Fn
namespace Go.Proofs.Ytlmoijifgbkapaa.Fn
open Go.AM Go.AM.Sym
set_option maxRecDepth 100000
set_option linter.unusedVariables false
set_option linter.unusedSimpArgs false
set_option maxHeartbeats 4000000

theorem Right0_ok {mp : Bool} {lim : Nat} {n : Int} {H : Heap} {Q : Value → Heap → Prop} : CallR E mp lim 88 [.int .i64 n] H Q = Q (.bool (decide (-1000000000000000 ≤ n ∧ n ≤ 1000000000000000))) H := by
  refine pc (by decide) e88 rfl rfl ?_
  rw [b88, c88]
  simp only [n88, r88, SB, Nat.reduceLT, callee, aOp, ne_eq, Nat.reduceEqDiff, aBin, aUn, if_true, if_false, reduceCtorEq, frame0, place, notTuple, Nat.reduceAdd, Nat.reduceLeDiff, resVal, dite_true, dite_false, Int.reduceEq, Int.reduceLT, Int.reduceLE]
  repeat' ((first | refine wantK_dec (fun hw => ?_) (fun hw => ?_) | refine condK_dec (fun hw => ?_) (fun hw => ?_) | refine wantK_any (fun hw => ?_) (fun hw => ?_) | refine condK_any (fun hw => ?_) (fun hw => ?_)) <;> (try simp only [hw, n88, r88, SB, Nat.reduceLT, callee, aOp, ne_eq, Nat.reduceEqDiff, aBin, aUn, if_true, if_false, reduceCtorEq, frame0, place, notTuple, Nat.reduceAdd, Nat.reduceLeDiff, resVal, dite_true, dite_false, Int.reduceEq, Int.reduceLT, Int.reduceLE]))
def shareS (n p : Int) : Int := n / 10000 * p + n % 10000 * p / 10000
theorem part_ok {mp : Bool} {lim : Nat} {n p : Int} {H : Heap} {Q : Value → Heap → Prop} (h1 : 0 ≤ n ∧ n ≤ 1000000000000000) (h2 : 0 ≤ p ∧ p ≤ 10000) :
    CallR E mp lim 89 [.int .i64 n, .int .i64 p, .int .i64 10000] H Q = Q (.tuple #[.int .i64 (shareS n p), .int .i64 (n % 10000 * p % 10000)]) H := by
  refine pc (by decide) e89 rfl rfl ?_
  rw [b89, c89]
  have hq : n.tdiv 10000 = n / 10000 := Int.tdiv_eq_ediv_of_nonneg h1.1
  have hr : n.tmod 10000 = n % 10000 := Int.tmod_eq_emod_of_nonneg h1.1
  have hq1 : 0 ≤ n / 10000 := by omega
  have hq2 : n / 10000 ≤ 100000000000 := by omega
  have hr1 : 0 ≤ n % 10000 := by omega
  have hr2 : n % 10000 < 10000 := by omega
  have hm1 : 0 ≤ n / 10000 * p := Int.mul_nonneg hq1 h2.1
  have hm2 : n / 10000 * p ≤ 100000000000 * 10000 := Int.mul_le_mul hq2 h2.2 h2.1 (by decide)
  have hm3 : 0 ≤ n % 10000 * p := Int.mul_nonneg hr1 h2.1
  have hm4 : n % 10000 * p ≤ 10000 * 10000 := Int.mul_le_mul (by omega) h2.2 h2.1 (by decide)
  have hneg : ¬ n % 10000 < 0 := by omega
  have w1 : IntKind.i64.wrap (n / 10000) = n / 10000 := wrap_id (by omega) (by omega)
  have w2 : IntKind.i64.wrap (n / 10000 * p) = n / 10000 * p := wrap_id (by omega) (by omega)
  have w3 : IntKind.i64.wrap (n % 10000 * p) = n % 10000 * p := wrap_id (by omega) (by omega)
  have hq3 : (n % 10000 * p).tdiv 10000 = n % 10000 * p / 10000 := Int.tdiv_eq_ediv_of_nonneg hm3
  have hr3 : (n % 10000 * p).tmod 10000 = n % 10000 * p % 10000 := Int.tmod_eq_emod_of_nonneg hm3
  have w4 : IntKind.i64.wrap (n % 10000 * p / 10000) = n % 10000 * p / 10000 := wrap_id (by omega) (by omega)
  have w5 : IntKind.i64.wrap (n / 10000 * p + n % 10000 * p / 10000) = shareS n p := wrap_id (by omega) (by omega)
  simp only [n89, r89, hq, hr, hneg, w1, w2, w3, hq3, hr3, w4, w5, SB, Nat.reduceLT, callee, aOp, ne_eq, Nat.reduceEqDiff, aBin, aUn, if_true, if_false, reduceCtorEq, frame0, place, notTuple, Nat.reduceAdd, Nat.reduceLeDiff, resVal, dite_true, dite_false, Int.reduceEq, Int.reduceLT, Int.reduceLE]
theorem zero_ok {mp : Bool} {lim : Nat} {H : Heap} {Q : Value → Heap → Prop} : CallR E mp lim 90 [] H Q = Q (.int .i64 0) H := by
  refine pc (by decide) e90 rfl rfl ?_
  rw [b90, c90]
  simp only [n90, r90, SB, Nat.reduceLT, callee, aOp, ne_eq, Nat.reduceEqDiff, aBin, aUn, if_true, if_false, reduceCtorEq, frame0, place, notTuple, Nat.reduceAdd, Nat.reduceLeDiff, resVal, dite_true, dite_false, Int.reduceEq, Int.reduceLT, Int.reduceLE]
theorem Share_ok {mp : Bool} {lim : Nat} {n p : Int} {H : Heap} {Q : Value → Heap → Prop} (h1 : 0 ≤ n ∧ n ≤ 1000000000000000) (h2 : 0 ≤ p ∧ p ≤ 10000) :
    CallR E mp lim 76 [.int .i64 n, .int .i64 p, .int .u8 1] H Q = Q (.tuple #[.int .i64 (shareS n p), .int .i64 0]) H := by
  refine pc (by decide) e76 rfl rfl ?_
  rw [b76, c76]
  have c1 : -1000000000000000 ≤ n ∧ n ≤ 1000000000000000 := by omega
  have c2 : ¬ p < 0 := by omega
  have c3 : ¬ 10000 < p := by omega
  have hp := fun mp lim H Q => part_ok (mp := mp) (lim := lim) (H := H) (Q := Q) h1 h2
  have w1 : IntKind.i64.wrap (shareS n p + 0) = shareS n p := by
    rw [Int.add_zero]
    have hm1 : 0 ≤ n / 10000 * p := Int.mul_nonneg (by omega) h2.1
    have hm2 : n / 10000 * p ≤ 100000000000 * 10000 := Int.mul_le_mul (by omega) h2.2 h2.1 (by decide)
    have hm3 : 0 ≤ n % 10000 * p := Int.mul_nonneg (by omega) h2.1
    have hm4 : n % 10000 * p ≤ 10000 * 10000 := Int.mul_le_mul (by omega) h2.2 h2.1 (by decide)
    exact wrap_id (by unfold shareS; omega) (by unfold shareS; omega)
  simp only [n76, r76, Right0_ok, c1, c2, c3, hp, zero_ok, w1, SB, Nat.reduceLT, callee, aOp, ne_eq, Nat.reduceEqDiff, aBin, aUn, if_true, if_false, reduceCtorEq, frame0, place, notTuple, Nat.reduceAdd, Nat.reduceLeDiff, resVal, dite_true, dite_false, Int.reduceEq, Int.reduceLT, Int.reduceLE]

/-! ### The table of verdicts -/
/-- What is paid for items of a class. -/
structure Trm where
  cls : Int
  free : Int
  share : Int
  most : Int
  aft : Int
  lmt : Int
  wthn : Int
  deriving Inhabited
/-- An item that was sent. -/
structure Snt where
  item : Int
  cls : Int
  frm : Int
  to : Int
  acc : Int
  del : Int
  deriving Inhabited
/-- A claim. -/
structure Clm where
  id : Int
  item : Int
  tm : Int
  kind : Int
  post : Int
  val : Int
  deriving Inhabited
def encT (x : Trm) : List Value := [.int .u8 x.cls, .int .i64 x.free, .int .i64 x.share, .int .i64 x.most, .int .i64 x.aft, .int .i64 x.lmt, .int .i64 x.wthn]
def encN (x : Snt) : List Value := [.int .i64 x.item, .int .u8 x.cls, .int .i64 x.frm, .int .i64 x.to, .int .i64 x.acc, .int .i64 x.del]
def encC (x : Clm) : List Value := [.int .i64 x.id, .int .i64 x.item, .int .i64 x.tm, .int .u8 x.kind, .int .i64 x.post, .int .i64 x.val]
theorem encT_len (x : Trm) : (encT x).length = 7 := rfl
theorem encN_len (x : Snt) : (encN x).length = 6 := rfl
theorem encC_len (x : Clm) : (encC x).length = 6 := rfl
theorem trm_eta {x : Trm} : (⟨x.cls, x.free, x.share, x.most, x.aft, x.lmt, x.wthn⟩ : Trm) = x := rfl
theorem snt_eta {x : Snt} : (⟨x.item, x.cls, x.frm, x.to, x.acc, x.del⟩ : Snt) = x := rfl
theorem clm_eta {x : Clm} : (⟨x.id, x.item, x.tm, x.kind, x.post, x.val⟩ : Clm) = x := rfl

section
variable {mp : Bool} {lim : Nat} {H : Heap} {Q : Value → Heap → Prop} {c : Clm} {x : Snt} {y : Trm} {p : Int} {kn ht la lo dn : Bool}
theorem row1_ok : CallR E mp lim 69 [.agg #[.int .i64 c.id, .int .i64 c.item, .int .i64 c.tm, .int .u8 c.kind, .int .i64 c.post, .int .i64 c.val, .int .i64 x.item, .int .u8 x.cls, .int .i64 x.frm, .int .i64 x.to, .int .i64 x.acc, .int .i64 x.del, .int .u8 y.cls, .int .i64 y.free, .int .i64 y.share, .int .i64 y.most, .int .i64 y.aft, .int .i64 y.lmt, .int .i64 y.wthn, .int .i64 p, .bool kn, .bool ht, .bool la, .bool lo, .bool dn]] H Q = Q (.bool (!kn)) H := by
  refine pc (by decide) e69 rfl rfl ?_
  rw [b69, c69]
  simp only [n69, r69, SB, Nat.reduceLT, callee, aOp, ne_eq, Nat.reduceEqDiff, aBin, aUn, if_true, if_false, reduceCtorEq, frame0, place, notTuple, Nat.reduceAdd, Nat.reduceLeDiff, resVal, dite_true, dite_false, Int.reduceEq, Int.reduceLT, Int.reduceLE]
theorem row2_ok : CallR E mp lim 70 [.agg #[.int .i64 c.id, .int .i64 c.item, .int .i64 c.tm, .int .u8 c.kind, .int .i64 c.post, .int .i64 c.val, .int .i64 x.item, .int .u8 x.cls, .int .i64 x.frm, .int .i64 x.to, .int .i64 x.acc, .int .i64 x.del, .int .u8 y.cls, .int .i64 y.free, .int .i64 y.share, .int .i64 y.most, .int .i64 y.aft, .int .i64 y.lmt, .int .i64 y.wthn, .int .i64 p, .bool kn, .bool ht, .bool la, .bool lo, .bool dn]] H Q = Q (.bool (!ht)) H := by
  refine pc (by decide) e70 rfl rfl ?_
  rw [b70, c70]
  simp only [n70, r70, SB, Nat.reduceLT, callee, aOp, ne_eq, Nat.reduceEqDiff, aBin, aUn, if_true, if_false, reduceCtorEq, frame0, place, notTuple, Nat.reduceAdd, Nat.reduceLeDiff, resVal, dite_true, dite_false, Int.reduceEq, Int.reduceLT, Int.reduceLE]
theorem row3_ok : CallR E mp lim 71 [.agg #[.int .i64 c.id, .int .i64 c.item, .int .i64 c.tm, .int .u8 c.kind, .int .i64 c.post, .int .i64 c.val, .int .i64 x.item, .int .u8 x.cls, .int .i64 x.frm, .int .i64 x.to, .int .i64 x.acc, .int .i64 x.del, .int .u8 y.cls, .int .i64 y.free, .int .i64 y.share, .int .i64 y.most, .int .i64 y.aft, .int .i64 y.lmt, .int .i64 y.wthn, .int .i64 p, .bool kn, .bool ht, .bool la, .bool lo, .bool dn]] H Q = Q (.bool (decide (IntKind.i64.wrap (p + IntKind.i64.wrap (y.wthn * 1440)) < c.tm))) H := by
  refine pc (by decide) e71 rfl rfl ?_
  rw [b71, c71]
  simp only [n71, r71, SB, Nat.reduceLT, callee, aOp, ne_eq, Nat.reduceEqDiff, aBin, aUn, if_true, if_false, reduceCtorEq, frame0, place, notTuple, Nat.reduceAdd, Nat.reduceLeDiff, resVal, dite_true, dite_false, Int.reduceEq, Int.reduceLT, Int.reduceLE]
theorem row4_ok : CallR E mp lim 72 [.agg #[.int .i64 c.id, .int .i64 c.item, .int .i64 c.tm, .int .u8 c.kind, .int .i64 c.post, .int .i64 c.val, .int .i64 x.item, .int .u8 x.cls, .int .i64 x.frm, .int .i64 x.to, .int .i64 x.acc, .int .i64 x.del, .int .u8 y.cls, .int .i64 y.free, .int .i64 y.share, .int .i64 y.most, .int .i64 y.aft, .int .i64 y.lmt, .int .i64 y.wthn, .int .i64 p, .bool kn, .bool ht, .bool la, .bool lo, .bool dn]] H Q = Q (.bool (la && !dn)) H := by
  refine pc (by decide) e72 rfl rfl ?_
  rw [b72, c72]
  simp only [n72, r72, SB, Nat.reduceLT, callee, aOp, ne_eq, Nat.reduceEqDiff, aBin, aUn, if_true, if_false, reduceCtorEq, frame0, place, notTuple, Nat.reduceAdd, Nat.reduceLeDiff, resVal, dite_true, dite_false, Int.reduceEq, Int.reduceLT, Int.reduceLE]
  repeat' ((first | refine wantK_dec (fun hw => ?_) (fun hw => ?_) | refine condK_dec (fun hw => ?_) (fun hw => ?_) | refine wantK_any (fun hw => ?_) (fun hw => ?_) | refine condK_any (fun hw => ?_) (fun hw => ?_)) <;> (try simp only [hw, n72, r72, Bool.true_and, Bool.false_and, SB, Nat.reduceLT, callee, aOp, ne_eq, Nat.reduceEqDiff, aBin, aUn, if_true, if_false, reduceCtorEq, frame0, place, notTuple, Nat.reduceAdd, Nat.reduceLeDiff, resVal, dite_true, dite_false, Int.reduceEq, Int.reduceLT, Int.reduceLE]))
theorem row5_ok : CallR E mp lim 73 [.agg #[.int .i64 c.id, .int .i64 c.item, .int .i64 c.tm, .int .u8 c.kind, .int .i64 c.post, .int .i64 c.val, .int .i64 x.item, .int .u8 x.cls, .int .i64 x.frm, .int .i64 x.to, .int .i64 x.acc, .int .i64 x.del, .int .u8 y.cls, .int .i64 y.free, .int .i64 y.share, .int .i64 y.most, .int .i64 y.aft, .int .i64 y.lmt, .int .i64 y.wthn, .int .i64 p, .bool kn, .bool ht, .bool la, .bool lo, .bool dn]] H Q = Q (.bool (la && decide (x.del ≤ IntKind.i64.wrap (p + y.free)))) H := by
  refine pc (by decide) e73 rfl rfl ?_
  rw [b73, c73]
  simp only [n73, r73, SB, Nat.reduceLT, callee, aOp, ne_eq, Nat.reduceEqDiff, aBin, aUn, if_true, if_false, reduceCtorEq, frame0, place, notTuple, Nat.reduceAdd, Nat.reduceLeDiff, resVal, dite_true, dite_false, Int.reduceEq, Int.reduceLT, Int.reduceLE]
  repeat' ((first | refine wantK_dec (fun hw => ?_) (fun hw => ?_) | refine condK_dec (fun hw => ?_) (fun hw => ?_) | refine wantK_any (fun hw => ?_) (fun hw => ?_) | refine condK_any (fun hw => ?_) (fun hw => ?_)) <;> (try simp only [hw, n73, r73, Bool.true_and, Bool.false_and, SB, Nat.reduceLT, callee, aOp, ne_eq, Nat.reduceEqDiff, aBin, aUn, if_true, if_false, reduceCtorEq, frame0, place, notTuple, Nat.reduceAdd, Nat.reduceLeDiff, resVal, dite_true, dite_false, Int.reduceEq, Int.reduceLT, Int.reduceLE]))
theorem row6_ok : CallR E mp lim 74 [.agg #[.int .i64 c.id, .int .i64 c.item, .int .i64 c.tm, .int .u8 c.kind, .int .i64 c.post, .int .i64 c.val, .int .i64 x.item, .int .u8 x.cls, .int .i64 x.frm, .int .i64 x.to, .int .i64 x.acc, .int .i64 x.del, .int .u8 y.cls, .int .i64 y.free, .int .i64 y.share, .int .i64 y.most, .int .i64 y.aft, .int .i64 y.lmt, .int .i64 y.wthn, .int .i64 p, .bool kn, .bool ht, .bool la, .bool lo, .bool dn]] H Q = Q (.bool (lo && dn)) H := by
  refine pc (by decide) e74 rfl rfl ?_
  rw [b74, c74]
  simp only [n74, r74, SB, Nat.reduceLT, callee, aOp, ne_eq, Nat.reduceEqDiff, aBin, aUn, if_true, if_false, reduceCtorEq, frame0, place, notTuple, Nat.reduceAdd, Nat.reduceLeDiff, resVal, dite_true, dite_false, Int.reduceEq, Int.reduceLT, Int.reduceLE]
  repeat' ((first | refine wantK_dec (fun hw => ?_) (fun hw => ?_) | refine condK_dec (fun hw => ?_) (fun hw => ?_) | refine wantK_any (fun hw => ?_) (fun hw => ?_) | refine condK_any (fun hw => ?_) (fun hw => ?_)) <;> (try simp only [hw, n74, r74, Bool.true_and, Bool.false_and, SB, Nat.reduceLT, callee, aOp, ne_eq, Nat.reduceEqDiff, aBin, aUn, if_true, if_false, reduceCtorEq, frame0, place, notTuple, Nat.reduceAdd, Nat.reduceLeDiff, resVal, dite_true, dite_false, Int.reduceEq, Int.reduceLT, Int.reduceLE]))
theorem row7_ok : CallR E mp lim 75 [.agg #[.int .i64 c.id, .int .i64 c.item, .int .i64 c.tm, .int .u8 c.kind, .int .i64 c.post, .int .i64 c.val, .int .i64 x.item, .int .u8 x.cls, .int .i64 x.frm, .int .i64 x.to, .int .i64 x.acc, .int .i64 x.del, .int .u8 y.cls, .int .i64 y.free, .int .i64 y.share, .int .i64 y.most, .int .i64 y.aft, .int .i64 y.lmt, .int .i64 y.wthn, .int .i64 p, .bool kn, .bool ht, .bool la, .bool lo, .bool dn]] H Q = Q (.bool (lo && decide (c.tm ≤ IntKind.i64.wrap (p + y.aft)))) H := by
  refine pc (by decide) e75 rfl rfl ?_
  rw [b75, c75]
  simp only [n75, r75, SB, Nat.reduceLT, callee, aOp, ne_eq, Nat.reduceEqDiff, aBin, aUn, if_true, if_false, reduceCtorEq, frame0, place, notTuple, Nat.reduceAdd, Nat.reduceLeDiff, resVal, dite_true, dite_false, Int.reduceEq, Int.reduceLT, Int.reduceLE]
  repeat' ((first | refine wantK_dec (fun hw => ?_) (fun hw => ?_) | refine condK_dec (fun hw => ?_) (fun hw => ?_) | refine wantK_any (fun hw => ?_) (fun hw => ?_) | refine condK_any (fun hw => ?_) (fun hw => ?_)) <;> (try simp only [hw, n75, r75, Bool.true_and, Bool.false_and, SB, Nat.reduceLT, callee, aOp, ne_eq, Nat.reduceEqDiff, aBin, aUn, if_true, if_false, reduceCtorEq, frame0, place, notTuple, Nat.reduceAdd, Nat.reduceLeDiff, resVal, dite_true, dite_false, Int.reduceEq, Int.reduceLT, Int.reduceLE]))
theorem rows_ok : CallR E mp lim 59 [] H Q = Q (.agg #[.func (.func 69) #[] #[], .int .u8 1, .func (.func 70) #[] #[], .int .u8 2, .func (.func 71) #[] #[], .int .u8 3, .func (.func 72) #[] #[], .int .u8 4, .func (.func 73) #[] #[], .int .u8 5, .func (.func 74) #[] #[], .int .u8 5, .func (.func 75) #[] #[], .int .u8 4]) H := by
  refine pc (by decide) e59 rfl rfl ?_
  rw [b59, c59]
  simp only [n59, r59, fillV_func, SB, Nat.reduceLT, callee, aOp, ne_eq, Nat.reduceEqDiff, aBin, aUn, if_true, if_false, reduceCtorEq, frame0, place, notTuple, Nat.reduceAdd, Nat.reduceLeDiff, resVal, dite_true, dite_false, Int.reduceEq, Int.reduceLT, Int.reduceLE]

/-- The verdict, row by row. -/
def decF (c : Clm) (x : Snt) (y : Trm) (p : Int) (kn ht la lo dn : Bool) (paid : Int) : Int × Int :=
  if kn = false then (0, 1) else if ht = false then (0, 2)
  else if IntKind.i64.wrap (p + IntKind.i64.wrap (y.wthn * 1440)) < c.tm then (0, 3)
  else if (la && !dn) = true then (0, 4) else if (la && decide (x.del ≤ IntKind.i64.wrap (p + y.free))) = true then (0, 5)
  else if (lo && dn) = true then (0, 5) else if (lo && decide (c.tm ≤ IntKind.i64.wrap (p + y.aft))) = true then (0, 4) else (paid, 6)
theorem wl1 : IntKind.i64.wrap 1 = 1 := by decide
theorem wl2 : IntKind.i64.wrap 2 = 2 := by decide
theorem wl3 : IntKind.i64.wrap 3 = 3 := by decide
theorem wl4 : IntKind.i64.wrap 4 = 4 := by decide
theorem wl5 : IntKind.i64.wrap 5 = 5 := by decide
theorem wl6 : IntKind.i64.wrap 6 = 6 := by decide
theorem wl7 : IntKind.i64.wrap 7 = 7 := by decide
theorem decide_ok {n : Int} (hp : (∀ v, decF c x y p kn ht la lo dn v = (v, 6)) → ∀ (mp : Bool) (lim : Nat) (H : Heap) (Q : Value → Heap → Prop), CallR E mp lim 60 [.agg #[.int .i64 c.id, .int .i64 c.item, .int .i64 c.tm, .int .u8 c.kind, .int .i64 c.post, .int .i64 c.val, .int .i64 x.item, .int .u8 x.cls, .int .i64 x.frm, .int .i64 x.to, .int .i64 x.acc, .int .i64 x.del, .int .u8 y.cls, .int .i64 y.free, .int .i64 y.share, .int .i64 y.most, .int .i64 y.aft, .int .i64 y.lmt, .int .i64 y.wthn, .int .i64 p, .bool kn, .bool ht, .bool la, .bool lo, .bool dn]] H Q = Q (.int .i64 n) H) :
    CallR E mp lim 39 [.agg #[.int .i64 c.id, .int .i64 c.item, .int .i64 c.tm, .int .u8 c.kind, .int .i64 c.post, .int .i64 c.val, .int .i64 x.item, .int .u8 x.cls, .int .i64 x.frm, .int .i64 x.to, .int .i64 x.acc, .int .i64 x.del, .int .u8 y.cls, .int .i64 y.free, .int .i64 y.share, .int .i64 y.most, .int .i64 y.aft, .int .i64 y.lmt, .int .i64 y.wthn, .int .i64 p, .bool kn, .bool ht, .bool la, .bool lo, .bool dn]] H Q = Q (.agg #[.int .i64 c.id, .int .i64 (decF c x y p kn ht la lo dn n).1, .int .u8 (decF c x y p kn ht la lo dn n).2]) H := by
  refine pc (by decide) e39 rfl rfl ?_
  rw [b39, c39]
  by_cases c1 : kn = false
  · subst c1
    simp only [n39, r39, rows_ok, row1_ok, row2_ok, row3_ok, row4_ok, row5_ok, row6_ok, row7_ok, Ret_loop, Ret_inLoop, l39_1, wl1, wl2, wl3, wl4, wl5, wl6, wl7, Int.reduceAdd, Int.reduceToNat, Int.toNat_zero, Nat.zero_mul, Nat.reduceMul, Int.zero_add, and_self, fillV_func, Int.toNat_one, Nat.one_mul, SB, Nat.reduceLT, callee, aOp, ne_eq, Nat.reduceEqDiff, aBin, aUn, if_true, if_false, reduceCtorEq, frame0, place, notTuple, Nat.reduceAdd, Nat.reduceLeDiff, resVal, dite_true, dite_false, Int.reduceEq, Int.reduceLT, Int.reduceLE]
    simp [decF]
  simp only [Bool.not_eq_false] at c1
  by_cases c2 : ht = false
  · subst c1 c2
    simp only [n39, r39, rows_ok, row1_ok, row2_ok, row3_ok, row4_ok, row5_ok, row6_ok, row7_ok, Ret_loop, Ret_inLoop, l39_1, wl1, wl2, wl3, wl4, wl5, wl6, wl7, Int.reduceAdd, Int.reduceToNat, Int.toNat_zero, Nat.zero_mul, Nat.reduceMul, Int.zero_add, and_self, fillV_func, Int.toNat_one, Nat.one_mul, SB, Nat.reduceLT, callee, aOp, ne_eq, Nat.reduceEqDiff, aBin, aUn, if_true, if_false, reduceCtorEq, frame0, place, notTuple, Nat.reduceAdd, Nat.reduceLeDiff, resVal, dite_true, dite_false, Int.reduceEq, Int.reduceLT, Int.reduceLE]
    simp [decF]
  simp only [Bool.not_eq_false] at c2
  subst c1 c2
  by_cases c3 : IntKind.i64.wrap (p + IntKind.i64.wrap (y.wthn * 1440)) < c.tm
  · simp only [n39, r39, rows_ok, row1_ok, row2_ok, row3_ok, row4_ok, row5_ok, row6_ok, row7_ok, Ret_loop, Ret_inLoop, l39_1, wl1, wl2, wl3, wl4, wl5, wl6, wl7, Int.reduceAdd, Int.reduceToNat, Int.toNat_zero, Nat.zero_mul, Nat.reduceMul, Int.zero_add, and_self, fillV_func, Int.toNat_one, Nat.one_mul, c3, SB, Nat.reduceLT, callee, aOp, ne_eq, Nat.reduceEqDiff, aBin, aUn, if_true, if_false, reduceCtorEq, frame0, place, notTuple, Nat.reduceAdd, Nat.reduceLeDiff, resVal, dite_true, dite_false, Int.reduceEq, Int.reduceLT, Int.reduceLE]
    simp [decF, c3]
  by_cases c4 : (la && !dn) = true
  · simp only [n39, r39, rows_ok, row1_ok, row2_ok, row3_ok, row4_ok, row5_ok, row6_ok, row7_ok, Ret_loop, Ret_inLoop, l39_1, wl1, wl2, wl3, wl4, wl5, wl6, wl7, Int.reduceAdd, Int.reduceToNat, Int.toNat_zero, Nat.zero_mul, Nat.reduceMul, Int.zero_add, and_self, fillV_func, Int.toNat_one, Nat.one_mul, c3, c4, SB, Nat.reduceLT, callee, aOp, ne_eq, Nat.reduceEqDiff, aBin, aUn, if_true, if_false, reduceCtorEq, frame0, place, notTuple, Nat.reduceAdd, Nat.reduceLeDiff, resVal, dite_true, dite_false, Int.reduceEq, Int.reduceLT, Int.reduceLE]
    simp [decF, c3, c4]
  by_cases c5 : (la && decide (x.del ≤ IntKind.i64.wrap (p + y.free))) = true
  · simp only [Bool.not_eq_true] at c4
    simp only [n39, r39, rows_ok, row1_ok, row2_ok, row3_ok, row4_ok, row5_ok, row6_ok, row7_ok, Ret_loop, Ret_inLoop, l39_1, wl1, wl2, wl3, wl4, wl5, wl6, wl7, Int.reduceAdd, Int.reduceToNat, Int.toNat_zero, Nat.zero_mul, Nat.reduceMul, Int.zero_add, and_self, fillV_func, Int.toNat_one, Nat.one_mul, c3, c4, c5, SB, Nat.reduceLT, callee, aOp, ne_eq, Nat.reduceEqDiff, aBin, aUn, if_true, if_false, reduceCtorEq, frame0, place, notTuple, Nat.reduceAdd, Nat.reduceLeDiff, resVal, dite_true, dite_false, Int.reduceEq, Int.reduceLT, Int.reduceLE]
    simp [decF, c3, c4, c5]
  by_cases c6 : (lo && dn) = true
  · simp only [Bool.not_eq_true] at c4 c5
    simp only [n39, r39, rows_ok, row1_ok, row2_ok, row3_ok, row4_ok, row5_ok, row6_ok, row7_ok, Ret_loop, Ret_inLoop, l39_1, wl1, wl2, wl3, wl4, wl5, wl6, wl7, Int.reduceAdd, Int.reduceToNat, Int.toNat_zero, Nat.zero_mul, Nat.reduceMul, Int.zero_add, and_self, fillV_func, Int.toNat_one, Nat.one_mul, c3, c4, c5, c6, SB, Nat.reduceLT, callee, aOp, ne_eq, Nat.reduceEqDiff, aBin, aUn, if_true, if_false, reduceCtorEq, frame0, place, notTuple, Nat.reduceAdd, Nat.reduceLeDiff, resVal, dite_true, dite_false, Int.reduceEq, Int.reduceLT, Int.reduceLE]
    simp [decF, c3, c4, c5, c6]
  by_cases c7 : (lo && decide (c.tm ≤ IntKind.i64.wrap (p + y.aft))) = true
  · simp only [Bool.not_eq_true] at c4 c5 c6
    simp only [n39, r39, rows_ok, row1_ok, row2_ok, row3_ok, row4_ok, row5_ok, row6_ok, row7_ok, Ret_loop, Ret_inLoop, l39_1, wl1, wl2, wl3, wl4, wl5, wl6, wl7, Int.reduceAdd, Int.reduceToNat, Int.toNat_zero, Nat.zero_mul, Nat.reduceMul, Int.zero_add, and_self, fillV_func, Int.toNat_one, Nat.one_mul, c3, c4, c5, c6, c7, SB, Nat.reduceLT, callee, aOp, ne_eq, Nat.reduceEqDiff, aBin, aUn, if_true, if_false, reduceCtorEq, frame0, place, notTuple, Nat.reduceAdd, Nat.reduceLeDiff, resVal, dite_true, dite_false, Int.reduceEq, Int.reduceLT, Int.reduceLE]
    simp only [decF, c3, c4, c5, c6, c7]
    simp
  · simp only [Bool.not_eq_true] at c4 c5 c6 c7
    have hp := hp fun v => by simp only [decF, c3, c4, c5, c6, c7]; simp
    simp only [n39, r39, rows_ok, row1_ok, row2_ok, row3_ok, row4_ok, row5_ok, row6_ok, row7_ok, Ret_loop, Ret_inLoop, l39_1, wl1, wl2, wl3, wl4, wl5, wl6, wl7, Int.reduceAdd, Int.reduceToNat, Int.toNat_zero, Nat.zero_mul, Nat.reduceMul, Int.zero_add, and_self, fillV_func, Int.toNat_one, Nat.one_mul, c3, c4, c5, c6, c7, hp, SB, Nat.reduceLT, callee, aOp, ne_eq, Nat.reduceEqDiff, aBin, aUn, if_true, if_false, reduceCtorEq, frame0, place, notTuple, Nat.reduceAdd, Nat.reduceLeDiff, resVal, dite_true, dite_false, Int.reduceEq, Int.reduceLT, Int.reduceLE]
    simp only [decF, c3, c4, c5, c6, c7]
    simp
theorem paid_ok {n : Int} (h : lo = true ∧ n = IntKind.i64.wrap ((if y.lmt < c.val then y.lmt else c.val) + c.post) ∨
      lo = false ∧ (0 ≤ c.post ∧ c.post ≤ 1000000000000000) ∧ ∃ d m, IntKind.i64.wrap (IntKind.i64.wrap (x.del - p) - y.free) = d ∧ IntKind.i64.wrap ((IntKind.i64.wrap (IntKind.i64.wrap (d + 1440) - 1)).tdiv 1440) = m ∧ n = shareS c.post (if y.most < IntKind.i64.wrap (m * y.share) then y.most else IntKind.i64.wrap (m * y.share)) ∧
        0 ≤ (if y.most < IntKind.i64.wrap (m * y.share) then y.most else IntKind.i64.wrap (m * y.share)) ∧ (if y.most < IntKind.i64.wrap (m * y.share) then y.most else IntKind.i64.wrap (m * y.share)) ≤ 10000) : 
    CallR E mp lim 60 [.agg #[.int .i64 c.id, .int .i64 c.item, .int .i64 c.tm, .int .u8 c.kind, .int .i64 c.post, .int .i64 c.val, .int .i64 x.item, .int .u8 x.cls, .int .i64 x.frm, .int .i64 x.to, .int .i64 x.acc, .int .i64 x.del, .int .u8 y.cls, .int .i64 y.free, .int .i64 y.share, .int .i64 y.most, .int .i64 y.aft, .int .i64 y.lmt, .int .i64 y.wthn, .int .i64 p, .bool kn, .bool ht, .bool la, .bool lo, .bool dn]] H Q = Q (.int .i64 n) H := by
  refine pc (by decide) e60 rfl rfl ?_
  rw [b60, c60]
  rcases h with ⟨rfl, rfl⟩ | ⟨rfl, h1, d, m, hd, hm, hn, hr⟩
  · simp only [n60, r60, aMinMaxAll, aMinMax, SB, Nat.reduceLT, callee, aOp, ne_eq, Nat.reduceEqDiff, aBin, aUn, if_true, if_false, reduceCtorEq, frame0, place, notTuple, Nat.reduceAdd, Nat.reduceLeDiff, resVal, dite_true, dite_false, Int.reduceEq, Int.reduceLT, Int.reduceLE]
  · have hS := fun mp lim H Q => Share_ok (mp := mp) (lim := lim) (H := H) (Q := Q) h1 hr
    simp only [n60, r60, aMinMaxAll, aMinMax, hd, hm, hS, hn, SB, Nat.reduceLT, callee, aOp, ne_eq, Nat.reduceEqDiff, aBin, aUn, if_true, if_false, reduceCtorEq, frame0, place, notTuple, Nat.reduceAdd, Nat.reduceLeDiff, resVal, dite_true, dite_false, Int.reduceEq, Int.reduceLT, Int.reduceLE]
end
end Go.Proofs.Ytlmoijifgbkapaa.Fn
namespace Go.Proofs.Ytlmoijifgbkapaa.Fn
open Go.AM Go.AM.Sym
set_option maxRecDepth 100000
set_option linter.unusedVariables false
set_option linter.unusedSimpArgs false
set_option maxHeartbeats 4000000

def okT (x : Trm) : Bool := allIn [(x.free, 0, 100000), (x.share, 0, 10000), (x.most, 0, 10000), (x.aft, 0, 1000000), (x.lmt, 0, 250000000000000), (x.wthn, 0, 3650)]
def okTAt (l : List Trm) (i : Nat) : Bool := decide (1 ≤ (gt l i).cls) && (decide (i = 0) || decide ((gt l (i - 1)).cls < (gt l i).cls)) && okT (gt l i)
def rightT (l : List Trm) : Bool := decide (l.length ≤ 200) && allFrom (okTAt l) l.length 0

theorem RightTerms_ok (mp : Bool) (lim : Nat) {p : Option Addr} {l : List Trm} {cap : Nat} {H : Heap} {Q : Value → Heap → Prop} (hs : Sl H encT 7 p l) (hn : l.length < 2 ^ 62) :
    CallR E mp lim 26 [.slice p l.length cap] H Q = Q (.bool (rightT l)) H := by
  refine pc (by decide) e26 rfl rfl ?_
  rw [b26, c26]
  by_cases h200 : 200 < (l.length : Int)
  · simp only [n26, r26, h200, SB, Nat.reduceLT, callee, aOp, ne_eq, Nat.reduceEqDiff, aBin, aUn, if_true, if_false, reduceCtorEq, frame0, place, notTuple, Nat.reduceAdd, Nat.reduceLeDiff, resVal, dite_true, dite_false, Int.reduceEq, Int.reduceLT, Int.reduceLE]
    simp [rightT]; omega
  simp only [n26, r26, h200, SB, Nat.reduceLT, callee, aOp, ne_eq, Nat.reduceEqDiff, aBin, aUn, if_true, if_false, reduceCtorEq, frame0, place, notTuple, Nat.reduceAdd, Nat.reduceLeDiff, resVal, dite_true, dite_false, Int.reduceEq, Int.reduceLT, Int.reduceLE]
  refine Ret_rounds (fun i => l.length - i) (fun i fr G => i ≤ l.length ∧ fr 0 = .slice p l.length cap ∧ fr 8 = .slice p l.length cap ∧ fr 9 = .int .i64 (l.length : Int) ∧ fr 10 = .int .i64 (i : Int) ∧ Ext H G ∧
    allFrom (okTAt l) l.length 0 = allFrom (okTAt l) l.length i) 0 ⟨Nat.zero_le _, (by simp only [upd_same, upd_ne, ne_eq, Nat.reduceEqDiff, not_false_eq_true, frame0, List.getD_cons_zero, List.getD_cons_succ]), (by simp only [upd_same, upd_ne, ne_eq, Nat.reduceEqDiff, not_false_eq_true, frame0, List.getD_cons_zero, List.getD_cons_succ]), (by simp only [upd_same, upd_ne, ne_eq, Nat.reduceEqDiff, not_false_eq_true, frame0, List.getD_cons_zero, List.getD_cons_succ]), by rfl, Ext.refl.app, rfl⟩ ?_
  intro i fr G ⟨hi, h0, h8, h9, h10, hE, ha⟩ hN
  rw [Ret_code l26_1.eq_1]
  refine Ret_pad ?_
  by_cases hlt : i < l.length
  · have hL := hE.len
    have hg := hE.sl hs
    have hld := fun X => (hg.app X).loadCells encT_len hlt
    have hidx := fun c (k : IntKind) (H1 : Heap) => hg.idx (c := c) (k := k) (H1 := H1) hlt
    have hw1 : IntKind.i64.wrap ((i : Int) + 1) = ((i + 1 : Nat) : Int) := wrap_nat (by omega)
    have hw2 : 0 < i → IntKind.i64.wrap ((i : Int) - 1) = ((i - 1 : Nat) : Int) := fun h => wrap_pred h (by omega)
    have hlp := fun (_ : 0 < i) => (by omega : i - 1 < l.length)
    have hldp := fun (h : 0 < i) X j hj => (hg.app X).loadCell (j := j) encT_len (hlp h) hj
    have hidxp := fun (h : 0 < i) c (k : IntKind) (H1 : Heap) => hg.idx (c := c) (k := k) (H1 := H1) (hlp h)
    simp only [n26, r26, h0, h8, h9, h10, hlt, hL, hidx, hld, encT, hw1, id_ok, within_lit, isCells_cells, cellsOf_cells, rowsOf_cons, rowsOf_nil, okRows_cons, okRows_nil, Nat.reducePow, SB, Nat.reduceLT, callee, aOp, ne_eq, Nat.reduceEqDiff, aBin, aUn, if_true, if_false, reduceCtorEq, frame0, place, notTuple, Nat.reduceAdd, Nat.reduceLeDiff, resVal, dite_true, dite_false, Int.reduceEq, Int.reduceLT, Int.reduceLE]
    repeat' ((first | refine wantK_dec (fun hw => ?_) (fun hw => ?_) | refine condK_dec (fun hw => ?_) (fun hw => ?_) | refine wantK_any (fun hw => ?_) (fun hw => ?_) | refine condK_any (fun hw => ?_) (fun hw => ?_)) <;> (try simp only [hw, n26, r26, h0, h8, h9, h10, hlt, hL, hidx, hld, hidxp, hldp, encT, hw1, hw2, id_ok, within_lit, isCells_cells, cellsOf_cells, rowsOf_cons, rowsOf_nil, okRows_cons, okRows_nil, Nat.reducePow, SB, Nat.reduceLT, callee, aOp, ne_eq, Nat.reduceEqDiff, aBin, aUn, if_true, if_false, reduceCtorEq, frame0, place, notTuple, Nat.reduceAdd, Nat.reduceLeDiff, resVal, dite_true, dite_false, Int.reduceEq, Int.reduceLT, Int.reduceLE]))
    all_goals first | refine hN (i + 1) _ _ ⟨by omega, (by simp only [h0, upd_same, upd_ne, ne_eq, Nat.reduceEqDiff, not_false_eq_true, frame0, List.getD_cons_zero, List.getD_cons_succ]), (by simp only [h8, upd_same, upd_ne, ne_eq, Nat.reduceEqDiff, not_false_eq_true, frame0, List.getD_cons_zero, List.getD_cons_succ]), (by simp only [h9, upd_same, upd_ne, ne_eq, Nat.reduceEqDiff, not_false_eq_true, frame0, List.getD_cons_zero, List.getD_cons_succ]), (by simp only [upd_same, upd_ne, ne_eq, Nat.reduceEqDiff, not_false_eq_true, frame0, List.getD_cons_zero, List.getD_cons_succ]), hE.app, ?_⟩ (by omega) | skip
    all_goals clear hN; simp only [rightT, ha, allFrom_step hlt, okTAt, okT]
    all_goals simp [*]
    all_goals omega
  · obtain rfl : i = l.length := by omega
    simp only [n26, r26, h0, h8, h9, h10, hlt, SB, Nat.reduceLT, callee, aOp, ne_eq, Nat.reduceEqDiff, aBin, aUn, if_true, if_false, reduceCtorEq, frame0, place, notTuple, Nat.reduceAdd, Nat.reduceLeDiff, resVal, dite_true, dite_false, Int.reduceEq, Int.reduceLT, Int.reduceLE]
    simp [rightT, ha, allFrom_end]
    omega

/-! ### Sets of numbers that were met -/
def metMap (ks : List Int) : List (Value × Value) := ks.map fun k => (.int .i64 k, .bool true)
theorem met_no {ks : List Int} {a : Int} {i : Nat} (h : a ∉ ks) : findKey (.int .i64 a) (metMap ks) i = some none := by
  unfold metMap
  exact findKey_no (f := fun k : Int => k) (g := fun _ => .bool true) fun x hx e => h (e ▸ hx)
theorem met_yes {ks : List Int} {a : Int} {i : Nat} (h : a ∈ ks) : ∃ j, findKey (.int .i64 a) (metMap ks) i = some (some (j, .bool true)) := by
  unfold metMap
  exact findKey_yes (f := fun k : Int => k) (g := fun _ => .bool true) ⟨a, h, rfl⟩ fun _ _ _ => rfl
theorem met_add {ks : List Int} {a : Int} : metMap ks ++ [(.int .i64 a, .bool true)] = metMap (ks ++ [a]) := by simp [metMap]

def okN (x : Snt) : Bool := allIn [(x.item, 1, 999999), (x.frm, 1, 999999), (x.to, 1, 999999), (x.acc, 0, 1051898399)] && (decide (x.del = -1) || inB (x.del, x.acc, 1051898399))
def okNAt (l : List Snt) (i : Nat) : Bool := decide (1 ≤ (gt l i).cls) && !((l.take i).map (·.item)).contains (gt l i).item && okN (gt l i)
def rightN (l : List Snt) : Bool := decide (l.length ≤ 2000) && allFrom (okNAt l) l.length 0
theorem take_map_succ {α : Type} [Inhabited α] {l : List α} {f : α → Int} {i : Nat} (h : i < l.length) : ((l.take (i + 1)).map f) = (l.take i).map f ++ [f (gt l i)] := by
  rw [List.take_succ_eq_append_getElem h, List.map_append, gt_lt h]; rfl

theorem RightSent_ok (mp : Bool) (lim : Nat) {p : Option Addr} {l : List Snt} {cap : Nat} {H : Heap} {Q : Value → Heap → Prop} (hs : Sl H encN 6 p l) (hn : l.length < 2 ^ 62) :
    CallR E mp lim 27 [.slice p l.length cap] H Q = Q (.bool (rightN l)) H := by
  refine pc (by decide) e27 rfl rfl ?_
  rw [b27, c27]
  by_cases h200 : 2000 < (l.length : Int)
  · simp only [n27, r27, h200, SB, Nat.reduceLT, callee, aOp, ne_eq, Nat.reduceEqDiff, aBin, aUn, if_true, if_false, reduceCtorEq, frame0, place, notTuple, Nat.reduceAdd, Nat.reduceLeDiff, resVal, dite_true, dite_false, Int.reduceEq, Int.reduceLT, Int.reduceLE]
    simp [rightN]; omega
  simp only [n27, r27, h200, SB, Nat.reduceLT, callee, aOp, ne_eq, Nat.reduceEqDiff, aBin, aUn, if_true, if_false, reduceCtorEq, frame0, place, notTuple, Nat.reduceAdd, Nat.reduceLeDiff, resVal, dite_true, dite_false, Int.reduceEq, Int.reduceLT, Int.reduceLE]
  refine Ret_rounds (fun i => l.length - i) (fun i fr G => i ≤ l.length ∧ fr 12 = .slice p l.length cap ∧ fr 13 = .int .i64 (l.length : Int) ∧ fr 14 = .int .i64 (i : Int) ∧ fr 3 = .map (some H.length) ∧
    H.length < G.length ∧ Sl G encN 6 p l ∧ hget G H.length = .map (metMap ((l.take i).map (·.item))) ∧
    allFrom (okNAt l) l.length 0 = allFrom (okNAt l) l.length i) 0 ⟨Nat.zero_le _, (by simp only [upd_same, upd_ne, ne_eq, Nat.reduceEqDiff, not_false_eq_true, frame0, List.getD_cons_zero, List.getD_cons_succ]), (by simp only [upd_same, upd_ne, ne_eq, Nat.reduceEqDiff, not_false_eq_true, frame0, List.getD_cons_zero, List.getD_cons_succ]), by rfl, (by simp only [upd_same, upd_ne, ne_eq, Nat.reduceEqDiff, not_false_eq_true, frame0, List.getD_cons_zero, List.getD_cons_succ]), by simp, hs.app _, hget_new0, rfl⟩ ?_
  intro i fr G ⟨hi, h12, h13, h14, h3, hL, hg, hm, ha⟩ hN
  rw [Ret_code l27_1.eq_1]
  refine Ret_pad ?_
  by_cases hlt : i < l.length
  · have hL' := Nat.le_of_lt hL
    have hm' : ∀ X, hget (G ++ X) H.length = .map (metMap ((l.take i).map (·.item))) := fun X => by rw [hget_old hL]; exact hm
    have hld := fun X => (hg.app X).loadCells encN_len hlt
    have hidx := fun c (k : IntKind) (H1 : Heap) => hg.idx (c := c) (k := k) (H1 := H1) hlt
    have hw1 : IntKind.i64.wrap ((i : Int) + 1) = ((i + 1 : Nat) : Int) := wrap_nat (by omega)
    by_cases hmet : (gt l i).item ∈ (l.take i).map (·.item)
    · obtain ⟨j, hj⟩ := met_yes (i := 0) hmet
      simp only [n27, r27, h12, h13, h14, h3, hlt, hL', hidx, hld, encN, hw1, hm', hj, id_ok, within_lit, isCells_cells, cellsOf_cells, rowsOf_cons, rowsOf_nil, okRows_cons, okRows_nil, Nat.reducePow, SB, Nat.reduceLT, callee, aOp, ne_eq, Nat.reduceEqDiff, aBin, aUn, if_true, if_false, reduceCtorEq, frame0, place, notTuple, Nat.reduceAdd, Nat.reduceLeDiff, resVal, dite_true, dite_false, Int.reduceEq, Int.reduceLT, Int.reduceLE]
      repeat' ((first | refine wantK_dec (fun hw => ?_) (fun hw => ?_) | refine condK_dec (fun hw => ?_) (fun hw => ?_) | refine wantK_any (fun hw => ?_) (fun hw => ?_) | refine condK_any (fun hw => ?_) (fun hw => ?_)) <;> (try simp only [hw, n27, r27, h12, h13, h14, h3, hlt, hL', hidx, hld, encN, hw1, hm', hj, id_ok, within_lit, isCells_cells, cellsOf_cells, rowsOf_cons, rowsOf_nil, okRows_cons, okRows_nil, Nat.reducePow, SB, Nat.reduceLT, callee, aOp, ne_eq, Nat.reduceEqDiff, aBin, aUn, if_true, if_false, reduceCtorEq, frame0, place, notTuple, Nat.reduceAdd, Nat.reduceLeDiff, resVal, dite_true, dite_false, Int.reduceEq, Int.reduceLT, Int.reduceLE]))
      all_goals clear hN
      all_goals simp only [rightN, ha, allFrom_step hlt, okNAt]
      all_goals simp_all
    · have hj := met_no (i := 0) hmet
      simp only [n27, r27, h12, h13, h14, h3, hlt, hL', hidx, hld, encN, hw1, hm', hj, id_ok, within_lit, isCells_cells, cellsOf_cells, rowsOf_cons, rowsOf_nil, okRows_cons, okRows_nil, Nat.reducePow, SB, Nat.reduceLT, callee, aOp, ne_eq, Nat.reduceEqDiff, aBin, aUn, if_true, if_false, reduceCtorEq, frame0, place, notTuple, Nat.reduceAdd, Nat.reduceLeDiff, resVal, dite_true, dite_false, Int.reduceEq, Int.reduceLT, Int.reduceLE]
      repeat' ((first | refine wantK_dec (fun hw => ?_) (fun hw => ?_) | refine condK_dec (fun hw => ?_) (fun hw => ?_) | refine wantK_any (fun hw => ?_) (fun hw => ?_) | refine condK_any (fun hw => ?_) (fun hw => ?_)) <;> (try simp only [hw, n27, r27, h12, h13, h14, h3, hlt, hL', hidx, hld, encN, hw1, hm', hj, id_ok, within_lit, isCells_cells, cellsOf_cells, rowsOf_cons, rowsOf_nil, okRows_cons, okRows_nil, Nat.reducePow, SB, Nat.reduceLT, callee, aOp, ne_eq, Nat.reduceEqDiff, aBin, aUn, if_true, if_false, reduceCtorEq, frame0, place, notTuple, Nat.reduceAdd, Nat.reduceLeDiff, resVal, dite_true, dite_false, Int.reduceEq, Int.reduceLT, Int.reduceLE]))
      all_goals first
        | (refine hN (i + 1) _ _ ⟨by omega, (by simp only [h12, upd_same, upd_ne, ne_eq, Nat.reduceEqDiff, not_false_eq_true, frame0, List.getD_cons_zero, List.getD_cons_succ]), (by simp only [h13, upd_same, upd_ne, ne_eq, Nat.reduceEqDiff, not_false_eq_true, frame0, List.getD_cons_zero, List.getD_cons_succ]), (by simp only [upd_same, upd_ne, ne_eq, Nat.reduceEqDiff, not_false_eq_true, frame0, List.getD_cons_zero, List.getD_cons_succ]), (by simp only [h3, upd_same, upd_ne, ne_eq, Nat.reduceEqDiff, not_false_eq_true, frame0, List.getD_cons_zero, List.getD_cons_succ]), by simp; omega, ?_, ?_, ?_⟩ (by omega)
           · refine hg.sim fun b ro c hb => ?_
             rw [hget_set_ne (by rintro rfl; rw [hm] at hb; cases hb), hget_old (hget_alive hb)]; exact hb
           · rw [hget_set_eq (by simp; omega), met_add, take_map_succ hlt])
        | skip
      all_goals clear hN
      all_goals simp only [rightN, ha, allFrom_step hlt, okNAt, okN]
      all_goals simp_all [allIn]
      all_goals omega
  · obtain rfl : i = l.length := by omega
    simp only [n27, r27, h12, h13, h14, h3, hlt, SB, Nat.reduceLT, callee, aOp, ne_eq, Nat.reduceEqDiff, aBin, aUn, if_true, if_false, reduceCtorEq, frame0, place, notTuple, Nat.reduceAdd, Nat.reduceLeDiff, resVal, dite_true, dite_false, Int.reduceEq, Int.reduceLT, Int.reduceLE]
    simp [rightN, ha, allFrom_end]
    omega

def okC (x : Clm) : Bool := allIn [(x.id, 1, 999999), (x.item, 1, 999999), (x.tm, 0, 1051898399), (x.post, 0, 250000000000000), (x.val, 0, 250000000000000)]
def okCAt (l : List Clm) (i : Nat) : Bool := decide ((gt l i).kind = 1 ∨ (gt l i).kind = 2) && !((l.take i).map (·.id)).contains (gt l i).id && okC (gt l i)
def rightC (l : List Clm) : Bool := decide (l.length ≤ 500) && allFrom (okCAt l) l.length 0
theorem RightClaims_ok (mp : Bool) (lim : Nat) {p : Option Addr} {l : List Clm} {cap : Nat} {H : Heap} {Q : Value → Heap → Prop} (hs : Sl H encC 6 p l) (hn : l.length < 2 ^ 62) :
    CallR E mp lim 28 [.slice p l.length cap] H Q = Q (.bool (rightC l)) H := by
  refine pc (by decide) e28 rfl rfl ?_
  rw [b28, c28]
  by_cases h200 : 500 < (l.length : Int)
  · simp only [n28, r28, h200, SB, Nat.reduceLT, callee, aOp, ne_eq, Nat.reduceEqDiff, aBin, aUn, if_true, if_false, reduceCtorEq, frame0, place, notTuple, Nat.reduceAdd, Nat.reduceLeDiff, resVal, dite_true, dite_false, Int.reduceEq, Int.reduceLT, Int.reduceLE]
    simp [rightC]; omega
  simp only [n28, r28, h200, SB, Nat.reduceLT, callee, aOp, ne_eq, Nat.reduceEqDiff, aBin, aUn, if_true, if_false, reduceCtorEq, frame0, place, notTuple, Nat.reduceAdd, Nat.reduceLeDiff, resVal, dite_true, dite_false, Int.reduceEq, Int.reduceLT, Int.reduceLE]
  refine Ret_rounds (fun i => l.length - i) (fun i fr G => i ≤ l.length ∧ fr 12 = .slice p l.length cap ∧ fr 13 = .int .i64 (l.length : Int) ∧ fr 14 = .int .i64 (i : Int) ∧ fr 3 = .map (some H.length) ∧
    H.length < G.length ∧ Sl G encC 6 p l ∧ hget G H.length = .map (metMap ((l.take i).map (·.id))) ∧
    allFrom (okCAt l) l.length 0 = allFrom (okCAt l) l.length i) 0 ⟨Nat.zero_le _, (by simp only [upd_same, upd_ne, ne_eq, Nat.reduceEqDiff, not_false_eq_true, frame0, List.getD_cons_zero, List.getD_cons_succ]), (by simp only [upd_same, upd_ne, ne_eq, Nat.reduceEqDiff, not_false_eq_true, frame0, List.getD_cons_zero, List.getD_cons_succ]), by rfl, (by simp only [upd_same, upd_ne, ne_eq, Nat.reduceEqDiff, not_false_eq_true, frame0, List.getD_cons_zero, List.getD_cons_succ]), by simp, hs.app _, hget_new0, rfl⟩ ?_
  intro i fr G ⟨hi, h12, h13, h14, h3, hL, hg, hm, ha⟩ hN
  rw [Ret_code l28_1.eq_1]
  refine Ret_pad ?_
  by_cases hlt : i < l.length
  · have hL' := Nat.le_of_lt hL
    have hm' : ∀ X, hget (G ++ X) H.length = .map (metMap ((l.take i).map (·.id))) := fun X => by rw [hget_old hL]; exact hm
    have hld := fun X => (hg.app X).loadCells encC_len hlt
    have hidx := fun c (k : IntKind) (H1 : Heap) => hg.idx (c := c) (k := k) (H1 := H1) hlt
    have hw1 : IntKind.i64.wrap ((i : Int) + 1) = ((i + 1 : Nat) : Int) := wrap_nat (by omega)
    by_cases hmet : (gt l i).id ∈ (l.take i).map (·.id)
    · obtain ⟨j, hj⟩ := met_yes (i := 0) hmet
      simp only [n28, r28, h12, h13, h14, h3, hlt, hL', hidx, hld, encC, hw1, hm', hj, id_ok, within_lit, isCells_cells, cellsOf_cells, rowsOf_cons, rowsOf_nil, okRows_cons, okRows_nil, Nat.reducePow, SB, Nat.reduceLT, callee, aOp, ne_eq, Nat.reduceEqDiff, aBin, aUn, if_true, if_false, reduceCtorEq, frame0, place, notTuple, Nat.reduceAdd, Nat.reduceLeDiff, resVal, dite_true, dite_false, Int.reduceEq, Int.reduceLT, Int.reduceLE]
      repeat' ((first | refine wantK_dec (fun hw => ?_) (fun hw => ?_) | refine condK_dec (fun hw => ?_) (fun hw => ?_) | refine wantK_any (fun hw => ?_) (fun hw => ?_) | refine condK_any (fun hw => ?_) (fun hw => ?_)) <;> (try simp only [hw, n28, r28, h12, h13, h14, h3, hlt, hL', hidx, hld, encC, hw1, hm', hj, id_ok, within_lit, isCells_cells, cellsOf_cells, rowsOf_cons, rowsOf_nil, okRows_cons, okRows_nil, Nat.reducePow, SB, Nat.reduceLT, callee, aOp, ne_eq, Nat.reduceEqDiff, aBin, aUn, if_true, if_false, reduceCtorEq, frame0, place, notTuple, Nat.reduceAdd, Nat.reduceLeDiff, resVal, dite_true, dite_false, Int.reduceEq, Int.reduceLT, Int.reduceLE]))
      all_goals clear hN
      all_goals simp only [rightC, ha, allFrom_step hlt, okCAt]
      all_goals simp_all
    · have hj := met_no (i := 0) hmet
      simp only [n28, r28, h12, h13, h14, h3, hlt, hL', hidx, hld, encC, hw1, hm', hj, id_ok, within_lit, isCells_cells, cellsOf_cells, rowsOf_cons, rowsOf_nil, okRows_cons, okRows_nil, Nat.reducePow, SB, Nat.reduceLT, callee, aOp, ne_eq, Nat.reduceEqDiff, aBin, aUn, if_true, if_false, reduceCtorEq, frame0, place, notTuple, Nat.reduceAdd, Nat.reduceLeDiff, resVal, dite_true, dite_false, Int.reduceEq, Int.reduceLT, Int.reduceLE]
      repeat' ((first | refine wantK_dec (fun hw => ?_) (fun hw => ?_) | refine condK_dec (fun hw => ?_) (fun hw => ?_) | refine wantK_any (fun hw => ?_) (fun hw => ?_) | refine condK_any (fun hw => ?_) (fun hw => ?_)) <;> (try simp only [hw, n28, r28, h12, h13, h14, h3, hlt, hL', hidx, hld, encC, hw1, hm', hj, id_ok, within_lit, isCells_cells, cellsOf_cells, rowsOf_cons, rowsOf_nil, okRows_cons, okRows_nil, Nat.reducePow, SB, Nat.reduceLT, callee, aOp, ne_eq, Nat.reduceEqDiff, aBin, aUn, if_true, if_false, reduceCtorEq, frame0, place, notTuple, Nat.reduceAdd, Nat.reduceLeDiff, resVal, dite_true, dite_false, Int.reduceEq, Int.reduceLT, Int.reduceLE]))
      all_goals first
        | (refine hN (i + 1) _ _ ⟨by omega, (by simp only [h12, upd_same, upd_ne, ne_eq, Nat.reduceEqDiff, not_false_eq_true, frame0, List.getD_cons_zero, List.getD_cons_succ]), (by simp only [h13, upd_same, upd_ne, ne_eq, Nat.reduceEqDiff, not_false_eq_true, frame0, List.getD_cons_zero, List.getD_cons_succ]), (by simp only [upd_same, upd_ne, ne_eq, Nat.reduceEqDiff, not_false_eq_true, frame0, List.getD_cons_zero, List.getD_cons_succ]), (by simp only [h3, upd_same, upd_ne, ne_eq, Nat.reduceEqDiff, not_false_eq_true, frame0, List.getD_cons_zero, List.getD_cons_succ]), by simp; omega, ?_, ?_, ?_⟩ (by omega)
           · refine hg.sim fun b ro c hb => ?_
             rw [hget_set_ne (by rintro rfl; rw [hm] at hb; cases hb), hget_old (hget_alive hb)]; exact hb
           · rw [hget_set_eq (by simp; omega), met_add, take_map_succ hlt])
        | skip
      all_goals clear hN
      all_goals simp only [rightC, ha, allFrom_step hlt, okCAt, okC]
      all_goals simp_all [allIn]
      all_goals omega
  · obtain rfl : i = l.length := by omega
    simp only [n28, r28, h12, h13, h14, h3, hlt, SB, Nat.reduceLT, callee, aOp, ne_eq, Nat.reduceEqDiff, aBin, aUn, if_true, if_false, reduceCtorEq, frame0, place, notTuple, Nat.reduceAdd, Nat.reduceLeDiff, resVal, dite_true, dite_false, Int.reduceEq, Int.reduceLT, Int.reduceLE]
    simp [rightC, ha, allFrom_end]
    omega

end Go.Proofs.Ytlmoijifgbkapaa.Fn
namespace Go.Proofs.Ytlmoijifgbkapaa.Fn
open Go.AM Go.AM.Sym
set_option maxRecDepth 100000
set_option linter.unusedVariables false
set_option linter.unusedSimpArgs false
set_option maxHeartbeats 4000000

theorem findN_ok {mp : Bool} {lim : Nat} {p : Option Addr} {l : List Snt} {cap : Nat} {H : Heap} {Q : Value → Heap → Prop} {g' : FuncId} {cs : List Value} (w : Snt → Bool) (hs : Sl H encN 6 p l) (hn : l.length < 2 ^ 62)
    (hcl : ∀ (X : Heap) (lim : Nat) (x : Snt) (Q : Value → Heap → Prop), CallR E false lim g' (.agg (encN x).toArray :: cs) (H ++ X) Q = Q (.bool (w x)) (H ++ X)) :
    CallR E mp lim 55 [.slice p l.length cap, .func (.func g') #[] cs.toArray] H Q = Q (.tuple #[.agg (encN ((l.find? w).getD default)).toArray, .bool (l.find? w).isSome]) H := by
  refine pc (by decide) e55 rfl rfl ?_
  rw [b55, c55]
  simp only [n55, r55, SB, Nat.reduceLT, callee, aOp, ne_eq, Nat.reduceEqDiff, aBin, aUn, if_true, if_false, reduceCtorEq, frame0, place, notTuple, Nat.reduceAdd, Nat.reduceLeDiff, resVal, dite_true, dite_false, Int.reduceEq, Int.reduceLT, Int.reduceLE]
  refine Ret_rounds (fun i => l.length - i) (fun i fr G => i ≤ l.length ∧ fr 9 = .slice p l.length cap ∧ fr 1 = .func (.func g') #[] cs.toArray ∧ fr 10 = .int .i64 (l.length : Int) ∧ fr 11 = .int .i64 (i : Int) ∧
    fr 4 = .pointer (some ⟨H.length, 0, none⟩) ∧ Ext H G ∧ hget G H.length = .cells false [.int .i64 0, .int .u8 0, .int .i64 0, .int .i64 0, .int .i64 0, .int .i64 0] ∧ 
    l.find? w = (l.drop i).find? w) 0 ⟨Nat.zero_le _, (by simp only [upd_same, upd_ne, ne_eq, Nat.reduceEqDiff, not_false_eq_true, frame0, List.getD_cons_zero, List.getD_cons_succ]), (by simp only [upd_same, upd_ne, ne_eq, Nat.reduceEqDiff, not_false_eq_true, frame0, List.getD_cons_zero, List.getD_cons_succ]), (by simp only [upd_same, upd_ne, ne_eq, Nat.reduceEqDiff, not_false_eq_true, frame0, List.getD_cons_zero, List.getD_cons_succ]), by rfl, (by simp only [upd_same, upd_ne, ne_eq, Nat.reduceEqDiff, not_false_eq_true, frame0, List.getD_cons_zero, List.getD_cons_succ]), Ext.refl.app, hget_new0, rfl⟩ ?_
  intro i fr G ⟨hi, h9, h1, h10, h11, h4, hE, hz, ha⟩ hN
  rw [Ret_code l55_1.eq_1]
  refine Ret_pad ?_
  have hL := hE.len
  have hzl := hget_alive hz
  have hz' := fun X => (Ext.refl.app (X := X)).cells hz
  by_cases hlt : i < l.length
  · have hg := hE.sl hs
    have hld := fun X => (hg.app X).loadCells encN_len hlt
    have hidx := fun c (k : IntKind) (H1 : Heap) => hg.idx (c := c) (k := k) (H1 := H1) hlt
    have hw1 : IntKind.i64.wrap ((i : Int) + 1) = ((i + 1 : Nat) : Int) := wrap_nat (by omega)
    rw [find_drop hlt] at ha
    have hcl' : ∀ (X : Heap) (lim : Nat) (x : Snt) (Q : Value → Heap → Prop), CallR E false lim g' (.agg (encN x).toArray :: cs) (G ++ X) Q = Q (.bool (w x)) (G ++ X) := by
      obtain ⟨Y, rfl⟩ := hE
      intro X lim x Q
      rw [List.append_assoc]; exact hcl _ _ _ _
    simp only [encN] at hcl'
    simp only [n55, r55, h9, h1, h10, h11, h4, hlt, hL, hidx, hld, encN, hw1, hcl', SB, Nat.reduceLT, callee, aOp, ne_eq, Nat.reduceEqDiff, aBin, aUn, if_true, if_false, reduceCtorEq, frame0, place, notTuple, Nat.reduceAdd, Nat.reduceLeDiff, resVal, dite_true, dite_false, Int.reduceEq, Int.reduceLT, Int.reduceLE]
    repeat' ((first | refine wantK_dec (fun hw => ?_) (fun hw => ?_) | refine condK_dec (fun hw => ?_) (fun hw => ?_) | refine wantK_any (fun hw => ?_) (fun hw => ?_) | refine condK_any (fun hw => ?_) (fun hw => ?_)) <;> (try simp only [hw, n55, r55, h9, h1, h10, h11, h4, hlt, hL, hidx, hld, encN, hw1, hcl', hz', hget_set_eq, List.length_set, Nat.lt_add_right, hzl, find_drop, SB, Nat.reduceLT, callee, aOp, ne_eq, Nat.reduceEqDiff, aBin, aUn, if_true, if_false, reduceCtorEq, frame0, place, notTuple, Nat.reduceAdd, Nat.reduceLeDiff, resVal, dite_true, dite_false, Int.reduceEq, Int.reduceLT, Int.reduceLE]))
    · rw [ha, if_pos hw]; rfl
    · refine hN (i + 1) _ _ ⟨by omega, (by simp only [h9, upd_same, upd_ne, ne_eq, Nat.reduceEqDiff, not_false_eq_true, frame0, List.getD_cons_zero, List.getD_cons_succ]), (by simp only [h1, upd_same, upd_ne, ne_eq, Nat.reduceEqDiff, not_false_eq_true, frame0, List.getD_cons_zero, List.getD_cons_succ]), (by simp only [h10, upd_same, upd_ne, ne_eq, Nat.reduceEqDiff, not_false_eq_true, frame0, List.getD_cons_zero, List.getD_cons_succ]), (by simp only [upd_same, upd_ne, ne_eq, Nat.reduceEqDiff, not_false_eq_true, frame0, List.getD_cons_zero, List.getD_cons_succ]), (by simp only [h4, upd_same, upd_ne, ne_eq, Nat.reduceEqDiff, not_false_eq_true, frame0, List.getD_cons_zero, List.getD_cons_succ]), hE.app, hz' _, ?_⟩ (by omega)
      rw [ha, if_neg (by simp [hw])]
  · obtain rfl : i = l.length := by omega
    rw [List.drop_length, List.find?_nil] at ha
    simp only [n55, r55, h9, h1, h10, h11, h4, hlt, ha, hz', hzl, hL, hget_set_eq, List.length_set, Nat.lt_add_right, SB, Nat.reduceLT, callee, aOp, ne_eq, Nat.reduceEqDiff, aBin, aUn, if_true, if_false, reduceCtorEq, frame0, place, notTuple, Nat.reduceAdd, Nat.reduceLeDiff, resVal, dite_true, dite_false, Int.reduceEq, Int.reduceLT, Int.reduceLE]
    rfl
theorem findT_ok {mp : Bool} {lim : Nat} {p : Option Addr} {l : List Trm} {cap : Nat} {H : Heap} {Q : Value → Heap → Prop} {g' : FuncId} {cs : List Value} (w : Trm → Bool) (hs : Sl H encT 7 p l) (hn : l.length < 2 ^ 62)
    (hcl : ∀ (X : Heap) (lim : Nat) (x : Trm) (Q : Value → Heap → Prop), CallR E false lim g' (.agg (encT x).toArray :: cs) (H ++ X) Q = Q (.bool (w x)) (H ++ X)) :
    CallR E mp lim 57 [.slice p l.length cap, .func (.func g') #[] cs.toArray] H Q = Q (.tuple #[.agg (encT ((l.find? w).getD default)).toArray, .bool (l.find? w).isSome]) H := by
  refine pc (by decide) e57 rfl rfl ?_
  rw [b57, c57]
  simp only [n57, r57, SB, Nat.reduceLT, callee, aOp, ne_eq, Nat.reduceEqDiff, aBin, aUn, if_true, if_false, reduceCtorEq, frame0, place, notTuple, Nat.reduceAdd, Nat.reduceLeDiff, resVal, dite_true, dite_false, Int.reduceEq, Int.reduceLT, Int.reduceLE]
  refine Ret_rounds (fun i => l.length - i) (fun i fr G => i ≤ l.length ∧ fr 9 = .slice p l.length cap ∧ fr 1 = .func (.func g') #[] cs.toArray ∧ fr 10 = .int .i64 (l.length : Int) ∧ fr 11 = .int .i64 (i : Int) ∧
    fr 4 = .pointer (some ⟨H.length, 0, none⟩) ∧ Ext H G ∧ hget G H.length = .cells false [.int .u8 0, .int .i64 0, .int .i64 0, .int .i64 0, .int .i64 0, .int .i64 0, .int .i64 0] ∧ 
    l.find? w = (l.drop i).find? w) 0 ⟨Nat.zero_le _, (by simp only [upd_same, upd_ne, ne_eq, Nat.reduceEqDiff, not_false_eq_true, frame0, List.getD_cons_zero, List.getD_cons_succ]), (by simp only [upd_same, upd_ne, ne_eq, Nat.reduceEqDiff, not_false_eq_true, frame0, List.getD_cons_zero, List.getD_cons_succ]), (by simp only [upd_same, upd_ne, ne_eq, Nat.reduceEqDiff, not_false_eq_true, frame0, List.getD_cons_zero, List.getD_cons_succ]), by rfl, (by simp only [upd_same, upd_ne, ne_eq, Nat.reduceEqDiff, not_false_eq_true, frame0, List.getD_cons_zero, List.getD_cons_succ]), Ext.refl.app, hget_new0, rfl⟩ ?_
  intro i fr G ⟨hi, h9, h1, h10, h11, h4, hE, hz, ha⟩ hN
  rw [Ret_code l57_1.eq_1]
  refine Ret_pad ?_
  have hL := hE.len
  have hzl := hget_alive hz
  have hz' := fun X => (Ext.refl.app (X := X)).cells hz
  by_cases hlt : i < l.length
  · have hg := hE.sl hs
    have hld := fun X => (hg.app X).loadCells encT_len hlt
    have hidx := fun c (k : IntKind) (H1 : Heap) => hg.idx (c := c) (k := k) (H1 := H1) hlt
    have hw1 : IntKind.i64.wrap ((i : Int) + 1) = ((i + 1 : Nat) : Int) := wrap_nat (by omega)
    rw [find_drop hlt] at ha
    have hcl' : ∀ (X : Heap) (lim : Nat) (x : Trm) (Q : Value → Heap → Prop), CallR E false lim g' (.agg (encT x).toArray :: cs) (G ++ X) Q = Q (.bool (w x)) (G ++ X) := by
      obtain ⟨Y, rfl⟩ := hE
      intro X lim x Q
      rw [List.append_assoc]; exact hcl _ _ _ _
    simp only [encT] at hcl'
    simp only [n57, r57, h9, h1, h10, h11, h4, hlt, hL, hidx, hld, encT, hw1, hcl', SB, Nat.reduceLT, callee, aOp, ne_eq, Nat.reduceEqDiff, aBin, aUn, if_true, if_false, reduceCtorEq, frame0, place, notTuple, Nat.reduceAdd, Nat.reduceLeDiff, resVal, dite_true, dite_false, Int.reduceEq, Int.reduceLT, Int.reduceLE]
    repeat' ((first | refine wantK_dec (fun hw => ?_) (fun hw => ?_) | refine condK_dec (fun hw => ?_) (fun hw => ?_) | refine wantK_any (fun hw => ?_) (fun hw => ?_) | refine condK_any (fun hw => ?_) (fun hw => ?_)) <;> (try simp only [hw, n57, r57, h9, h1, h10, h11, h4, hlt, hL, hidx, hld, encT, hw1, hcl', hz', hget_set_eq, List.length_set, Nat.lt_add_right, hzl, find_drop, SB, Nat.reduceLT, callee, aOp, ne_eq, Nat.reduceEqDiff, aBin, aUn, if_true, if_false, reduceCtorEq, frame0, place, notTuple, Nat.reduceAdd, Nat.reduceLeDiff, resVal, dite_true, dite_false, Int.reduceEq, Int.reduceLT, Int.reduceLE]))
    · rw [ha, if_pos hw]; rfl
    · refine hN (i + 1) _ _ ⟨by omega, (by simp only [h9, upd_same, upd_ne, ne_eq, Nat.reduceEqDiff, not_false_eq_true, frame0, List.getD_cons_zero, List.getD_cons_succ]), (by simp only [h1, upd_same, upd_ne, ne_eq, Nat.reduceEqDiff, not_false_eq_true, frame0, List.getD_cons_zero, List.getD_cons_succ]), (by simp only [h10, upd_same, upd_ne, ne_eq, Nat.reduceEqDiff, not_false_eq_true, frame0, List.getD_cons_zero, List.getD_cons_succ]), (by simp only [upd_same, upd_ne, ne_eq, Nat.reduceEqDiff, not_false_eq_true, frame0, List.getD_cons_zero, List.getD_cons_succ]), (by simp only [h4, upd_same, upd_ne, ne_eq, Nat.reduceEqDiff, not_false_eq_true, frame0, List.getD_cons_zero, List.getD_cons_succ]), hE.app, hz' _, ?_⟩ (by omega)
      rw [ha, if_neg (by simp [hw])]
  · obtain rfl : i = l.length := by omega
    rw [List.drop_length, List.find?_nil] at ha
    simp only [n57, r57, h9, h1, h10, h11, h4, hlt, ha, hz', hzl, hL, hget_set_eq, List.length_set, Nat.lt_add_right, SB, Nat.reduceLT, callee, aOp, ne_eq, Nat.reduceEqDiff, aBin, aUn, if_true, if_false, reduceCtorEq, frame0, place, notTuple, Nat.reduceAdd, Nat.reduceLeDiff, resVal, dite_true, dite_false, Int.reduceEq, Int.reduceLT, Int.reduceLE]
    rfl

/-- The first error. -/
def checkS (l : List Std) (t : List Trm) (s : List Snt) (c : List Clm) : Int :=
  if right l = false then 400 else if rightT t = false then 401 else if rightN s = false then 402 else if rightC c = false then 403 else 0
theorem check_ok {mp : Bool} {lim : Nat} {pl pt ps pc' : Option Addr} {l : List Std} {t : List Trm} {s : List Snt} {c : List Clm} {k1 k2 k3 k4 : Nat} {H : Heap} {Q : Value → Heap → Prop}
    (hl : Sl H encS 4 pl l) (ht : Sl H encT 7 pt t) (hs : Sl H encN 6 ps s) (hc : Sl H encC 6 pc' c) (nl : l.length < 2 ^ 62) (nt : t.length < 2 ^ 62) (ns : s.length < 2 ^ 62) (nc : c.length < 2 ^ 62) :
    CallR E mp lim 37 [.slice pl l.length k1, .slice pt t.length k2, .slice ps s.length k3, .slice pc' c.length k4] H Q = Q (.int .i64 (checkS l t s c)) H := by
  refine pc (by decide) e37 rfl rfl ?_
  rw [b37, c37]
  have h1 := fun mp lim X Q => Right_ok mp lim (cap := k1) (Q := Q) (hl.app X) nl
  have h2 := fun mp lim X Q => RightTerms_ok mp lim (cap := k2) (Q := Q) (ht.app X) nt
  have h3 := fun mp lim X Q => RightSent_ok mp lim (cap := k3) (Q := Q) (hs.app X) ns
  have h4 := fun mp lim X Q => RightClaims_ok mp lim (cap := k4) (Q := Q) (hc.app X) nc
  simp only [n37, r37, h1, h2, h3, h4, SB, Nat.reduceLT, callee, aOp, ne_eq, Nat.reduceEqDiff, aBin, aUn, if_true, if_false, reduceCtorEq, frame0, place, notTuple, Nat.reduceAdd, Nat.reduceLeDiff, resVal, dite_true, dite_false, Int.reduceEq, Int.reduceLT, Int.reduceLE]
  repeat' ((first | refine wantK_dec (fun hw => ?_) (fun hw => ?_) | refine condK_dec (fun hw => ?_) (fun hw => ?_) | refine wantK_any (fun hw => ?_) (fun hw => ?_) | refine condK_any (fun hw => ?_) (fun hw => ?_)) <;> (try simp only [hw, n37, r37, h1, h2, h3, h4, SB, Nat.reduceLT, callee, aOp, ne_eq, Nat.reduceEqDiff, aBin, aUn, if_true, if_false, reduceCtorEq, frame0, place, notTuple, Nat.reduceAdd, Nat.reduceLeDiff, resVal, dite_true, dite_false, Int.reduceEq, Int.reduceLT, Int.reduceLE]))
  all_goals simp [checkS, *]

theorem wantN_ok {mp : Bool} {lim : Nat} {x : Snt} {c : Clm} {b7 : Nat} {r7 : Bool} {H : Heap} {Q : Value → Heap → Prop} (h7 : hget H b7 = .cells r7 (encC c)) :
    CallR E mp lim 56 [.agg (encN x).toArray, .pointer (some ⟨b7, 0, none⟩)] H Q = Q (.bool (decide (x.item = c.item))) H := by
  refine pc (by decide) e56 rfl rfl ?_
  rw [b56, c56]
  have g7 := fun X => (Ext.refl.app (X := X)).cells h7
  simp only [n56, r56, encN, encC, g7, SB, Nat.reduceLT, callee, aOp, ne_eq, Nat.reduceEqDiff, aBin, aUn, if_true, if_false, reduceCtorEq, frame0, place, notTuple, Nat.reduceAdd, Nat.reduceLeDiff, resVal, dite_true, dite_false, Int.reduceEq, Int.reduceLT, Int.reduceLE]
theorem wantT_ok {mp : Bool} {lim : Nat} {t : Trm} {k : Int} {b9 : Nat} {r9 : Bool} {d : List Value} {H : Heap} {Q : Value → Heap → Prop} (h9 : hget H b9 = .cells r9 d) (hd : d[7]? = some (.int .u8 k)) :
    CallR E mp lim 58 [.agg (encT t).toArray, .pointer (some ⟨b9, 0, none⟩)] H Q = Q (.bool (decide (t.cls = k))) H := by
  refine pc (by decide) e58 rfl rfl ?_
  rw [b58, c58]
  have g9 := fun X => (Ext.refl.app (X := X)).cells h9
  simp only [n58, r58, encT, g9, hd, SB, Nat.reduceLT, callee, aOp, ne_eq, Nat.reduceEqDiff, aBin, aUn, if_true, if_false, reduceCtorEq, frame0, place, notTuple, Nat.reduceAdd, Nat.reduceLeDiff, resVal, dite_true, dite_false, Int.reduceEq, Int.reduceLT, Int.reduceLE]

/-- What is known of a claim's item. -/
structure Fil where
  x : Snt
  y : Trm
  p : Int
  kn : Bool
  ht : Bool
  dn : Bool
def fileS (l : List Std) (t : List Trm) (s : List Snt) (c : Clm) : Fil :=
  match s.find? (fun x => decide (x.item = c.item)) with
  | none => ⟨default, default, 0, false, false, false⟩
  | some x => ⟨x, (t.find? (fun y => decide (y.cls = x.cls))).getD default, (prom l x.cls x.frm x.to x.acc).1, true, (t.find? (fun y => decide (y.cls = x.cls))).isSome && (prom l x.cls x.frm x.to x.acc).2.2, decide (¬ x.del = -1) && decide (x.del ≤ c.tm)⟩
theorem open_ok {mp : Bool} {lim : Nat} {pl pt ps : Option Addr} {l : List Std} {t : List Trm} {s : List Snt} {c : Clm} {k1 k2 k3 : Nat} {H : Heap} {Q : Value → Heap → Prop}
    (hl : Sl H encS 4 pl l) (ht : Sl H encT 7 pt t) (hs : Sl H encN 6 ps s) (nl : l.length < 2 ^ 62) (nt : t.length < 2 ^ 62) (ns : s.length < 2 ^ 62) (hr : right l = true) (ha : ∀ x ∈ s, 0 ≤ x.acc) :
    CallR E mp lim 38 [.slice pl l.length k1, .slice pt t.length k2, .slice ps s.length k3, .agg #[.int .i64 c.id, .int .i64 c.item, .int .i64 c.tm, .int .u8 c.kind, .int .i64 c.post, .int .i64 c.val]] H Q =
      Q (.agg #[.int .i64 c.id, .int .i64 c.item, .int .i64 c.tm, .int .u8 c.kind, .int .i64 c.post, .int .i64 c.val, .int .i64 (fileS l t s c).x.item, .int .u8 (fileS l t s c).x.cls, .int .i64 (fileS l t s c).x.frm, .int .i64 (fileS l t s c).x.to, .int .i64 (fileS l t s c).x.acc, .int .i64 (fileS l t s c).x.del,
        .int .u8 (fileS l t s c).y.cls, .int .i64 (fileS l t s c).y.free, .int .i64 (fileS l t s c).y.share, .int .i64 (fileS l t s c).y.most, .int .i64 (fileS l t s c).y.aft, .int .i64 (fileS l t s c).y.lmt, .int .i64 (fileS l t s c).y.wthn,
        .int .i64 (fileS l t s c).p, .bool (fileS l t s c).kn, .bool (fileS l t s c).ht, .bool (decide (c.kind = 1)), .bool (decide (c.kind = 2)), .bool (fileS l t s c).dn]) H := by
  refine pc (by decide) e38 rfl rfl ?_
  rw [b38, c38]
  have hf : ∀ (mp : Bool) (lim : Nat) (X : Heap) (Q : Value → Heap → Prop), 
      CallR E mp lim 55 [.slice ps s.length k3, .func (.func 56) #[] #[.pointer (some ⟨H.length, 0, none⟩)]] (H ++ (.cells false [.int .i64 c.id, .int .i64 c.item, .int .i64 c.tm, .int .u8 c.kind, .int .i64 c.post, .int .i64 c.val] :: X)) Q = Q (.tuple #[.agg (encN ((s.find? fun x => decide (x.item = c.item)).getD default)).toArray, .bool (s.find? fun x => decide (x.item = c.item)).isSome]) (H ++ (.cells false [.int .i64 c.id, .int .i64 c.item, .int .i64 c.tm, .int .u8 c.kind, .int .i64 c.post, .int .i64 c.val] :: X)) := by
    intro mp lim X Q
    refine findN_ok (cs := [.pointer (some ⟨H.length, 0, none⟩)]) (fun x => decide (x.item = c.item)) (hs.app _) ns fun Y lim x Q => ?_
    exact wantN_ok (c := c) (r7 := false) (by rw [List.append_assoc, hget_new0]; rfl)
  cases hfs : s.find? fun x => decide (x.item = c.item) with
  | none =>
    simp only [n38, r38, hf, encN, hfs, Option.getD_none, Option.isSome_none, List.take_append_drop, SB, Nat.reduceLT, callee, aOp, ne_eq, Nat.reduceEqDiff, aBin, aUn, if_true, if_false, reduceCtorEq, frame0, place, notTuple, Nat.reduceAdd, Nat.reduceLeDiff, resVal, dite_true, dite_false, Int.reduceEq, Int.reduceLT, Int.reduceLE]
    simp [fileS, hfs]
    exact ⟨rfl, rfl, rfl, rfl, rfl, rfl, rfl⟩
  | some x =>
    have hP := fun mp lim X Q => promise_ok (mp := mp) (lim := lim) (cap := k1) (c := x.cls) (f := x.frm) (t := x.to) (a := x.acc) (Q := Q) (hl.app X) nl hr (ha x (List.mem_of_find?_eq_some hfs))
    have hf2 : ∀ (mp : Bool) (lim : Nat) (b0 b1 : Blk) (d : List Value) (X : Heap) (Q : Value → Heap → Prop), d[7]? = some (.int .u8 x.cls) →
        CallR E mp lim 57 [.slice pt t.length k2, .func (.func 58) #[] #[.pointer (some ⟨H.length + 2, 0, none⟩)]] (H ++ (b0 :: b1 :: .cells false d :: X)) Q = Q (.tuple #[.agg (encT ((t.find? fun y => decide (y.cls = x.cls)).getD default)).toArray, .bool (t.find? fun y => decide (y.cls = x.cls)).isSome]) (H ++ (b0 :: b1 :: .cells false d :: X)) := by
      intro mp lim b0 b1 d X Q hd
      refine findT_ok (cs := [.pointer (some ⟨H.length + 2, 0, none⟩)]) (fun y => decide (y.cls = x.cls)) (ht.app _) nt fun Y lim y Q => ?_
      exact wantT_ok (r9 := false) (d := d) (by rw [List.append_assoc, hget_new]; rfl) hd
    have e : fileS l t s c = ⟨x, (t.find? (fun y => decide (y.cls = x.cls))).getD default, (prom l x.cls x.frm x.to x.acc).1, true, (t.find? (fun y => decide (y.cls = x.cls))).isSome && (prom l x.cls x.frm x.to x.acc).2.2, decide (¬ x.del = -1) && decide (x.del ≤ c.tm)⟩ := by simp [fileS, hfs]
    rw [e]
    by_cases hd : x.del = -1
    · cases hft : t.find? (fun y => decide (y.cls = x.cls)) with
      | none =>
        simp only [n38, r38, hf, encN, encT, hfs, hP, hf2, hft, hd, Option.getD_some, Option.isSome_some, Option.getD_none, Option.isSome_none, not_true_eq_false, decide_false, Bool.false_and, Bool.true_and, Int.reduceNeg, SB, Nat.reduceLT, callee, aOp, ne_eq, Nat.reduceEqDiff, aBin, aUn, if_true, if_false, reduceCtorEq, frame0, place, notTuple, Nat.reduceAdd, Nat.reduceLeDiff, resVal, dite_true, dite_false, Int.reduceEq, Int.reduceLT, Int.reduceLE]
      | some y =>
        simp only [n38, r38, hf, encN, encT, hfs, hP, hf2, hft, hd, Option.getD_some, Option.isSome_some, Option.getD_none, Option.isSome_none, not_true_eq_false, decide_false, Bool.false_and, Bool.true_and, Int.reduceNeg, SB, Nat.reduceLT, callee, aOp, ne_eq, Nat.reduceEqDiff, aBin, aUn, if_true, if_false, reduceCtorEq, frame0, place, notTuple, Nat.reduceAdd, Nat.reduceLeDiff, resVal, dite_true, dite_false, Int.reduceEq, Int.reduceLT, Int.reduceLE]
    · cases hft : t.find? (fun y => decide (y.cls = x.cls)) with
      | none =>
        simp only [n38, r38, hf, encN, encT, hfs, hP, hf2, hft, hd, Option.getD_some, Option.isSome_some, Option.getD_none, Option.isSome_none, not_true_eq_false, decide_false, Bool.false_and, Bool.true_and, Int.reduceNeg, SB, Nat.reduceLT, callee, aOp, ne_eq, Nat.reduceEqDiff, aBin, aUn, if_true, if_false, reduceCtorEq, frame0, place, notTuple, Nat.reduceAdd, Nat.reduceLeDiff, resVal, dite_true, dite_false, Int.reduceEq, Int.reduceLT, Int.reduceLE]
      | some y =>
        simp only [n38, r38, hf, encN, encT, hfs, hP, hf2, hft, hd, Option.getD_some, Option.isSome_some, Option.getD_none, Option.isSome_none, not_true_eq_false, decide_false, Bool.false_and, Bool.true_and, Int.reduceNeg, SB, Nat.reduceLT, callee, aOp, ne_eq, Nat.reduceEqDiff, aBin, aUn, if_true, if_false, reduceCtorEq, frame0, place, notTuple, Nat.reduceAdd, Nat.reduceLeDiff, resVal, dite_true, dite_false, Int.reduceEq, Int.reduceLT, Int.reduceLE]

/-! ### The verdict, plainly -/
def minI (a b : Int) : Int := if b < a then b else a
/-- How many days late, begun ones counted. -/
def daysS (f : Fil) : Int := (f.x.del - f.p - f.y.free + 1439) / 1440
def paidS (c : Clm) (f : Fil) : Int := if c.kind = 2 then minI c.val f.y.lmt + c.post else shareS c.post (minI (daysS f * f.y.share) f.y.most)
def vrd (c : Clm) (f : Fil) : Int × Int :=
  if f.kn = false then (0, 1) else if f.ht = false then (0, 2)
  else if f.p + f.y.wthn * 1440 < c.tm then (0, 3)
  else if c.kind = 1 then (if f.dn = false then (0, 4) else if f.x.del ≤ f.p + f.y.free then (0, 5) else (paidS c f, 6))
  else (if f.dn = true then (0, 5) else if c.tm ≤ f.p + f.y.aft then (0, 4) else (paidS c f, 6))
/-- Within what a file lies. -/
structure FilOk (f : Fil) : Prop where
  p : 0 ≤ f.p ∧ f.p ≤ 1051898399
  free : 0 ≤ f.y.free ∧ f.y.free ≤ 100000
  share : 0 ≤ f.y.share ∧ f.y.share ≤ 10000
  most : 0 ≤ f.y.most ∧ f.y.most ≤ 10000
  aft : 0 ≤ f.y.aft ∧ f.y.aft ≤ 1000000
  lmt : 0 ≤ f.y.lmt ∧ f.y.lmt ≤ 250000000000000
  wthn : 0 ≤ f.y.wthn ∧ f.y.wthn ≤ 3650
  del : -1 ≤ f.x.del ∧ f.x.del ≤ 1051898399
theorem allFrom_mem {α : Type} [Inhabited α] {l : List α} {P : Nat → Bool} (h : allFrom P l.length 0 = true) {x : α} (hx : x ∈ l) : ∃ i, i < l.length ∧ gt l i = x ∧ P i = true := by
  obtain ⟨i, hi, rfl⟩ := List.mem_iff_getElem.1 hx
  exact ⟨i, hi, gt_lt hi, allFrom_iff.1 h i (Nat.zero_le _) hi⟩
theorem rightN_mem {s : List Snt} (h : rightN s = true) {x : Snt} (hx : x ∈ s) : okN x = true ∧ 1 ≤ x.cls := by
  simp only [rightN, Bool.and_eq_true] at h
  obtain ⟨i, _, rfl, hi⟩ := allFrom_mem h.2 hx
  simp only [okNAt, Bool.and_eq_true, decide_eq_true_eq] at hi
  exact ⟨hi.2, hi.1.1⟩
theorem rightT_mem {t : List Trm} (h : rightT t = true) {x : Trm} (hx : x ∈ t) : okT x = true := by
  simp only [rightT, Bool.and_eq_true] at h
  obtain ⟨i, _, rfl, hi⟩ := allFrom_mem h.2 hx
  simp only [okTAt, Bool.and_eq_true, decide_eq_true_eq] at hi
  exact hi.2
theorem rightC_one {c : Clm} (h : rightC [c] = true) : okC c = true ∧ (c.kind = 1 ∨ c.kind = 2) := by
  simp only [rightC, Bool.and_eq_true] at h
  obtain ⟨i, _, hg, hi⟩ := allFrom_mem h.2 (List.mem_singleton.2 rfl)
  simp only [okCAt, Bool.and_eq_true, decide_eq_true_eq] at hi
  rw [hg] at hi
  exact ⟨hi.2, hi.1.1⟩
theorem prom_le (l : List Std) (c f t a : Int) (hr : right l = true) (ha : 0 ≤ a) : 0 ≤ (prom l c f t a).1 ∧ (prom l c f t a).1 ≤ 1051898399 := by
  unfold prom
  split
  · simp
  · rename_i x hx
    have h1 := find_right hx hr
    simp [okStd, allIn, inB] at h1
    split
    · simp
    · rename_i h2
      have := dayEnd_pos (n := a + x.mins) (by omega)
      simp only
      omega
theorem file_ok {l : List Std} {t : List Trm} {s : List Snt} (c : Clm) (hl : right l = true) (ht : rightT t = true) (hs : rightN s = true) : FilOk (fileS l t s c) := by
  have hy : ∀ k : Int, let y := (t.find? (fun y => decide (y.cls = k))).getD default; (0 ≤ y.free ∧ y.free ≤ 100000) ∧ (0 ≤ y.share ∧ y.share ≤ 10000) ∧ (0 ≤ y.most ∧ y.most ≤ 10000) ∧ (0 ≤ y.aft ∧ y.aft ≤ 1000000) ∧ (0 ≤ y.lmt ∧ y.lmt ≤ 250000000000000) ∧ (0 ≤ y.wthn ∧ y.wthn ≤ 3650) := by
    intro k
    cases hf : t.find? (fun y => decide (y.cls = k)) with
    | none => simp only [Option.getD_none]; refine ⟨⟨?_, ?_⟩, ⟨?_, ?_⟩, ⟨?_, ?_⟩, ⟨?_, ?_⟩, ⟨?_, ?_⟩, ⟨?_, ?_⟩⟩ <;> decide
    | some y =>
      have := rightT_mem ht (List.mem_of_find?_eq_some hf)
      simp only [okT, allIn, inB, Bool.and_eq_true, decide_eq_true_eq, Bool.and_true] at this
      simp only [Option.getD_some]
      omega
  cases hf : s.find? (fun x => decide (x.item = c.item)) with
  | none =>
    have e : fileS l t s c = ⟨default, default, 0, false, false, false⟩ := by simp [fileS, hf]
    rw [e]
    constructor <;> simp only <;> decide
  | some x =>
    have e : fileS l t s c = ⟨x, (t.find? (fun y => decide (y.cls = x.cls))).getD default, (prom l x.cls x.frm x.to x.acc).1, true, (t.find? (fun y => decide (y.cls = x.cls))).isSome && (prom l x.cls x.frm x.to x.acc).2.2, decide (¬ x.del = -1) && decide (x.del ≤ c.tm)⟩ := by simp [fileS, hf]
    rw [e]
    have h1 := (rightN_mem hs (List.mem_of_find?_eq_some hf)).1
    simp only [okN, allIn, inB, Bool.and_eq_true, Bool.or_eq_true, decide_eq_true_eq, Bool.and_true] at h1
    have h2 := prom_le l x.cls x.frm x.to x.acc hl (by omega)
    obtain ⟨y1, y2, y3, y4, y5, y6⟩ := hy x.cls
    exact ⟨h2, y1, y2, y3, y4, y5, y6, by simp only; omega⟩

theorem decF_vrd {c : Clm} {f : Fil} (hc : okC c = true) (hk : c.kind = 1 ∨ c.kind = 2) (hf : FilOk f) : decF c f.x f.y f.p f.kn f.ht (decide (c.kind = 1)) (decide (c.kind = 2)) f.dn (paidS c f) = vrd c f := by
  obtain ⟨p1, p2, p3, p4, p5, p6, p7, p8⟩ := hf
  have w1 : IntKind.i64.wrap (f.y.wthn * 1440) = f.y.wthn * 1440 := wrap_id (by omega) (by omega)
  have w2 : IntKind.i64.wrap (f.p + f.y.wthn * 1440) = f.p + f.y.wthn * 1440 := wrap_id (by omega) (by omega)
  have w3 : IntKind.i64.wrap (f.p + f.y.free) = f.p + f.y.free := wrap_id (by omega) (by omega)
  have w4 : IntKind.i64.wrap (f.p + f.y.aft) = f.p + f.y.aft := wrap_id (by omega) (by omega)
  simp only [decF, vrd, w1, w2, w3, w4]
  rcases hk with hk | hk
  · simp only [hk, decide_true, Bool.true_and, show decide ((1 : Int) = 2) = false from rfl, Bool.false_and]
    cases f.dn <;> simp
  · simp only [hk, decide_true, Bool.true_and, show decide ((2 : Int) = 1) = false from rfl, Bool.false_and]
    cases f.dn <;> simp

theorem decF_six {c : Clm} {x : Snt} {y : Trm} {p : Int} {kn ht la lo dn : Bool} (h : decF c x y p kn ht la lo dn 0 = (0, 6)) : (la && decide (x.del ≤ IntKind.i64.wrap (p + y.free))) = false := by
  unfold decF at h
  repeat' split at h
  all_goals first
    | (simp at h; done)
    | simp_all

theorem paid_of {c : Clm} {f : Fil} (hc : okC c = true) (hk : c.kind = 1 ∨ c.kind = 2) (hf : FilOk f) (h : decF c f.x f.y f.p f.kn f.ht (decide (c.kind = 1)) (decide (c.kind = 2)) f.dn 0 = (0, 6)) {x : Snt} {y : Trm} {p : Int} {kn ht la lo dn : Bool}
    (e : f.x = x ∧ f.y = y ∧ f.p = p ∧ decide (c.kind = 2) = lo) {mp : Bool} {lim : Nat} {H : Heap} {Q : Value → Heap → Prop} : CallR E mp lim 60 [.agg #[.int .i64 c.id, .int .i64 c.item, .int .i64 c.tm, .int .u8 c.kind, .int .i64 c.post, .int .i64 c.val, .int .i64 x.item, .int .u8 x.cls, .int .i64 x.frm, .int .i64 x.to, .int .i64 x.acc, .int .i64 x.del, .int .u8 y.cls, .int .i64 y.free, .int .i64 y.share, .int .i64 y.most, .int .i64 y.aft, .int .i64 y.lmt, .int .i64 y.wthn, .int .i64 p, .bool kn, .bool ht, .bool la, .bool lo, .bool dn]] H Q = Q (.int .i64 (paidS c f)) H := by
  obtain ⟨rfl, rfl, rfl, rfl⟩ := e
  have h6 := decF_six h
  obtain ⟨p1, p2, p3, p4, p5, p6, p7, p8⟩ := hf
  simp only [okC, allIn, inB, Bool.and_eq_true, decide_eq_true_eq, Bool.and_true] at hc
  have w3 : IntKind.i64.wrap (f.p + f.y.free) = f.p + f.y.free := wrap_id (by omega) (by omega)
  refine paid_ok ?_
  rcases hk with hk | hk
  · right
    simp only [hk, decide_true, Bool.true_and, decide_eq_false_iff_not, w3] at h6
    refine ⟨by simp [hk], by omega, f.x.del - f.p - f.y.free, daysS f, ?_, ?_, ?_, ?_⟩
    · rw [wrap_id (n := f.x.del - f.p) (by omega) (by omega), wrap_id (by omega) (by omega)]
    · rw [wrap_id (n := f.x.del - f.p - f.y.free + 1440) (by omega) (by omega), wrap_id (n := f.x.del - f.p - f.y.free + 1440 - 1) (by omega) (by omega), Int.tdiv_eq_ediv_of_nonneg (by omega), wrap_id (by omega) (by omega)]
      unfold daysS
      congr 1
      omega
    · have hd : 1 ≤ daysS f ∧ daysS f ≤ 1000000 := by unfold daysS; omega
      have m1 : 0 ≤ daysS f * f.y.share := Int.mul_nonneg (by omega) p3.1
      have m2 : daysS f * f.y.share ≤ 1000000 * 10000 := Int.mul_le_mul hd.2 p3.2 p3.1 (by decide)
      rw [wrap_id (by omega) (by omega)]
      simp [paidS, hk, minI]
    · have hd : 1 ≤ daysS f ∧ daysS f ≤ 1000000 := by unfold daysS; omega
      have m1 : 0 ≤ daysS f * f.y.share := Int.mul_nonneg (by omega) p3.1
      have m2 : daysS f * f.y.share ≤ 1000000 * 10000 := Int.mul_le_mul hd.2 p3.2 p3.1 (by decide)
      rw [wrap_id (by omega) (by omega)]
      split <;> omega
  · left
    refine ⟨by simp [hk], ?_⟩
    rw [wrap_id]
    · simp [paidS, hk, minI]
    · split <;> omega
    · split <;> omega

/-- What 'Decide' gives: cents, verdict, error. -/
def decideS (l : List Std) (t : List Trm) (s : List Snt) (c : Clm) : Int × Int := vrd c (fileS l t s c)
theorem checkS_ok {l : List Std} {t : List Trm} {s : List Snt} {c : List Clm} (h : checkS l t s c = 0) : right l = true ∧ rightT t = true ∧ rightN s = true ∧ rightC c = true := by
  unfold checkS at h
  repeat' split at h
  all_goals first
    | (exact absurd h (by decide))
    | (simp only [Bool.not_eq_false] at *; refine ⟨?_, ?_, ?_, ?_⟩ <;> assumption)
theorem Decide_ok {mp : Bool} {lim : Nat} {pl pt ps : Option Addr} {l : List Std} {t : List Trm} {s : List Snt} {c : Clm} {k1 k2 k3 : Nat} {H : Heap} {Q : Value → Heap → Prop}
    (hl : Sl H encS 4 pl l) (ht : Sl H encT 7 pt t) (hs : Sl H encN 6 ps s) (nl : l.length < 2 ^ 62) (nt : t.length < 2 ^ 62) (ns : s.length < 2 ^ 62) :
    CallR E mp lim 15 [.slice pl l.length k1, .slice pt t.length k2, .slice ps s.length k3, .agg #[.int .i64 c.id, .int .i64 c.item, .int .i64 c.tm, .int .u8 c.kind, .int .i64 c.post, .int .i64 c.val]] H Q =
      Q (.tuple #[.agg (if checkS l t s [c] = 0 then #[.int .i64 c.id, .int .i64 (decideS l t s c).1, .int .u8 (decideS l t s c).2] else #[.int .i64 0, .int .i64 0, .int .u8 0]), .int .i64 (checkS l t s [c])]) H := by
  have hfl : flat 4 (.tuple #[.agg (if checkS l t s [c] = 0 then #[.int .i64 c.id, .int .i64 (decideS l t s c).1, .int .u8 (decideS l t s c).2] else #[.int .i64 0, .int .i64 0, .int .u8 0]), .int .i64 (checkS l t s [c])]) = true := by
    split <;> rfl
  refine pc (by decide) e15 rfl hfl ?_
  rw [b15, c15]
  have hck : ∀ (mp : Bool) (lim : Nat) (b0 b1 : Blk) (ro : Bool) (X : Heap) (Q : Value → Heap → Prop), CallR E mp lim 37 [.slice pl l.length k1, .slice pt t.length k2, .slice ps s.length k3, .slice (some ⟨H.length + 2, 0, none⟩) 1 1] (H ++ (b0 :: b1 :: .cells ro [.int .i64 c.id, .int .i64 c.item, .int .i64 c.tm, .int .u8 c.kind, .int .i64 c.post, .int .i64 c.val] :: X)) Q =
      Q (.int .i64 (checkS l t s [c])) (H ++ (b0 :: b1 :: .cells ro [.int .i64 c.id, .int .i64 c.item, .int .i64 c.tm, .int .u8 c.kind, .int .i64 c.post, .int .i64 c.val] :: X)) := by
    intro mp lim b0 b1 ro X Q
    exact check_ok (c := [c]) (hl.app _) (ht.app _) (hs.app _) (Sl.lit encC_len (by rw [hget_new]; rfl) (by rw [hget_new]; rfl)) nl nt ns (by simp)
  by_cases h0 : checkS l t s [c] = 0
  · obtain ⟨r1, r2, r3, r4⟩ := checkS_ok h0
    obtain ⟨o1, o2⟩ := rightC_one r4
    have hfo := file_ok c r1 r2 r3
    have ho := fun mp lim X Q => open_ok (mp := mp) (lim := lim) (k1 := k1) (k2 := k2) (k3 := k3) (c := c) (Q := Q) (hl.app X) (ht.app X) (hs.app X) nl nt ns r1 (fun x hx => by
      have := (rightN_mem r3 hx).1
      simp only [okN, allIn, inB, Bool.and_eq_true, decide_eq_true_eq, Bool.and_true] at this
      omega)
    have hd := fun mp lim X Q => decide_ok (mp := mp) (lim := lim) (H := H ++ X) (Q := Q) (c := c) (x := (fileS l t s c).x) (y := (fileS l t s c).y) (p := (fileS l t s c).p) (kn := (fileS l t s c).kn) (ht := (fileS l t s c).ht) (la := decide (c.kind = 1)) (lo := decide (c.kind = 2)) (dn := (fileS l t s c).dn) (n := paidS c (fileS l t s c))
      (fun h mp lim H Q => paid_of o1 o2 hfo (h 0) ⟨rfl, rfl, rfl, rfl⟩)
    rw [decF_vrd o1 o2 hfo] at hd
    simp only [n15, r15, hck, h0, ho, hd, decideS, SB, Nat.reduceLT, callee, aOp, ne_eq, Nat.reduceEqDiff, aBin, aUn, if_true, if_false, reduceCtorEq, frame0, place, notTuple, Nat.reduceAdd, Nat.reduceLeDiff, resVal, dite_true, dite_false, Int.reduceEq, Int.reduceLT, Int.reduceLE]
  · simp only [n15, r15, hck, h0, SB, Nat.reduceLT, callee, aOp, ne_eq, Nat.reduceEqDiff, aBin, aUn, if_true, if_false, reduceCtorEq, frame0, place, notTuple, Nat.reduceAdd, Nat.reduceLeDiff, resVal, dite_true, dite_false, Int.reduceEq, Int.reduceLT, Int.reduceLE]
end Go.Proofs.Ytlmoijifgbkapaa.Fn
namespace Go.Proofs.Ytlmoijifgbkapaa.Fn
open Go.AM Go.AM.Sym
set_option maxRecDepth 100000
set_option linter.unusedVariables false
set_option linter.unusedSimpArgs false
set_option maxHeartbeats 4000000

/-! ### The plain law -/
theorem shareS_bound {n p : Int} (hn : 0 ≤ n) (hp : 0 ≤ p ∧ p ≤ 10000) : 0 ≤ shareS n p ∧ shareS n p ≤ n := by
  unfold shareS
  have h1 : 0 ≤ n / 10000 * p := Int.mul_nonneg (by omega) hp.1
  have h2 : n / 10000 * p ≤ n / 10000 * 10000 := Int.mul_le_mul_of_nonneg_left hp.2 (by omega)
  have h3 : 0 ≤ n % 10000 * p := Int.mul_nonneg (by omega) hp.1
  have h4 : n % 10000 * p ≤ n % 10000 * 10000 := Int.mul_le_mul_of_nonneg_left hp.2 (by omega)
  omega
theorem shareS_mono {n p q : Int} (hn : 0 ≤ n) (h : p ≤ q) : shareS n p ≤ shareS n q := by
  unfold shareS
  have h2 : n / 10000 * p ≤ n / 10000 * q := Int.mul_le_mul_of_nonneg_left h (by omega)
  have h4 : n % 10000 * p ≤ n % 10000 * q := Int.mul_le_mul_of_nonneg_left h (by omega)
  omega
theorem parts_bound {f : Fil} (hf : FilOk f) (hd : 0 ≤ daysS f) : 0 ≤ minI (daysS f * f.y.share) f.y.most ∧ minI (daysS f * f.y.share) f.y.most ≤ 10000 := by
  have m1 : 0 ≤ daysS f * f.y.share := Int.mul_nonneg hd hf.share.1
  have := hf.most
  unfold minI
  split <;> omega
theorem vrd_late {c : Clm} {f : Fil} (hk : c.kind = 1) (hc : 0 ≤ c.post) (hf : FilOk f) : 0 ≤ (vrd c f).1 ∧ (vrd c f).1 ≤ c.post ∧ ((vrd c f).2 = 6 → f.p + f.y.free < f.x.del) := by
  unfold vrd
  simp only [hk, if_true]
  split
  · simp [hc]
  · split
    · simp [hc]
    · split
      · simp [hc]
      · split
        · simp [hc]
        · split
          · simp [hc]
          · rename_i h
            have hd : 0 ≤ daysS f := by unfold daysS; omega
            have hb := parts_bound hf hd
            have := shareS_bound hc hb
            simp only [paidS, hk, show ((1 : Int) = 2) = False from by decide, if_false]
            exact ⟨this.1, this.2, fun _ => by omega⟩
theorem vrd_lost {c : Clm} {f : Fil} (hk : c.kind = 2) (hc : 0 ≤ c.post) (hv : 0 ≤ c.val) (hf : FilOk f) : (vrd c f).1 ≤ f.y.lmt + c.post ∧ (f.dn = true → (vrd c f).1 ≤ 0) := by
  have h1 := hf.lmt
  unfold vrd
  simp only [hk, show ((2 : Int) = 1) = False from by decide, if_false]
  split
  · simp; omega
  · split
    · simp; omega
    · split
      · simp; omega
      · split
        · simp; omega
        · rename_i h
          split
          · simp; omega
          · simp only [paidS, hk, if_true, minI]
            refine ⟨by split <;> omega, fun h' => absurd h' h⟩

/-- The limit of a class, as the law looks for it. -/
def limS (t : List Trm) (k : Int) : Int := t.foldl (fun a y => if y.cls = k then y.lmt else a) 0
theorem limS_none {k : Int} : ∀ (t : List Trm) (a : Int), (∀ y ∈ t, y.cls ≠ k) → t.foldl (fun a y => if y.cls = k then y.lmt else a) a = a
  | [], _, _ => rfl
  | y :: t, a, h => by
    rw [List.foldl_cons, if_neg (h y (by simp))]
    exact limS_none t a fun z hz => h z (by simp [hz])
theorem limS_find {k : Int} : ∀ (t : List Trm) (a : Int), t.Pairwise (fun x y => x.cls < y.cls) → t.foldl (fun a y => if y.cls = k then y.lmt else a) a = match t.find? (fun y => decide (y.cls = k)) with | none => a | some y => y.lmt
  | [], _, _ => rfl
  | y :: t, a, h => by
    rw [List.pairwise_cons] at h
    rw [List.foldl_cons, List.find?_cons]
    by_cases hk : y.cls = k
    · simp only [hk, if_true, decide_true]
      exact limS_none t _ fun z hz => by have := h.1 z hz; omega
    · simp only [hk, if_false, decide_false]
      exact limS_find t a h.2
theorem rightT_pair {t : List Trm} (h : rightT t = true) : t.Pairwise (fun x y => x.cls < y.cls) := by
  simp only [rightT, Bool.and_eq_true, allFrom_iff] at h
  have key : ∀ i j, i < j → j < t.length → (gt t i).cls < (gt t j).cls := by
    intro i j hij hj
    induction j with
    | zero => omega
    | succ j ih =>
      have h1 := h.2 (j + 1) (Nat.zero_le _) hj
      simp only [okTAt, Bool.and_eq_true, Bool.or_eq_true, decide_eq_true_eq, Nat.add_sub_cancel] at h1
      have h2 : (gt t j).cls < (gt t (j + 1)).cls := by omega
      by_cases hi : i = j
      · subst hi; exact h2
      · have := ih (by omega) (by omega)
        omega
  rw [List.pairwise_iff_getElem]
  intro i j hi hj hij
  have := key i j hij hj
  rwa [gt_lt hi, gt_lt hj] at this
theorem limS_right {t : List Trm} (h : rightT t = true) (k : Int) : limS t k = ((t.find? (fun y => decide (y.cls = k))).getD default).lmt := by
  unfold limS
  rw [limS_find t 0 (rightT_pair h)]
  cases t.find? (fun y => decide (y.cls = k)) <;> rfl

/-- The first item, found. -/
theorem fileS_first {l : List Std} {t : List Trm} {s : List Snt} {c : Clm} (hs : 0 < s.length) (hc : c.item = (gt s 0).item) : fileS l t s c = ⟨gt s 0, (t.find? (fun y => decide (y.cls = (gt s 0).cls))).getD default, (prom l (gt s 0).cls (gt s 0).frm (gt s 0).to (gt s 0).acc).1, true,
    (t.find? (fun y => decide (y.cls = (gt s 0).cls))).isSome && (prom l (gt s 0).cls (gt s 0).frm (gt s 0).to (gt s 0).acc).2.2, decide (¬ (gt s 0).del = -1) && decide ((gt s 0).del ≤ c.tm)⟩ := by
  have : s.find? (fun x => decide (x.item = c.item)) = some (gt s 0) := by
    match s, hs with
    | x :: s, _ => simp [hc, gt]
  simp [fileS, this]

/-- A later delivery of the first item. -/
def lateS (s : List Snt) (d : Int) : List Snt := { gt s 0 with del := d } :: s.tail
theorem lateS_gt0 {s : List Snt} {d : Int} : gt (lateS s d) 0 = { gt s 0 with del := d } := rfl
theorem lateS_len {s : List Snt} {d : Int} (hs : 0 < s.length) : (lateS s d).length = s.length := by
  unfold lateS; simp; omega
theorem lateS_right {s : List Snt} {d : Int} (hs : 0 < s.length) (hr : rightN s = true) (hd : 0 ≤ (gt s 0).del ∧ (gt s 0).del ≤ d) : rightN (lateS s d) = decide (d ≤ 1051898399) := by
  match s, hs with
  | x :: r, _ =>
    have hx0 : gt (x :: r) 0 = x := rfl
    rw [hx0] at hd
    have hu : lateS (x :: r) d = { x with del := d } :: r := rfl
    rw [hu]
    simp only [rightN, Bool.and_eq_true, decide_eq_true_eq] at hr
    obtain ⟨h1, h2⟩ := hr
    rw [Bool.eq_iff_iff, decide_eq_true_eq]
    simp only [rightN, Bool.and_eq_true, decide_eq_true_eq]
    have h0 := allFrom_iff.1 h2 0 (Nat.le_refl _) (by simp)
    simp only [okNAt, hx0, Bool.and_eq_true, decide_eq_true_eq, okN, allIn, inB, Bool.or_eq_true, Bool.and_true] at h0
    have hg0 : gt ({ x with del := d } :: r) 0 = { x with del := d } := rfl
    constructor
    · rintro ⟨_, h3⟩
      have h4 := allFrom_iff.1 h3 0 (Nat.le_refl _) (by simp)
      simp only [okNAt, hg0, Bool.and_eq_true, decide_eq_true_eq, okN, allIn, inB, Bool.or_eq_true, Bool.and_true] at h4
      omega
    · intro hd2
      refine ⟨by simpa using h1, allFrom_iff.2 fun j _ hj => ?_⟩
      match j with
      | 0 =>
        simp only [okNAt, hg0, Bool.and_eq_true, decide_eq_true_eq, okN, allIn, inB, Bool.or_eq_true, Bool.and_true]
        refine ⟨⟨h0.1.1, by simp⟩, h0.2.1, ?_⟩
        omega
      | j + 1 =>
        have h4 := allFrom_iff.1 h2 (j + 1) (Nat.zero_le _) (by simpa using hj)
        simp only [okNAt, gt_cons_succ, List.take_succ_cons, List.map_cons] at h4 ⊢
        exact h4

theorem vrd_later {c : Clm} {f f' : Fil} (hk : c.kind = 1) (hc : 0 ≤ c.post) (hf : FilOk f) (hf' : FilOk f') (e1 : f'.y = f.y) (e2 : f'.p = f.p) (e3 : f'.kn = f.kn) (e4 : f'.ht = f.ht) (e5 : f.dn = true) (e6 : f'.dn = true) (e7 : f.x.del ≤ f'.x.del) : (vrd c f).1 ≤ (vrd c f').1 := by
  have hnn := (vrd_late hk hc hf').1
  by_cases h0 : (vrd c f).1 ≤ 0
  · omega
  · have k1 : ¬ f.kn = false := fun a => h0 (by simp [vrd, a])
    have k2 : ¬ f.ht = false := fun a => h0 (by simp [vrd, k1, a])
    have k3 : ¬ f.p + f.y.wthn * 1440 < c.tm := fun a => h0 (by simp [vrd, k1, k2, a])
    have k4 : ¬ f.x.del ≤ f.p + f.y.free := fun a => h0 (by simp [vrd, k1, k2, k3, hk, e5, a])
    have k5 : (vrd c f).1 = paidS c f := by
      unfold vrd
      rw [if_neg k1, if_neg k2, if_neg k3, if_pos hk, if_neg (by simp [e5]), if_neg k4]
    have k6 : (vrd c f').1 = paidS c f' := by
      unfold vrd
      rw [if_neg (by rw [e3]; exact k1), if_neg (by rw [e4]; exact k2), if_neg (by rw [e1, e2]; exact k3), if_pos hk, if_neg (by simp [e6]), if_neg (by rw [e1, e2]; omega)]
    rw [k5, k6]
    simp only [paidS, hk, show ((1 : Int) = 2) = False from by decide, if_false]
    refine shareS_mono hc ?_
    have hd : daysS f ≤ daysS f' := by unfold daysS; rw [e1, e2]; omega
    have hm : daysS f * f.y.share ≤ daysS f' * f.y.share := Int.mul_le_mul_of_nonneg_right hd hf.share.1
    rw [e1]
    unfold minI
    split <;> split <;> omega

/-! ### The walk -/
theorem few_ok {mp : Bool} {lim : Nat} {p1 p2 p3 p4 : Option Addr} {n1 n2 n3 n4 k1 k2 k3 k4 : Nat} {H : Heap} {Q : Value → Heap → Prop} :
    CallR E mp lim 14 [.slice p1 n1 k1, .slice p2 n2 k2, .slice p3 n3 k3, .slice p4 n4 k4] H Q = Q (.bool (decide (n1 ≤ 60 ∧ n2 ≤ 60 ∧ n3 ≤ 60 ∧ n4 ≤ 60))) H := by
  refine pc (by decide) e14 rfl rfl ?_
  rw [b14, c14]
  simp only [n14, r14, aMinMaxAll, aMinMax, SB, Nat.reduceLT, callee, aOp, ne_eq, Nat.reduceEqDiff, aBin, aUn, if_true, if_false, reduceCtorEq, frame0, place, notTuple, Nat.reduceAdd, Nat.reduceLeDiff, resVal, dite_true, dite_false, Int.reduceEq, Int.reduceLT, Int.reduceLE]
  congr 1
  rw [decide_eq_decide]
  repeat' split
  all_goals simp at *
  all_goals omega

theorem append_fresh {α : Type} {lim b e bytes c : Nat} {H : Heap} {enc : α → List Value} {p : Option Addr} {l : List α} (hb : hget H b = .cells false []) (hs : Sl H enc e p l) (hp : p ≠ none) (h0 : l.length ≠ 0) (h1 : e ≠ 0) (h2 : l.length * bytes ≤ maxBytes) (h3 : l.length < 2 ^ 62) :
    aAppend lim none e bytes false (.slice (some ⟨b, 0, none⟩) 0 0) (.slice p l.length c) H = some (.slice (some ⟨H.length, 0, none⟩) l.length (loose e), H ++ [.cells false (l.flatMap enc)]) := by
  cases p with
  | none => exact absurd rfl hp
  | some a =>
    obtain ⟨k1, k2⟩ := hs
    obtain ⟨ro, cs, k3, k4, k5⟩ := k2 (by rintro rfl; exact h0 rfl)
    have hl : AM.loadCells H a (l.length * e) = some (l.flatMap enc) := by
      obtain ⟨ab, ao, as'⟩ := a
      simp only [loadCells_lit]
      simp only at k3 k4 k5
      simp only [k3]
      rw [if_pos k4, k5]
    have h0' : AM.loadCells H ⟨b, 0, none⟩ (0 * e) = some [] := by simp [loadCells_lit, hb]
    simp only [aAppend, firstCells, lenOf, hl, h0', h0, Nat.zero_add, Nat.not_lt_zero, or_false, h1, false_or, Bool.false_eq_true, if_false]
    rw [if_neg (by omega), if_neg (by unfold loose; omega), if_pos (by decide), if_neg (by omega)]
    simp [place]

theorem ClaimLater_ok {mp : Bool} {lim : Nat} {pl pt ps : Option Addr} {l : List Std} {t : List Trm} {s : List Snt} {c : Clm} {d : Int} {k1 k2 k3 : Nat} {H : Heap} {Q : Value → Heap → Prop}
    (hl : Sl H encS 4 pl l) (ht : Sl H encT 7 pt t) (hs : Sl H encN 6 ps s) (hp : s ≠ [] → ps ≠ none) :
    CallR E mp lim 4 [.slice pl l.length k1, .slice pt t.length k2, .slice ps s.length k3, .agg #[.int .i64 c.id, .int .i64 c.item, .int .i64 c.tm, .int .u8 c.kind, .int .i64 c.post, .int .i64 c.val], .int .i64 d] H Q = Q (.bool true) H := by
  refine pc (by decide) e4 rfl rfl ?_
  rw [b4, c4]
  by_cases h60 : l.length ≤ 60 ∧ t.length ≤ 60 ∧ s.length ≤ 60
  case neg => simp only [n4, r4, awake_ok, few_ok, h60, SB, Nat.reduceLT, callee, aOp, ne_eq, Nat.reduceEqDiff, aBin, aUn, if_true, if_false, reduceCtorEq, frame0, place, notTuple, Nat.reduceAdd, Nat.reduceLeDiff, resVal, dite_true, dite_false, Int.reduceEq, Int.reduceLT, Int.reduceLE]
  obtain ⟨n1, n2, n3⟩ := h60
  by_cases h0 : (s.length : Int) = 0
  · simp only [n4, r4, awake_ok, few_ok, n1, n2, n3, h0, Nat.zero_le, Int.ofNat_eq_zero, SB, Nat.reduceLT, callee, aOp, ne_eq, Nat.reduceEqDiff, aBin, aUn, if_true, if_false, reduceCtorEq, frame0, place, notTuple, Nat.reduceAdd, Nat.reduceLeDiff, resVal, dite_true, dite_false, Int.reduceEq, Int.reduceLT, Int.reduceLE]
  have h0' : 0 < s.length := by omega
  have hx0 : gt s 0 ∈ s := gt_mem h0'
  have hld := fun X j hj => (hs.app X).loadCell (i := 0) (j := j) encN_len h0' hj
  have hidx0 : ∀ c (k : IntKind) (H1 : Heap), idxK 6 (.slice ps s.length c) (.int k 0) H1 = some (.pointer (some (elt ps 6 0)), H1) := fun c k H1 => hs.idx (i := 0) (c := c) (k := k) (H1 := H1) h0'
  generalize hgx : gt s 0 = x at *
  by_cases hdel : x.del < 0
  · simp only [n4, r4, awake_ok, few_ok, n1, n2, n3, h0, Nat.zero_le, hidx0, hld, encN, hdel, SB, Nat.reduceLT, callee, aOp, ne_eq, Nat.reduceEqDiff, aBin, aUn, if_true, if_false, reduceCtorEq, frame0, place, notTuple, Nat.reduceAdd, Nat.reduceLeDiff, resVal, dite_true, dite_false, Int.reduceEq, Int.reduceLT, Int.reduceLE]
  have ho := fun mp lim X Q => Decide_ok (mp := mp) (lim := lim) (c := ⟨c.id, x.item, c.tm, c.kind, c.post, c.val⟩) (k1 := k1) (k2 := k2) (k3 := k3) (Q := Q) (hl.app X) (ht.app X) (hs.app X) (by omega) (by omega) (by omega)
  generalize hc : (⟨c.id, x.item, c.tm, c.kind, c.post, c.val⟩ : Clm) = c' at ho
  have e1 : c'.id = c.id := by rw [← hc]
  have e2 : c'.item = x.item := by rw [← hc]
  have e3 : c'.tm = c.tm := by rw [← hc]
  have e4' : c'.kind = c.kind := by rw [← hc]
  have e5' : c'.post = c.post := by rw [← hc]
  have e6 : c'.val = c.val := by rw [← hc]
  rw [e1, e2, e3, e4', e5', e6] at ho
  by_cases hck : checkS l t s [c'] = 0
  case neg => simp only [n4, r4, awake_ok, few_ok, n1, n2, n3, h0, Nat.zero_le, hidx0, hld, encN, hdel, ho, hck, SB, Nat.reduceLT, callee, aOp, ne_eq, Nat.reduceEqDiff, aBin, aUn, if_true, if_false, reduceCtorEq, frame0, place, notTuple, Nat.reduceAdd, Nat.reduceLeDiff, resVal, dite_true, dite_false, Int.reduceEq, Int.reduceLT, Int.reduceLE]
  simp only [n4, r4, awake_ok, few_ok, n1, n2, n3, h0, Nat.zero_le, hidx0, hld, encN, hdel, ho, hck, SB, Nat.reduceLT, callee, aOp, ne_eq, Nat.reduceEqDiff, aBin, aUn, if_true, if_false, reduceCtorEq, frame0, place, notTuple, Nat.reduceAdd, Nat.reduceLeDiff, resVal, dite_true, dite_false, Int.reduceEq, Int.reduceLT, Int.reduceLE]
  refine Ret_rounds (fun i => t.length - i) (fun i fr G => i ≤ t.length ∧ fr 0 = .slice pl l.length k1 ∧ fr 1 = .slice pt t.length k2 ∧ fr 2 = .slice ps s.length k3 ∧ fr 4 = .int .i64 d ∧ fr 8 = .pointer (some ⟨H.length, 0, none⟩) ∧ fr 11 = .pointer (some ⟨H.length + 1, 0, none⟩) ∧
    fr 13 = .int .i64 (limS (t.take i) x.cls) ∧ fr 14 = .int .i64 (i : Int) ∧
    G = H ++ [.cells false [.int .i64 c.id, .int .i64 x.item, .int .i64 c.tm, .int .u8 c.kind, .int .i64 c.post, .int .i64 c.val], .cells false [.int .i64 c.id, .int .i64 (decideS l t s c').1, .int .u8 (decideS l t s c').2]]) 0 ⟨Nat.zero_le _, (by simp only [upd_same, upd_ne, ne_eq, Nat.reduceEqDiff, not_false_eq_true, frame0, List.getD_cons_zero, List.getD_cons_succ]), (by simp only [upd_same, upd_ne, ne_eq, Nat.reduceEqDiff, not_false_eq_true, frame0, List.getD_cons_zero, List.getD_cons_succ]), (by simp only [upd_same, upd_ne, ne_eq, Nat.reduceEqDiff, not_false_eq_true, frame0, List.getD_cons_zero, List.getD_cons_succ]), (by simp only [upd_same, upd_ne, ne_eq, Nat.reduceEqDiff, not_false_eq_true, frame0, List.getD_cons_zero, List.getD_cons_succ]), (by simp only [upd_same, upd_ne, ne_eq, Nat.reduceEqDiff, not_false_eq_true, frame0, List.getD_cons_zero, List.getD_cons_succ]), (by simp only [upd_same, upd_ne, ne_eq, Nat.reduceEqDiff, not_false_eq_true, frame0, List.getD_cons_zero, List.getD_cons_succ]), by rfl, by rfl, rfl⟩ ?_
  intro i fr G ⟨hi, g0, g1, g2, g4, g8, g11, g13, g14, hG⟩ hN
  subst hG
  rw [Ret_code l4_1.eq_1]
  by_cases hlt : i < t.length
  · have hldt := fun X j hj => (ht.app X).loadCell (i := i) (j := j) encT_len hlt hj
    have hidxt : ∀ c (k : IntKind) (H1 : Heap), idxK 7 (.slice pt t.length c) (.int k (i : Int)) H1 = some (.pointer (some (elt pt 7 i)), H1) := fun c k H1 => ht.idx (i := i) (c := c) (k := k) (H1 := H1) hlt
    have hw1 : IntKind.i64.wrap ((i : Int) + 1) = ((i + 1 : Nat) : Int) := wrap_nat (by omega)
    have hstep : limS (t.take (i + 1)) x.cls = if (gt t i).cls = x.cls then (gt t i).lmt else limS (t.take i) x.cls := by
      unfold limS
      rw [List.take_succ_eq_append_getElem hlt, List.foldl_append, gt_lt hlt]
      rfl
    simp only [n4, r4, g0, g1, g2, g4, g8, g11, g13, g14, hlt, hidx0, hld, hldt, hidxt, encN, encT, hw1, SB, Nat.reduceLT, callee, aOp, ne_eq, Nat.reduceEqDiff, aBin, aUn, if_true, if_false, reduceCtorEq, frame0, place, notTuple, Nat.reduceAdd, Nat.reduceLeDiff, resVal, dite_true, dite_false, Int.reduceEq, Int.reduceLT, Int.reduceLE]
    repeat' ((first | refine wantK_dec (fun hw => ?_) (fun hw => ?_) | refine condK_dec (fun hw => ?_) (fun hw => ?_) | refine wantK_any (fun hw => ?_) (fun hw => ?_) | refine condK_any (fun hw => ?_) (fun hw => ?_)) <;> (try simp only [hw, n4, r4, g0, g1, g2, g4, g8, g11, g13, g14, hlt, hidx0, hld, hldt, hidxt, encN, encT, hw1, SB, Nat.reduceLT, callee, aOp, ne_eq, Nat.reduceEqDiff, aBin, aUn, if_true, if_false, reduceCtorEq, frame0, place, notTuple, Nat.reduceAdd, Nat.reduceLeDiff, resVal, dite_true, dite_false, Int.reduceEq, Int.reduceLT, Int.reduceLE]))
    · refine hN (i + 1) _ _ ⟨by omega, (by simp only [g0, upd_same, upd_ne, ne_eq, Nat.reduceEqDiff, not_false_eq_true, frame0, List.getD_cons_zero, List.getD_cons_succ]), (by simp only [g1, upd_same, upd_ne, ne_eq, Nat.reduceEqDiff, not_false_eq_true, frame0, List.getD_cons_zero, List.getD_cons_succ]), (by simp only [g2, upd_same, upd_ne, ne_eq, Nat.reduceEqDiff, not_false_eq_true, frame0, List.getD_cons_zero, List.getD_cons_succ]), (by simp only [g4, upd_same, upd_ne, ne_eq, Nat.reduceEqDiff, not_false_eq_true, frame0, List.getD_cons_zero, List.getD_cons_succ]), (by simp only [g8, upd_same, upd_ne, ne_eq, Nat.reduceEqDiff, not_false_eq_true, frame0, List.getD_cons_zero, List.getD_cons_succ]), (by simp only [g11, upd_same, upd_ne, ne_eq, Nat.reduceEqDiff, not_false_eq_true, frame0, List.getD_cons_zero, List.getD_cons_succ]), ?_, (by simp only [upd_same, upd_ne, ne_eq, Nat.reduceEqDiff, not_false_eq_true, frame0, List.getD_cons_zero, List.getD_cons_succ]), rfl⟩ (by omega)
      rw [hstep, if_pos hw]
      exact (by simp only [upd_same, upd_ne, ne_eq, Nat.reduceEqDiff, not_false_eq_true, frame0, List.getD_cons_zero, List.getD_cons_succ])
    · refine hN (i + 1) _ _ ⟨by omega, (by simp only [g0, upd_same, upd_ne, ne_eq, Nat.reduceEqDiff, not_false_eq_true, frame0, List.getD_cons_zero, List.getD_cons_succ]), (by simp only [g1, upd_same, upd_ne, ne_eq, Nat.reduceEqDiff, not_false_eq_true, frame0, List.getD_cons_zero, List.getD_cons_succ]), (by simp only [g2, upd_same, upd_ne, ne_eq, Nat.reduceEqDiff, not_false_eq_true, frame0, List.getD_cons_zero, List.getD_cons_succ]), (by simp only [g4, upd_same, upd_ne, ne_eq, Nat.reduceEqDiff, not_false_eq_true, frame0, List.getD_cons_zero, List.getD_cons_succ]), (by simp only [g8, upd_same, upd_ne, ne_eq, Nat.reduceEqDiff, not_false_eq_true, frame0, List.getD_cons_zero, List.getD_cons_succ]), (by simp only [g11, upd_same, upd_ne, ne_eq, Nat.reduceEqDiff, not_false_eq_true, frame0, List.getD_cons_zero, List.getD_cons_succ]), ?_, (by simp only [upd_same, upd_ne, ne_eq, Nat.reduceEqDiff, not_false_eq_true, frame0, List.getD_cons_zero, List.getD_cons_succ]), rfl⟩ (by omega)
      rw [hstep, if_neg hw]
      exact (by simp only [g13, upd_same, upd_ne, ne_eq, Nat.reduceEqDiff, not_false_eq_true, frame0, List.getD_cons_zero, List.getD_cons_succ])
  · obtain rfl : i = t.length := by omega
    rw [List.take_length] at g13
    clear hN
    obtain ⟨r1, r2, r3, r4'⟩ := checkS_ok hck
    obtain ⟨o1, o2⟩ := rightC_one r4'
    have hfo := file_ok c' r1 r2 r3
    have hff := fileS_first (l := l) (t := t) (c := c') h0' (by rw [hgx]; exact e2)
    rw [hgx] at hff
    have hxr := rightN_mem r3 hx0
    simp only [okN, allIn, inB, Bool.and_eq_true, Bool.or_eq_true, decide_eq_true_eq, Bool.and_true] at hxr
    simp only [okC, allIn, inB, Bool.and_eq_true, decide_eq_true_eq, Bool.and_true, e1, e2, e3, e5', e6] at o1
    have hlim := limS_right r2 x.cls
    have hlr := hfo.lmt
    have hdn : (fileS l t s c').dn = decide (x.del ≤ c.tm) := by rw [hff, e3]; simp; omega
    have hfp : (fileS l t s c').p = (prom l x.cls x.frm x.to x.acc).1 := by rw [hff]
    have hfx : (fileS l t s c').x = x := by rw [hff]
    have hfl : (fileS l t s c').y.lmt = limS t x.cls := by rw [hff, hlim]
    have hP := fun mp lim X Q => Promise_ok (mp := mp) (lim := lim) (cap := k1) (c := x.cls) (f := x.frm) (t := x.to) (a := x.acc) (Q := Q) (hl.app X) (by omega)
    have hpk := fun mp lim X Q => Pick_ok (mp := mp) (lim := lim) (a := d) (n := 20000) (H := H ++ X) (Q := Q) (by decide) (by decide)
    have hd1 := Int.emod_nonneg d (show (20000 : Int) ≠ 0 by decide)
    have hd2 := Int.emod_lt_of_pos d (show (0 : Int) < 20000 by decide)
    have hwd : IntKind.i64.wrap (x.del + d % 20000) = x.del + d % 20000 := wrap_id (by omega) (by omega)
    generalize hdd : x.del + d % 20000 = d' at hwd
    have happ := fun b0 b1 X c => append_fresh (lim := H.length) (bytes := 48) (c := c) (b := H.length + 2) (H := H ++ (b0 :: b1 :: .cells false [] :: X)) (by rw [hget_new]; rfl) (hs.app _) (hp (by rintro rfl; exact h0 rfl)) (by omega : s.length ≠ 0) (by decide : (6 : Nat) ≠ 0) (by unfold maxBytes; omega) (by omega)
    have hfm : s.flatMap encN = .int .i64 x.item :: .int .u8 x.cls :: .int .i64 x.frm :: .int .i64 x.to :: .int .i64 x.acc :: .int .i64 x.del :: s.tail.flatMap encN := by
      rw [← hgx]
      match s, h0' with
      | y :: s, _ => rfl
    have hfu : (lateS s d').flatMap encN = .int .i64 x.item :: .int .u8 x.cls :: .int .i64 x.frm :: .int .i64 x.to :: .int .i64 x.acc :: .int .i64 d' :: s.tail.flatMap encN := by
      rw [← hgx]; rfl
    have ho2 : ∀ mp lim b0 b1 b2 X Q, CallR E mp lim 15 [.slice pl l.length k1, .slice pt t.length k2, .slice (some ⟨H.length + 3, 0, none⟩) s.length (loose 6), .agg #[.int .i64 c.id, .int .i64 x.item, .int .i64 c.tm, .int .u8 c.kind, .int .i64 c.post, .int .i64 c.val]]
        (H ++ (b0 :: b1 :: b2 :: .cells false (.int .i64 x.item :: .int .u8 x.cls :: .int .i64 x.frm :: .int .i64 x.to :: .int .i64 x.acc :: .int .i64 d' :: s.tail.flatMap encN) :: X)) Q =
        Q (.tuple #[.agg (if checkS l t (lateS s d') [c'] = 0 then #[.int .i64 c.id, .int .i64 (decideS l t (lateS s d') c').1, .int .u8 (decideS l t (lateS s d') c').2] else #[.int .i64 0, .int .i64 0, .int .u8 0]), .int .i64 (checkS l t (lateS s d') [c'])])
        (H ++ (b0 :: b1 :: b2 :: .cells false (.int .i64 x.item :: .int .u8 x.cls :: .int .i64 x.frm :: .int .i64 x.to :: .int .i64 x.acc :: .int .i64 d' :: s.tail.flatMap encN) :: X)) := by
      intro mp lim b0 b1 b2 X Q
      have := Decide_ok (mp := mp) (lim := lim) (c := ⟨c.id, x.item, c.tm, c.kind, c.post, c.val⟩) (k1 := k1) (k2 := k2) (k3 := loose 6) (Q := Q) (s := lateS s d') (ps := some ⟨H.length + 3, 0, none⟩) (H := H ++ (b0 :: b1 :: b2 :: .cells false (.int .i64 x.item :: .int .u8 x.cls :: .int .i64 x.frm :: .int .i64 x.to :: .int .i64 x.acc :: .int .i64 d' :: s.tail.flatMap encN) :: X))
        (hl.app _) (ht.app _) (Sl.lit encN_len (by rw [hget_new]; rfl) (by rw [hget_new, hfu]; rfl)) (by omega) (by omega) (by rw [lateS_len h0']; omega)
      rw [lateS_len h0', hc, e1, e2, e3, e4', e5', e6] at this
      exact this
    have hlr2 := lateS_right (d := d') h0' r3 (by rw [hgx]; omega)
    have hpp : (promiseS l x.cls x.frm x.to x.acc).2 = 0 → (promiseS l x.cls x.frm x.to x.acc).1 = (prom l x.cls x.frm x.to x.acc).1 := by
      rw [promise_prom r1 (show ¬ x.acc < 0 by omega)]
      split
      · simp
      · split
        · simp
        · simp
    rcases o2 with hk | hk
    · rw [e4'] at hk
      have hv := vrd_late (c := c') (f := fileS l t s c') (by rw [e4']; exact hk) (by rw [e5']; omega) hfo
      rw [e5', hfp, hfx] at hv
      have hfr := hfo.free
      have v1 : ¬ c.post < (decideS l t s c').1 := by unfold decideS; omega
      have v2 : (promiseS l x.cls x.frm x.to x.acc).2 = 0 → x.del ≤ (promiseS l x.cls x.frm x.to x.acc).1 → ¬ (decideS l t s c').2 = 6 := by
        intro q1 q2 q3
        rw [hpp q1] at q2
        have := hv.2.2 q3
        omega
      have fin : d' ≤ 1051898399 → ¬ c.tm < d' → (decideS l t s c').1 ≤ (decideS l t (lateS s d') c').1 := by
        intro q1 q2
        have r3' : rightN (lateS s d') = true := by rw [hlr2]; simpa using q1
        have hfo2 := file_ok c' r1 r2 r3'
        have hff2 := fileS_first (l := l) (t := t) (c := c') (s := lateS s d') (by rw [lateS_len h0']; exact h0') (by rw [lateS_gt0, hgx]; exact e2)
        rw [lateS_gt0, hgx, e3] at hff2
        refine vrd_later (by rw [e4']; exact hk) (by rw [e5']; omega) hfo hfo2 ?_ ?_ ?_ ?_ ?_ ?_ ?_
        · rw [hff, hff2]
        · rw [hff, hff2]
        · rw [hff, hff2]
        · rw [hff, hff2]
        · rw [hdn]; simp; omega
        · rw [hff2]; simp; omega
        · rw [hff2, hfx]; simp only; omega
      have hcu : checkS l t (lateS s d') [c'] = if d' ≤ 1051898399 then 0 else 402 := by
        unfold checkS
        rw [r1, r2, hlr2, r4']
        by_cases q : d' ≤ 1051898399 <;> simp [q]
      have three : (¬ (promiseS l x.cls x.frm x.to x.acc).2 = 0) ∨ ((promiseS l x.cls x.frm x.to x.acc).2 = 0 ∧ ¬ x.del ≤ (promiseS l x.cls x.frm x.to x.acc).1) ∨ ((promiseS l x.cls x.frm x.to x.acc).2 = 0 ∧ x.del ≤ (promiseS l x.cls x.frm x.to x.acc).1 ∧ ¬ (decideS l t s c').2 = 6) := by
        by_cases q1 : (promiseS l x.cls x.frm x.to x.acc).2 = 0
        · by_cases q2 : x.del ≤ (promiseS l x.cls x.frm x.to x.acc).1
          · exact .inr (.inr ⟨q1, q2, v2 q1 q2⟩)
          · exact .inr (.inl ⟨q1, q2⟩)
        · exact .inl q1
      rw [hk] at ho2
      by_cases q3 : d' ≤ 1051898399
      · rw [if_pos q3] at hcu
        by_cases q4 : c.tm < d'
        · rcases three with q | ⟨q, q'⟩ | ⟨q, q', q''⟩
          · simp only [n4, r4, g0, g1, g2, g4, g8, g11, g13, g14, hlt, hidx0, hld, encN, hP, hpk, hwd, hdd, happ, hfm, ho2, Nat.le_add_left, h0', Int.reduceLE, List.length_nil, hk, v1, hcu, q4, q, SB, Nat.reduceLT, callee, aOp, ne_eq, Nat.reduceEqDiff, aBin, aUn, if_true, if_false, reduceCtorEq, frame0, place, notTuple, Nat.reduceAdd, Nat.reduceLeDiff, resVal, dite_true, dite_false, Int.reduceEq, Int.reduceLT, Int.reduceLE]
          · simp only [n4, r4, g0, g1, g2, g4, g8, g11, g13, g14, hlt, hidx0, hld, encN, hP, hpk, hwd, hdd, happ, hfm, ho2, Nat.le_add_left, h0', Int.reduceLE, List.length_nil, hk, v1, hcu, q4, q, q', SB, Nat.reduceLT, callee, aOp, ne_eq, Nat.reduceEqDiff, aBin, aUn, if_true, if_false, reduceCtorEq, frame0, place, notTuple, Nat.reduceAdd, Nat.reduceLeDiff, resVal, dite_true, dite_false, Int.reduceEq, Int.reduceLT, Int.reduceLE]
          · simp only [n4, r4, g0, g1, g2, g4, g8, g11, g13, g14, hlt, hidx0, hld, encN, hP, hpk, hwd, hdd, happ, hfm, ho2, Nat.le_add_left, h0', Int.reduceLE, List.length_nil, hk, v1, hcu, q4, q, q', q'', SB, Nat.reduceLT, callee, aOp, ne_eq, Nat.reduceEqDiff, aBin, aUn, if_true, if_false, reduceCtorEq, frame0, place, notTuple, Nat.reduceAdd, Nat.reduceLeDiff, resVal, dite_true, dite_false, Int.reduceEq, Int.reduceLT, Int.reduceLE]
        · have q5 := fin q3 q4
          rcases three with q | ⟨q, q'⟩ | ⟨q, q', q''⟩
          · simp only [n4, r4, g0, g1, g2, g4, g8, g11, g13, g14, hlt, hidx0, hld, encN, hP, hpk, hwd, hdd, happ, hfm, ho2, Nat.le_add_left, h0', Int.reduceLE, List.length_nil, hk, v1, hcu, q4, q5, q, SB, Nat.reduceLT, callee, aOp, ne_eq, Nat.reduceEqDiff, aBin, aUn, if_true, if_false, reduceCtorEq, frame0, place, notTuple, Nat.reduceAdd, Nat.reduceLeDiff, resVal, dite_true, dite_false, Int.reduceEq, Int.reduceLT, Int.reduceLE]
          · simp only [n4, r4, g0, g1, g2, g4, g8, g11, g13, g14, hlt, hidx0, hld, encN, hP, hpk, hwd, hdd, happ, hfm, ho2, Nat.le_add_left, h0', Int.reduceLE, List.length_nil, hk, v1, hcu, q4, q5, q, q', SB, Nat.reduceLT, callee, aOp, ne_eq, Nat.reduceEqDiff, aBin, aUn, if_true, if_false, reduceCtorEq, frame0, place, notTuple, Nat.reduceAdd, Nat.reduceLeDiff, resVal, dite_true, dite_false, Int.reduceEq, Int.reduceLT, Int.reduceLE]
          · simp only [n4, r4, g0, g1, g2, g4, g8, g11, g13, g14, hlt, hidx0, hld, encN, hP, hpk, hwd, hdd, happ, hfm, ho2, Nat.le_add_left, h0', Int.reduceLE, List.length_nil, hk, v1, hcu, q4, q5, q, q', q'', SB, Nat.reduceLT, callee, aOp, ne_eq, Nat.reduceEqDiff, aBin, aUn, if_true, if_false, reduceCtorEq, frame0, place, notTuple, Nat.reduceAdd, Nat.reduceLeDiff, resVal, dite_true, dite_false, Int.reduceEq, Int.reduceLT, Int.reduceLE]
      · rw [if_neg q3] at hcu
        have q4 : 1051898399 < d' := by omega
        rcases three with q | ⟨q, q'⟩ | ⟨q, q', q''⟩
        · simp only [n4, r4, g0, g1, g2, g4, g8, g11, g13, g14, hlt, hidx0, hld, encN, hP, hpk, hwd, hdd, happ, hfm, ho2, Nat.le_add_left, h0', Int.reduceLE, List.length_nil, hk, v1, hcu, q4, q, SB, Nat.reduceLT, callee, aOp, ne_eq, Nat.reduceEqDiff, aBin, aUn, if_true, if_false, reduceCtorEq, frame0, place, notTuple, Nat.reduceAdd, Nat.reduceLeDiff, resVal, dite_true, dite_false, Int.reduceEq, Int.reduceLT, Int.reduceLE]
        · simp only [n4, r4, g0, g1, g2, g4, g8, g11, g13, g14, hlt, hidx0, hld, encN, hP, hpk, hwd, hdd, happ, hfm, ho2, Nat.le_add_left, h0', Int.reduceLE, List.length_nil, hk, v1, hcu, q4, q, q', SB, Nat.reduceLT, callee, aOp, ne_eq, Nat.reduceEqDiff, aBin, aUn, if_true, if_false, reduceCtorEq, frame0, place, notTuple, Nat.reduceAdd, Nat.reduceLeDiff, resVal, dite_true, dite_false, Int.reduceEq, Int.reduceLT, Int.reduceLE]
        · simp only [n4, r4, g0, g1, g2, g4, g8, g11, g13, g14, hlt, hidx0, hld, encN, hP, hpk, hwd, hdd, happ, hfm, ho2, Nat.le_add_left, h0', Int.reduceLE, List.length_nil, hk, v1, hcu, q4, q, q', q'', SB, Nat.reduceLT, callee, aOp, ne_eq, Nat.reduceEqDiff, aBin, aUn, if_true, if_false, reduceCtorEq, frame0, place, notTuple, Nat.reduceAdd, Nat.reduceLeDiff, resVal, dite_true, dite_false, Int.reduceEq, Int.reduceLT, Int.reduceLE]
    · rw [e4'] at hk
      have hv := vrd_lost (c := c') (f := fileS l t s c') (by rw [e4']; exact hk) (by rw [e5']; omega) (by rw [e6]; omega) hfo
      rw [e5', hfl, hdn] at hv
      have hwl : IntKind.i64.wrap (limS t x.cls + c.post) = limS t x.cls + c.post := wrap_id (by omega) (by omega)
      have v1 : ¬ limS t x.cls + c.post < (decideS l t s c').1 := by unfold decideS; omega
      have v2 : x.del ≤ c.tm → ¬ 0 < (decideS l t s c').1 := by
        intro q
        have := hv.2 (by simpa using q)
        unfold decideS; omega
      have hcu : checkS l t (lateS s d') [c'] = if d' ≤ 1051898399 then 0 else 402 := by
        unfold checkS
        rw [r1, r2, hlr2, r4']
        by_cases q : d' ≤ 1051898399 <;> simp [q]
      rw [hk] at ho2
      by_cases q1 : (promiseS l x.cls x.frm x.to x.acc).2 = 0
      · by_cases q3 : d' ≤ 1051898399
        · rw [if_pos q3] at hcu
          by_cases q2 : x.del ≤ c.tm
          · simp only [n4, r4, g0, g1, g2, g4, g8, g11, g13, g14, hlt, hidx0, hld, encN, hP, hpk, hwd, hdd, happ, hfm, ho2, Nat.le_add_left, h0', Int.reduceLE, List.length_nil, hk, hwl, v1, v2 q2, q2, hcu, q1, SB, Nat.reduceLT, callee, aOp, ne_eq, Nat.reduceEqDiff, aBin, aUn, if_true, if_false, reduceCtorEq, frame0, place, notTuple, Nat.reduceAdd, Nat.reduceLeDiff, resVal, dite_true, dite_false, Int.reduceEq, Int.reduceLT, Int.reduceLE]
          · simp only [n4, r4, g0, g1, g2, g4, g8, g11, g13, g14, hlt, hidx0, hld, encN, hP, hpk, hwd, hdd, happ, hfm, ho2, Nat.le_add_left, h0', Int.reduceLE, List.length_nil, hk, hwl, v1, q2, hcu, q1, SB, Nat.reduceLT, callee, aOp, ne_eq, Nat.reduceEqDiff, aBin, aUn, if_true, if_false, reduceCtorEq, frame0, place, notTuple, Nat.reduceAdd, Nat.reduceLeDiff, resVal, dite_true, dite_false, Int.reduceEq, Int.reduceLT, Int.reduceLE]
        · rw [if_neg q3] at hcu
          have q4 : 1051898399 < d' := by omega
          by_cases q2 : x.del ≤ c.tm
          · simp only [n4, r4, g0, g1, g2, g4, g8, g11, g13, g14, hlt, hidx0, hld, encN, hP, hpk, hwd, hdd, happ, hfm, ho2, Nat.le_add_left, h0', Int.reduceLE, List.length_nil, hk, hwl, v1, v2 q2, q2, hcu, q1, q4, SB, Nat.reduceLT, callee, aOp, ne_eq, Nat.reduceEqDiff, aBin, aUn, if_true, if_false, reduceCtorEq, frame0, place, notTuple, Nat.reduceAdd, Nat.reduceLeDiff, resVal, dite_true, dite_false, Int.reduceEq, Int.reduceLT, Int.reduceLE]
          · simp only [n4, r4, g0, g1, g2, g4, g8, g11, g13, g14, hlt, hidx0, hld, encN, hP, hpk, hwd, hdd, happ, hfm, ho2, Nat.le_add_left, h0', Int.reduceLE, List.length_nil, hk, hwl, v1, q2, hcu, q1, q4, SB, Nat.reduceLT, callee, aOp, ne_eq, Nat.reduceEqDiff, aBin, aUn, if_true, if_false, reduceCtorEq, frame0, place, notTuple, Nat.reduceAdd, Nat.reduceLeDiff, resVal, dite_true, dite_false, Int.reduceEq, Int.reduceLT, Int.reduceLE]
      · by_cases q3 : d' ≤ 1051898399
        · rw [if_pos q3] at hcu
          by_cases q2 : x.del ≤ c.tm
          · simp only [n4, r4, g0, g1, g2, g4, g8, g11, g13, g14, hlt, hidx0, hld, encN, hP, hpk, hwd, hdd, happ, hfm, ho2, Nat.le_add_left, h0', Int.reduceLE, List.length_nil, hk, hwl, v1, v2 q2, q2, hcu, q1, SB, Nat.reduceLT, callee, aOp, ne_eq, Nat.reduceEqDiff, aBin, aUn, if_true, if_false, reduceCtorEq, frame0, place, notTuple, Nat.reduceAdd, Nat.reduceLeDiff, resVal, dite_true, dite_false, Int.reduceEq, Int.reduceLT, Int.reduceLE]
          · simp only [n4, r4, g0, g1, g2, g4, g8, g11, g13, g14, hlt, hidx0, hld, encN, hP, hpk, hwd, hdd, happ, hfm, ho2, Nat.le_add_left, h0', Int.reduceLE, List.length_nil, hk, hwl, v1, q2, hcu, q1, SB, Nat.reduceLT, callee, aOp, ne_eq, Nat.reduceEqDiff, aBin, aUn, if_true, if_false, reduceCtorEq, frame0, place, notTuple, Nat.reduceAdd, Nat.reduceLeDiff, resVal, dite_true, dite_false, Int.reduceEq, Int.reduceLT, Int.reduceLE]
        · rw [if_neg q3] at hcu
          have q4 : 1051898399 < d' := by omega
          by_cases q2 : x.del ≤ c.tm
          · simp only [n4, r4, g0, g1, g2, g4, g8, g11, g13, g14, hlt, hidx0, hld, encN, hP, hpk, hwd, hdd, happ, hfm, ho2, Nat.le_add_left, h0', Int.reduceLE, List.length_nil, hk, hwl, v1, v2 q2, q2, hcu, q1, q4, SB, Nat.reduceLT, callee, aOp, ne_eq, Nat.reduceEqDiff, aBin, aUn, if_true, if_false, reduceCtorEq, frame0, place, notTuple, Nat.reduceAdd, Nat.reduceLeDiff, resVal, dite_true, dite_false, Int.reduceEq, Int.reduceLT, Int.reduceLE]
          · simp only [n4, r4, g0, g1, g2, g4, g8, g11, g13, g14, hlt, hidx0, hld, encN, hP, hpk, hwd, hdd, happ, hfm, ho2, Nat.le_add_left, h0', Int.reduceLE, List.length_nil, hk, hwl, v1, q2, hcu, q1, q4, SB, Nat.reduceLT, callee, aOp, ne_eq, Nat.reduceEqDiff, aBin, aUn, if_true, if_false, reduceCtorEq, frame0, place, notTuple, Nat.reduceAdd, Nat.reduceLeDiff, resVal, dite_true, dite_false, Int.reduceEq, Int.reduceLT, Int.reduceLE]
end Go.Proofs.Ytlmoijifgbkapaa.Fn
set_option linter.unusedVariables false
set_option linter.unusedSimpArgs false
namespace Go.AM
section
variable {α : Type}
/-- The heap G, with the elements d in block B. -/
def DH (enc : α → List Value) (G : Heap) (B : Nat) (d : Array α) : Heap := G.set B (.cells false (d.toList.flatMap enc))
variable [Inhabited α] {enc : α → List Value} {G X : Heap} {B e i : Nat} {d : Array α} {p : Option Addr} {lim : Nat}
omit [Inhabited α] in
theorem DH_len : (DH enc G B d).length = G.length := by simp [DH]
omit [Inhabited α] in
theorem DH_get (hB : B < G.length) : hget (DH enc G B d ++ X) B = .cells false (d.toList.flatMap enc) := by
  rw [hget_old (by rw [DH_len]; exact hB)]
  exact hget_set_eq hB
omit [Inhabited α] in
theorem DH_other {j : Nat} (hj : j ≠ B) (hB : j < G.length) : hget (DH enc G B d ++ X) j = hget G j := by
  rw [hget_old (by rw [DH_len]; exact hB)]
  exact hget_set_ne hj
omit [Inhabited α] in
theorem DH_sl (hp : p = some ⟨B, 0, none⟩) (hB : B < G.length) (he : ∀ x, (enc x).length = e) : Sl (DH enc G B d ++ X) enc e p d.toList := by
  subst hp
  refine Sl.lit he ?_ ?_
  · rw [DH_get hB]; rfl
  · rw [DH_get hB]; rfl
theorem gt_arr {α : Type} [Inhabited α] (d : Array α) (i : Nat) : gt d.toList i = d[i]! := by
  unfold gt
  rw [List.getD_eq_getElem?_getD, Array.getElem?_toList, getElem!_def]
  cases d[i]? <;> rfl
theorem DH_ld (hp : p = some ⟨B, 0, none⟩) (hB : B < G.length) (he : ∀ x, (enc x).length = e) (hi : i < d.size) : AM.loadCells (DH enc G B d ++ X) (elt p e i) e = some (enc d[i]!) := by
  rw [(DH_sl hp hB he).loadCells he (by simpa using hi), gt_arr]
omit [Inhabited α] in
theorem flat_set (he : ∀ x, (enc x).length = e) (y : α) : ∀ (l : List α) (i : Nat), i < l.length → setAll (l.flatMap enc) (i * e) (enc y) = (l.set i y).flatMap enc := by
  have key : ∀ (vs a b c : List Value) , vs.length = b.length → setAll (a ++ b ++ c) a.length vs = a ++ vs ++ c := by
    intro vs
    induction vs with
    | nil => intro a b c h; simp at h; have : b = [] := List.length_eq_zero_iff.1 h.symm; subst this; rfl
    | cons v vs ih =>
      intro a b c h
      match b, h with
      | x :: b, h =>
        rw [setAll_cons]
        have e1 : (a ++ x :: b ++ c).set a.length v = (a ++ [v]) ++ b ++ c := by simp
        rw [e1]
        have := ih (a ++ [v]) b c (by simpa using h)
        rw [List.length_append] at this
        simp only [List.length_cons, List.length_nil, Nat.zero_add] at this
        rw [this]; simp
  intro l i hi
  have e1 : l.flatMap enc = (l.take i).flatMap enc ++ enc l[i] ++ (l.drop (i + 1)).flatMap enc := by
    have e0 : l = l.take i ++ l[i] :: l.drop (i + 1) := by rw [← List.drop_eq_getElem_cons hi, List.take_append_drop]
    have := congrArg (List.flatMap enc) e0
    rw [List.flatMap_append, List.flatMap_cons] at this
    rw [this, List.append_assoc]
  have e2 : (l.set i y).flatMap enc = (l.take i).flatMap enc ++ enc y ++ (l.drop (i + 1)).flatMap enc := by
    rw [List.set_eq_take_append_cons_drop, if_pos hi]; simp
  have e3 : i * e = ((l.take i).flatMap enc).length := by rw [flat_len he, List.length_take, Nat.min_eq_left (by omega)]
  rw [e1, e2, e3]
  exact key _ _ _ _ (by rw [he, he])
omit [Inhabited α] in
theorem DH_st (hp : p = some ⟨B, 0, none⟩) (hB : B < G.length) (hl : lim ≤ B) (he : ∀ x, (enc x).length = e) (hi : i < d.size) {y : α} : AM.storeAt lim (DH enc G B d ++ X) (elt p e i) (enc y) = some (DH enc G B (d.setIfInBounds i y) ++ X) := by
  subst hp
  have h1 : i * e + e ≤ d.size * e := by
    have := Nat.mul_le_mul_right e (Nat.succ_le_of_lt hi)
    rw [Nat.succ_mul] at this; exact this
  simp only [elt, addrOf, Option.getD_some, addr_add, storeAt_lit, DH_get hB, Nat.zero_add]
  rw [if_pos ⟨hl, by rw [he, flat_len he]; simpa using h1⟩, flat_set he y _ _ (by simpa using hi)]
  congr 1
  rw [List.set_append_left _ _ (by rw [DH_len]; exact hB)]
  simp only [DH, List.set_set]
  congr 3
  simp
omit [Inhabited α] in
theorem DH_idx {n c : Nat} {k : IntKind} {H : Heap} (hp : p = some ⟨B, 0, none⟩) (hi : i < n) : idxK e (.slice p n c) (.int k (i : Int)) H = some (.pointer (some (elt p e i)), H) := by
  subst hp
  exact idxK_nat hi
end
end Go.AM
namespace Go.Proofs.Ytlmoijifgbkapaa.Fn
open Go.AM Go.AM.Sym Go.Sort
set_option maxRecDepth 100000
set_option linter.unusedVariables false
set_option linter.unusedSimpArgs false
set_option maxHeartbeats 4000000

theorem runs {g : FuncId} {af : AFunc} {lim : Nat} {as : List Value} {H H' : Heap} {v : Value} {Q : Value → Heap → Prop} (h : g ≠ 10) (ht : tr g = some af) (hp : pf g = false) (hr : Ret E af lim [.code af.body] (frame0 as) H fun v' H1 => v' = v ∧ H1 = H') : CallR E false lim g as H Q = Q v H' := by
  refine CallR.eq ?_
  rw [CallR_run (E := E) (by simp [E, orc, h]) ht hp rfl]
  exact hr

/-- 'Less', of a comparison. -/
def ltC {α : Type} (c : α → α → Int) (x y : α) : Bool := decide (c x y < 0)

theorem ins_ok {G X : Heap} {B lim cap n : Nat} {p : Option Addr} {c : Clm → Clm → Int} {cl : FuncId} {cs : List Value} {Q : Value → Heap → Prop} (hp : p = some ⟨B, 0, none⟩) (hB : B < G.length) (hl : lim ≤ B) (hn2 : n < 2 ^ 61) (hc : ∀ (mp : Bool) (lim : Nat) (x y : Clm) (H : Heap) (Q : Value → Heap → Prop), CallR E mp lim cl (.agg (encC x).toArray :: .agg (encC y).toArray :: cs) H Q = Q (.int .i64 (c x y)) H) {d : Array Clm} {a b : Nat} (hd : d.size = n) (hb : b ≤ n) (hab : a ≤ b) :
    CallR E false lim 78 [.slice p n cap, .int .i64 (a : Int), .int .i64 (b : Int), .func (.func cl) #[] cs.toArray] (DH encC G B d ++ X) Q = Q (.tuple #[]) (DH encC G B (insertionSort (ltC c) d a b) ++ X) := by
  refine runs (by decide) e78 rfl ?_
  rw [b78, c78]
  have hw0 : IntKind.i64.wrap ((a : Int) + 1) = ((a + 1 : Nat) : Int) := wrap_nat (by omega)
  simp only [n78, r78, hw0, SB, Nat.reduceLT, callee, aOp, ne_eq, Nat.reduceEqDiff, aBin, aUn, if_true, if_false, reduceCtorEq, frame0, place, notTuple, Nat.reduceAdd, Nat.reduceLeDiff, resVal, dite_true, dite_false, Int.reduceEq, Int.reduceLT, Int.reduceLE]
  refine Ret_rounds (S := Nat × Array Clm) (fun s => b + 1 - s.1) (fun s fr H => a ≤ s.1 ∧ s.1 ≤ b + 1 ∧ fr 0 = .slice p n cap ∧ fr 1 = .int .i64 (a : Int) ∧ fr 2 = .int .i64 (b : Int) ∧ fr 3 = .func (.func cl) #[] cs.toArray ∧ fr 8 = .int .i64 (s.1 : Int) ∧
    H = DH encC G B s.2 ++ X ∧ s.2.size = n ∧ insertionSort (ltC c) d a b = insOuter (ltC c) a b s.1 s.2) (a + 1, d) ⟨by simp, by simp; omega, (by simp only [upd_same, upd_ne, ne_eq, Nat.reduceEqDiff, not_false_eq_true, frame0, List.getD_cons_zero, List.getD_cons_succ]), (by simp only [upd_same, upd_ne, ne_eq, Nat.reduceEqDiff, not_false_eq_true, frame0, List.getD_cons_zero, List.getD_cons_succ]), (by simp only [upd_same, upd_ne, ne_eq, Nat.reduceEqDiff, not_false_eq_true, frame0, List.getD_cons_zero, List.getD_cons_succ]), (by simp only [upd_same, upd_ne, ne_eq, Nat.reduceEqDiff, not_false_eq_true, frame0, List.getD_cons_zero, List.getD_cons_succ]), (by simp only [upd_same, upd_ne, ne_eq, Nat.reduceEqDiff, not_false_eq_true, frame0, List.getD_cons_zero, List.getD_cons_succ]), rfl, hd, rfl⟩ ?_
  rintro ⟨i, d1⟩ fr H ⟨h1, h2, g0, g1, g2, g3, g8, rfl, hd1, he⟩ hN
  simp only at h1 h2 g8 hd1 he
  rw [Ret_code l78_2.eq_1]
  unfold insOuter at he
  by_cases hib : i < b
  · rw [if_pos hib] at he
    simp only [n78, r78, g0, g1, g2, g3, g8, hib, SB, Nat.reduceLT, callee, aOp, ne_eq, Nat.reduceEqDiff, aBin, aUn, if_true, if_false, reduceCtorEq, frame0, place, notTuple, Nat.reduceAdd, Nat.reduceLeDiff, resVal, dite_true, dite_false, Int.reduceEq, Int.reduceLT, Int.reduceLE]
    refine Ret_rounds (S := Nat × Array Clm) (fun s => s.1) (fun s fr H => s.1 ≤ i ∧ fr 0 = .slice p n cap ∧ fr 1 = .int .i64 (a : Int) ∧ fr 2 = .int .i64 (b : Int) ∧ fr 3 = .func (.func cl) #[] cs.toArray ∧ fr 8 = .int .i64 (i : Int) ∧ fr 9 = .int .i64 (s.1 : Int) ∧
      H = DH encC G B s.2 ++ X ∧ s.2.size = n ∧ insInner (ltC c) a i d1 = insInner (ltC c) a s.1 s.2) (i, d1) ⟨Nat.le_refl _, (by simp only [g0, upd_same, upd_ne, ne_eq, Nat.reduceEqDiff, not_false_eq_true, frame0, List.getD_cons_zero, List.getD_cons_succ]), (by simp only [g1, upd_same, upd_ne, ne_eq, Nat.reduceEqDiff, not_false_eq_true, frame0, List.getD_cons_zero, List.getD_cons_succ]), (by simp only [g2, upd_same, upd_ne, ne_eq, Nat.reduceEqDiff, not_false_eq_true, frame0, List.getD_cons_zero, List.getD_cons_succ]), (by simp only [g3, upd_same, upd_ne, ne_eq, Nat.reduceEqDiff, not_false_eq_true, frame0, List.getD_cons_zero, List.getD_cons_succ]), (by simp only [g8, upd_same, upd_ne, ne_eq, Nat.reduceEqDiff, not_false_eq_true, frame0, List.getD_cons_zero, List.getD_cons_succ]), (by simp only [upd_same, upd_ne, ne_eq, Nat.reduceEqDiff, not_false_eq_true, frame0, List.getD_cons_zero, List.getD_cons_succ]), by simp, hd1, rfl⟩ ?_
    rintro ⟨j, d2⟩ fr2 H2 ⟨k1, q0, q1, q2, q3, q8, q9, rfl, hd2, hi⟩ hM
    simp only at k1 q9 hd2 hi
    rw [Ret_code l78_1.eq_1]
    have hwi : IntKind.i64.wrap ((i : Int) + 1) = ((i + 1 : Nat) : Int) := wrap_nat (by omega)
    by_cases haj : a < j
    · obtain ⟨j, rfl⟩ : ∃ j', j = j' + 1 := ⟨j - 1, by omega⟩
      have hwj : IntKind.i64.wrap (((j + 1 : Nat) : Int) - 1) = (j : Int) := wrap_pred (n := j + 1) (by omega) (by omega)
      have ld := fun (X : Heap) (d : Array Clm) (hd : d.size = n) => DH_ld (X := X) (d := d) (i := j) hp hB encC_len (by omega)
      have ld1 := fun (X : Heap) (d : Array Clm) (hd : d.size = n) => DH_ld (X := X) (d := d) (i := j + 1) hp hB encC_len (by omega)
      have st := fun (X : Heap) (d : Array Clm) (hd : d.size = n) (y : Clm) => DH_st (X := X) (d := d) (i := j) (y := y) hp hB hl encC_len (by omega)
      have st1 := fun (X : Heap) (d : Array Clm) (hd : d.size = n) (y : Clm) => DH_st (X := X) (d := d) (i := j + 1) (y := y) hp hB hl encC_len (by omega)
      have ix := fun c (k : IntKind) (H : Heap) => DH_idx (e := 6) (i := j) (n := n) (c := c) (k := k) (H := H) hp (by omega)
      have ix1 := fun c (k : IntKind) (H : Heap) => DH_idx (e := 6) (i := j + 1) (n := n) (c := c) (k := k) (H := H) hp (by omega)
      rw [insInner] at hi
      by_cases hlt : ltC c d2[j + 1]! d2[j]! = true
      · have hlt' : c d2[j + 1]! d2[j]! < 0 := by simpa [ltC] using hlt
        simp only [n78, r78, q0, q1, q2, q3, q8, q9, haj, hwj, ld, ld1, st, st1, ix, ix1, hd2, hc, hlt', Array.size_setIfInBounds, encC_len, SB, Nat.reduceLT, callee, aOp, ne_eq, Nat.reduceEqDiff, aBin, aUn, if_true, if_false, reduceCtorEq, frame0, place, notTuple, Nat.reduceAdd, Nat.reduceLeDiff, resVal, dite_true, dite_false, Int.reduceEq, Int.reduceLT, Int.reduceLE]
        refine hM (j, swp d2 (j + 1) j) _ _ ⟨by simp only; omega, (by simp only [q0, upd_same, upd_ne, ne_eq, Nat.reduceEqDiff, not_false_eq_true, frame0, List.getD_cons_zero, List.getD_cons_succ]), (by simp only [q1, upd_same, upd_ne, ne_eq, Nat.reduceEqDiff, not_false_eq_true, frame0, List.getD_cons_zero, List.getD_cons_succ]), (by simp only [q2, upd_same, upd_ne, ne_eq, Nat.reduceEqDiff, not_false_eq_true, frame0, List.getD_cons_zero, List.getD_cons_succ]), (by simp only [q3, upd_same, upd_ne, ne_eq, Nat.reduceEqDiff, not_false_eq_true, frame0, List.getD_cons_zero, List.getD_cons_succ]), (by simp only [q8, upd_same, upd_ne, ne_eq, Nat.reduceEqDiff, not_false_eq_true, frame0, List.getD_cons_zero, List.getD_cons_succ]), (by simp only [upd_same, upd_ne, ne_eq, Nat.reduceEqDiff, not_false_eq_true, frame0, List.getD_cons_zero, List.getD_cons_succ]), by simp [swp], by simp [swp, hd2], ?_⟩ (by simp only; omega)
        rw [hi]; simp [haj, hlt]
      · have hlt' : ¬ c d2[j + 1]! d2[j]! < 0 := by simpa [ltC] using hlt
        simp only [n78, r78, q0, q1, q2, q3, q8, q9, haj, hwj, ld, ld1, st, st1, ix, ix1, hd2, hc, hlt', hwi, SB, Nat.reduceLT, callee, aOp, ne_eq, Nat.reduceEqDiff, aBin, aUn, if_true, if_false, reduceCtorEq, frame0, place, notTuple, Nat.reduceAdd, Nat.reduceLeDiff, resVal, dite_true, dite_false, Int.reduceEq, Int.reduceLT, Int.reduceLE]
        refine hN (i + 1, d2) _ _ ⟨by simp only; omega, by simp only; omega, (by simp only [q0, upd_same, upd_ne, ne_eq, Nat.reduceEqDiff, not_false_eq_true, frame0, List.getD_cons_zero, List.getD_cons_succ]), (by simp only [q1, upd_same, upd_ne, ne_eq, Nat.reduceEqDiff, not_false_eq_true, frame0, List.getD_cons_zero, List.getD_cons_succ]), (by simp only [q2, upd_same, upd_ne, ne_eq, Nat.reduceEqDiff, not_false_eq_true, frame0, List.getD_cons_zero, List.getD_cons_succ]), (by simp only [q3, upd_same, upd_ne, ne_eq, Nat.reduceEqDiff, not_false_eq_true, frame0, List.getD_cons_zero, List.getD_cons_succ]), (by simp only [upd_same, upd_ne, ne_eq, Nat.reduceEqDiff, not_false_eq_true, frame0, List.getD_cons_zero, List.getD_cons_succ]), by simp, hd2, ?_⟩ (by simp only; omega)
        rw [he, hi]; simp [haj, hlt]
    · have haj' : ¬ (a : Int) < (j : Int) := by omega
      simp only [n78, r78, q0, q1, q2, q3, q8, q9, haj, hwi, SB, Nat.reduceLT, callee, aOp, ne_eq, Nat.reduceEqDiff, aBin, aUn, if_true, if_false, reduceCtorEq, frame0, place, notTuple, Nat.reduceAdd, Nat.reduceLeDiff, resVal, dite_true, dite_false, Int.reduceEq, Int.reduceLT, Int.reduceLE]
      refine hN (i + 1, d2) _ _ ⟨by simp only; omega, by simp only; omega, (by simp only [q0, upd_same, upd_ne, ne_eq, Nat.reduceEqDiff, not_false_eq_true, frame0, List.getD_cons_zero, List.getD_cons_succ]), (by simp only [q1, upd_same, upd_ne, ne_eq, Nat.reduceEqDiff, not_false_eq_true, frame0, List.getD_cons_zero, List.getD_cons_succ]), (by simp only [q2, upd_same, upd_ne, ne_eq, Nat.reduceEqDiff, not_false_eq_true, frame0, List.getD_cons_zero, List.getD_cons_succ]), (by simp only [q3, upd_same, upd_ne, ne_eq, Nat.reduceEqDiff, not_false_eq_true, frame0, List.getD_cons_zero, List.getD_cons_succ]), (by simp only [upd_same, upd_ne, ne_eq, Nat.reduceEqDiff, not_false_eq_true, frame0, List.getD_cons_zero, List.getD_cons_succ]), by simp, hd2, ?_⟩ (by simp only; omega)
      rw [he, hi]
      cases j with
      | zero => rfl
      | succ j => rw [insInner]; simp [show ¬ j + 1 > a by omega]
  · rw [if_neg hib] at he
    simp only [n78, r78, g0, g1, g2, g3, g8, hib, he, SB, Nat.reduceLT, callee, aOp, ne_eq, Nat.reduceEqDiff, aBin, aUn, if_true, if_false, reduceCtorEq, frame0, place, notTuple, Nat.reduceAdd, Nat.reduceLeDiff, resVal, dite_true, dite_false, Int.reduceEq, Int.reduceLT, Int.reduceLE]

theorem rev_ok {G X : Heap} {B lim cap n : Nat} {p : Option Addr} {c : Clm → Clm → Int} {cl : FuncId} {cs : List Value} {Q : Value → Heap → Prop} (hp : p = some ⟨B, 0, none⟩) (hB : B < G.length) (hl : lim ≤ B) (hn2 : n < 2 ^ 61) (hc : ∀ (mp : Bool) (lim : Nat) (x y : Clm) (H : Heap) (Q : Value → Heap → Prop), CallR E mp lim cl (.agg (encC x).toArray :: .agg (encC y).toArray :: cs) H Q = Q (.int .i64 (c x y)) H) {d : Array Clm} {a b : Nat} (hd : d.size = n) (hb : b ≤ n) (hab : a < b) :
    CallR E false lim 82 [.slice p n cap, .int .i64 (a : Int), .int .i64 (b : Int), .func (.func cl) #[] cs.toArray] (DH encC G B d ++ X) Q = Q (.tuple #[]) (DH encC G B (reverseRange d a b) ++ X) := by
  refine runs (by decide) e82 rfl ?_
  rw [b82, c82]
  have hw0 : IntKind.i64.wrap ((b : Int) - 1) = ((b - 1 : Nat) : Int) := wrap_pred (by omega) (by omega)
  simp only [n82, r82, hw0, SB, Nat.reduceLT, callee, aOp, ne_eq, Nat.reduceEqDiff, aBin, aUn, if_true, if_false, reduceCtorEq, frame0, place, notTuple, Nat.reduceAdd, Nat.reduceLeDiff, resVal, dite_true, dite_false, Int.reduceEq, Int.reduceLT, Int.reduceLE]
  have ld := fun (i : Nat) (X : Heap) (d : Array Clm) (hd : d.size = n) (hi : i < n) => DH_ld (X := X) (d := d) (i := i) hp hB encC_len (by omega); have st := fun (i : Nat) (X : Heap) (d : Array Clm) (hd : d.size = n) (hi : i < n) (y : Clm) => DH_st (X := X) (d := d) (i := i) (y := y) hp hB hl encC_len (by omega); have ix := fun (i : Nat) (hi : i < n) c (k : IntKind) (H : Heap) => DH_idx (e := 6) (i := i) (n := n) (c := c) (k := k) (H := H) hp hi
  refine Ret_rounds (S := (Nat × Nat) × Array Clm) (fun s => s.1.2 + 1 - s.1.1) (fun s fr H => s.1.1 ≤ b ∧ s.1.2 < b ∧ fr 0 = .slice p n cap ∧ fr 8 = .int .i64 (s.1.1 : Int) ∧ fr 9 = .int .i64 (s.1.2 : Int) ∧
    H = DH encC G B s.2 ++ X ∧ s.2.size = n ∧ reverseRange d a b = reverseLoop s.1.1 s.1.2 s.2) ((a, b - 1), d) ⟨by simp; omega, by simp; omega, (by simp only [upd_same, upd_ne, ne_eq, Nat.reduceEqDiff, not_false_eq_true, frame0, List.getD_cons_zero, List.getD_cons_succ]), (by simp only [upd_same, upd_ne, ne_eq, Nat.reduceEqDiff, not_false_eq_true, frame0, List.getD_cons_zero, List.getD_cons_succ]), (by simp only [upd_same, upd_ne, ne_eq, Nat.reduceEqDiff, not_false_eq_true, frame0, List.getD_cons_zero, List.getD_cons_succ]), rfl, hd, rfl⟩ ?_
  rintro ⟨⟨i, j⟩, d1⟩ fr H ⟨h1, h2, g0, g8, g9, rfl, hd1, he⟩ hN
  simp only at h1 h2 g8 g9 hd1 he
  rw [Ret_code l82_1.eq_1]
  unfold reverseLoop at he
  by_cases hij : i < j
  · rw [if_pos hij] at he
    have hw1 : IntKind.i64.wrap ((i : Int) + 1) = ((i + 1 : Nat) : Int) := wrap_nat (by omega)
    have hw2 : IntKind.i64.wrap ((j : Int) - 1) = ((j - 1 : Nat) : Int) := wrap_pred (by omega) (by omega)
    have hi : i < n := by omega
    have hj : j < n := by omega
    simp only [n82, r82, g0, g8, g9, hij, hw1, hw2, ld, st, ix, List.append_nil, Array.size_setIfInBounds, encC_len, hd1, hi, hj, SB, Nat.reduceLT, callee, aOp, ne_eq, Nat.reduceEqDiff, aBin, aUn, if_true, if_false, reduceCtorEq, frame0, place, notTuple, Nat.reduceAdd, Nat.reduceLeDiff, resVal, dite_true, dite_false, Int.reduceEq, Int.reduceLT, Int.reduceLE]
    refine hN ((i + 1, j - 1), swp d1 i j) _ _ ⟨by simp only; omega, by simp only; omega, (by simp only [g0, upd_same, upd_ne, ne_eq, Nat.reduceEqDiff, not_false_eq_true, frame0, List.getD_cons_zero, List.getD_cons_succ]), (by simp only [upd_same, upd_ne, ne_eq, Nat.reduceEqDiff, not_false_eq_true, frame0, List.getD_cons_zero, List.getD_cons_succ]), (by simp only [upd_same, upd_ne, ne_eq, Nat.reduceEqDiff, not_false_eq_true, frame0, List.getD_cons_zero, List.getD_cons_succ]), by simp [swp], by simp [swp, hd1], he⟩ (by simp only; omega)
  · rw [if_neg hij] at he
    simp only [n82, r82, g0, g8, g9, hij, he, SB, Nat.reduceLT, callee, aOp, ne_eq, Nat.reduceEqDiff, aBin, aUn, if_true, if_false, reduceCtorEq, frame0, place, notTuple, Nat.reduceAdd, Nat.reduceLeDiff, resVal, dite_true, dite_false, Int.reduceEq, Int.reduceLT, Int.reduceLE]

theorem sift_ok {G X : Heap} {B lim cap n : Nat} {p : Option Addr} {c : Clm → Clm → Int} {cl : FuncId} {cs : List Value} {Q : Value → Heap → Prop} (hp : p = some ⟨B, 0, none⟩) (hB : B < G.length) (hl : lim ≤ B) (hn2 : n < 2 ^ 61) (hc : ∀ (mp : Bool) (lim : Nat) (x y : Clm) (H : Heap) (Q : Value → Heap → Prop), CallR E mp lim cl (.agg (encC x).toArray :: .agg (encC y).toArray :: cs) H Q = Q (.int .i64 (c x y)) H) {d : Array Clm} {lo hi first : Nat} (hd : d.size = n) (hb : first + hi ≤ n) (hlo : lo ≤ hi) :
    CallR E false lim 95 [.slice p n cap, .int .i64 (lo : Int), .int .i64 (hi : Int), .int .i64 (first : Int), .func (.func cl) #[] cs.toArray] (DH encC G B d ++ X) Q = Q (.tuple #[]) (DH encC G B (siftDown (ltC c) hi first lo d) ++ X) := by
  refine runs (by decide) e95 rfl ?_
  rw [b95, c95]
  generalize hT : siftDown (ltC c) hi first lo d = T
  simp only [n95, r95, SB, Nat.reduceLT, callee, aOp, ne_eq, Nat.reduceEqDiff, aBin, aUn, if_true, if_false, reduceCtorEq, frame0, place, notTuple, Nat.reduceAdd, Nat.reduceLeDiff, resVal, dite_true, dite_false, Int.reduceEq, Int.reduceLT, Int.reduceLE]
  have ld := fun (i : Nat) (X : Heap) (d : Array Clm) (hd : d.size = n) (hi : i < n) => DH_ld (X := X) (d := d) (i := i) hp hB encC_len (by omega); have st := fun (i : Nat) (X : Heap) (d : Array Clm) (hd : d.size = n) (hi : i < n) (y : Clm) => DH_st (X := X) (d := d) (i := i) (y := y) hp hB hl encC_len (by omega); have ix := fun (i : Nat) (hi : i < n) c (k : IntKind) (H : Heap) => DH_idx (e := 6) (i := i) (n := n) (c := c) (k := k) (H := H) hp hi
  refine Ret_rounds (S := Nat × Array Clm) (fun s => hi - s.1) (fun s fr H => s.1 ≤ hi ∧ fr 0 = .slice p n cap ∧ fr 2 = .int .i64 (hi : Int) ∧ fr 3 = .int .i64 (first : Int) ∧ fr 4 = .func (.func cl) #[] cs.toArray ∧ fr 10 = .int .i64 (s.1 : Int) ∧
    H = DH encC G B s.2 ++ X ∧ s.2.size = n ∧ T = siftDown (ltC c) hi first s.1 s.2) (lo, d) ⟨hlo, (by simp only [upd_same, upd_ne, ne_eq, Nat.reduceEqDiff, not_false_eq_true, frame0, List.getD_cons_zero, List.getD_cons_succ]), (by simp only [upd_same, upd_ne, ne_eq, Nat.reduceEqDiff, not_false_eq_true, frame0, List.getD_cons_zero, List.getD_cons_succ]), (by simp only [upd_same, upd_ne, ne_eq, Nat.reduceEqDiff, not_false_eq_true, frame0, List.getD_cons_zero, List.getD_cons_succ]), (by simp only [upd_same, upd_ne, ne_eq, Nat.reduceEqDiff, not_false_eq_true, frame0, List.getD_cons_zero, List.getD_cons_succ]), (by simp only [upd_same, upd_ne, ne_eq, Nat.reduceEqDiff, not_false_eq_true, frame0, List.getD_cons_zero, List.getD_cons_succ]), rfl, hd, hT.symm⟩ ?_
  rintro ⟨r, d1⟩ fr H ⟨h1, g0, g2, g3, g4, g10, rfl, hd1, he⟩ hN
  simp only at h1 g10 hd1 he
  rw [Ret_code l95_1.eq_1]
  unfold siftDown at he
  have hw1 : IntKind.i64.wrap (2 * (r : Int)) = ((2 * r : Nat) : Int) := by rw [wrap_id (by omega) (by omega)]; omega
  have hw2 : IntKind.i64.wrap (((2 * r : Nat) : Int) + 1) = ((2 * r + 1 : Nat) : Int) := wrap_nat (by omega)
  have hw3 : IntKind.i64.wrap (((2 * r + 1 : Nat) : Int) + 1) = ((2 * r + 2 : Nat) : Int) := wrap_nat (by omega)
  have hw4 : IntKind.i64.wrap ((first : Int) + ((2 * r + 1 : Nat) : Int)) = ((first + (2 * r + 1) : Nat) : Int) := by rw [wrap_id (by omega) (by omega)]; omega
  have hw5 : IntKind.i64.wrap (((first + (2 * r + 1) : Nat) : Int) + 1) = ((first + (2 * r + 2) : Nat) : Int) := wrap_nat (by omega)
  have hw6 : IntKind.i64.wrap ((first : Int) + ((2 * r + 2 : Nat) : Int)) = ((first + (2 * r + 2) : Nat) : Int) := by rw [wrap_id (by omega) (by omega)]; omega
  have hw7 : IntKind.i64.wrap ((first : Int) + (r : Int)) = ((first + r : Nat) : Int) := by rw [wrap_id (by omega) (by omega)]; omega
  by_cases c1 : 2 * r + 1 ≥ hi
  · rw [dif_pos c1] at he
    have c1' : hi ≤ 2 * r + 1 := c1
    simp only [n95, r95, g0, g2, g3, g4, g10, hw1, hw2, c1', he, SB, Nat.reduceLT, callee, aOp, ne_eq, Nat.reduceEqDiff, aBin, aUn, if_true, if_false, reduceCtorEq, frame0, place, notTuple, Nat.reduceAdd, Nat.reduceLeDiff, resVal, dite_true, dite_false, Int.reduceEq, Int.reduceLT, Int.reduceLE]
  · rw [dif_neg c1] at he
    have c1' : ¬ hi ≤ 2 * r + 1 := c1
    have i1 : first + (2 * r + 1) < n := by omega
    have i2 : first + r < n := by omega
    by_cases c2 : 2 * r + 1 + 1 < hi ∧ c d1[first + (2 * r + 1)]! d1[first + (2 * r + 2)]! < 0
    · obtain ⟨c2, c3⟩ := c2
      have i3 : first + (2 * r + 2) < n := by omega
      have c2' : 2 * r + 2 < hi := by omega
      rw [if_pos (by simp only [Bool.and_eq_true, decide_eq_true_eq, ltC]; exact ⟨c2, by rw [show first + (2 * r + 1) + 1 = first + (2 * r + 2) by omega]; exact c3⟩)] at he
      by_cases c4 : c d1[first + r]! d1[first + (2 * r + 2)]! < 0
      · rw [if_neg (by simp [ltC, c4]), dif_pos c2'] at he
        simp only [n95, r95, g0, g2, g3, g4, g10, hw1, hw2, hw3, hw4, hw5, hw6, hw7, c1', c2', c3, c4, ld, st, ix, List.append_nil, Array.size_setIfInBounds, encC_len, hd1, i1, i2, i3, hc, SB, Nat.reduceLT, callee, aOp, ne_eq, Nat.reduceEqDiff, aBin, aUn, if_true, if_false, reduceCtorEq, frame0, place, notTuple, Nat.reduceAdd, Nat.reduceLeDiff, resVal, dite_true, dite_false, Int.reduceEq, Int.reduceLT, Int.reduceLE]
        refine hN (2 * r + 2, swp d1 (first + r) (first + (2 * r + 2))) _ _ ⟨by simp only; omega, (by simp only [g0, upd_same, upd_ne, ne_eq, Nat.reduceEqDiff, not_false_eq_true, frame0, List.getD_cons_zero, List.getD_cons_succ]), (by simp only [g2, upd_same, upd_ne, ne_eq, Nat.reduceEqDiff, not_false_eq_true, frame0, List.getD_cons_zero, List.getD_cons_succ]), (by simp only [g3, upd_same, upd_ne, ne_eq, Nat.reduceEqDiff, not_false_eq_true, frame0, List.getD_cons_zero, List.getD_cons_succ]), (by simp only [g4, upd_same, upd_ne, ne_eq, Nat.reduceEqDiff, not_false_eq_true, frame0, List.getD_cons_zero, List.getD_cons_succ]), (by simp only [upd_same, upd_ne, ne_eq, Nat.reduceEqDiff, not_false_eq_true, frame0, List.getD_cons_zero, List.getD_cons_succ]), by simp [swp], by simp [swp, hd1], he⟩ (by simp only; omega)
      · rw [if_pos (by simp [ltC, c4])] at he
        simp only [n95, r95, g0, g2, g3, g4, g10, hw1, hw2, hw3, hw4, hw5, hw6, hw7, c1', c2', c3, c4, ld, st, ix, List.append_nil, Array.size_setIfInBounds, encC_len, hd1, i1, i2, i3, hc, he, SB, Nat.reduceLT, callee, aOp, ne_eq, Nat.reduceEqDiff, aBin, aUn, if_true, if_false, reduceCtorEq, frame0, place, notTuple, Nat.reduceAdd, Nat.reduceLeDiff, resVal, dite_true, dite_false, Int.reduceEq, Int.reduceLT, Int.reduceLE]
    · rw [if_neg (by simp only [Bool.and_eq_true, decide_eq_true_eq, ltC]; rw [show first + (2 * r + 1) + 1 = first + (2 * r + 2) by omega]; exact c2)] at he
      by_cases c4 : c d1[first + r]! d1[first + (2 * r + 1)]! < 0
      · rw [if_neg (by simp [ltC, c4])] at he
        by_cases c5 : 2 * r + 2 < hi
        · have c3 : ¬ c d1[first + (2 * r + 1)]! d1[first + (2 * r + 2)]! < 0 := fun h => c2 ⟨by omega, h⟩
          have i3 : first + (2 * r + 2) < n := by omega
          simp only [n95, r95, g0, g2, g3, g4, g10, hw1, hw2, hw3, hw4, hw5, hw6, hw7, c1', c5, c3, c4, ld, st, ix, List.append_nil, Array.size_setIfInBounds, encC_len, hd1, i1, i2, i3, hc, SB, Nat.reduceLT, callee, aOp, ne_eq, Nat.reduceEqDiff, aBin, aUn, if_true, if_false, reduceCtorEq, frame0, place, notTuple, Nat.reduceAdd, Nat.reduceLeDiff, resVal, dite_true, dite_false, Int.reduceEq, Int.reduceLT, Int.reduceLE]
          refine hN (2 * r + 1, swp d1 (first + r) (first + (2 * r + 1))) _ _ ⟨by simp only; omega, (by simp only [g0, upd_same, upd_ne, ne_eq, Nat.reduceEqDiff, not_false_eq_true, frame0, List.getD_cons_zero, List.getD_cons_succ]), (by simp only [g2, upd_same, upd_ne, ne_eq, Nat.reduceEqDiff, not_false_eq_true, frame0, List.getD_cons_zero, List.getD_cons_succ]), (by simp only [g3, upd_same, upd_ne, ne_eq, Nat.reduceEqDiff, not_false_eq_true, frame0, List.getD_cons_zero, List.getD_cons_succ]), (by simp only [g4, upd_same, upd_ne, ne_eq, Nat.reduceEqDiff, not_false_eq_true, frame0, List.getD_cons_zero, List.getD_cons_succ]), (by simp only [upd_same, upd_ne, ne_eq, Nat.reduceEqDiff, not_false_eq_true, frame0, List.getD_cons_zero, List.getD_cons_succ]), by simp [swp], by simp [swp, hd1], he⟩ (by simp only; omega)
        · simp only [n95, r95, g0, g2, g3, g4, g10, hw1, hw2, hw3, hw4, hw5, hw6, hw7, c1', c5, c4, ld, st, ix, List.append_nil, Array.size_setIfInBounds, encC_len, hd1, i1, i2, hc, SB, Nat.reduceLT, callee, aOp, ne_eq, Nat.reduceEqDiff, aBin, aUn, if_true, if_false, reduceCtorEq, frame0, place, notTuple, Nat.reduceAdd, Nat.reduceLeDiff, resVal, dite_true, dite_false, Int.reduceEq, Int.reduceLT, Int.reduceLE]
          refine hN (2 * r + 1, swp d1 (first + r) (first + (2 * r + 1))) _ _ ⟨by simp only; omega, (by simp only [g0, upd_same, upd_ne, ne_eq, Nat.reduceEqDiff, not_false_eq_true, frame0, List.getD_cons_zero, List.getD_cons_succ]), (by simp only [g2, upd_same, upd_ne, ne_eq, Nat.reduceEqDiff, not_false_eq_true, frame0, List.getD_cons_zero, List.getD_cons_succ]), (by simp only [g3, upd_same, upd_ne, ne_eq, Nat.reduceEqDiff, not_false_eq_true, frame0, List.getD_cons_zero, List.getD_cons_succ]), (by simp only [g4, upd_same, upd_ne, ne_eq, Nat.reduceEqDiff, not_false_eq_true, frame0, List.getD_cons_zero, List.getD_cons_succ]), (by simp only [upd_same, upd_ne, ne_eq, Nat.reduceEqDiff, not_false_eq_true, frame0, List.getD_cons_zero, List.getD_cons_succ]), by simp [swp], by simp [swp, hd1], he⟩ (by simp only; omega)
      · rw [if_pos (by simp [ltC, c4])] at he
        by_cases c5 : 2 * r + 2 < hi
        · have c3 : ¬ c d1[first + (2 * r + 1)]! d1[first + (2 * r + 2)]! < 0 := fun h => c2 ⟨by omega, h⟩
          have i3 : first + (2 * r + 2) < n := by omega
          simp only [n95, r95, g0, g2, g3, g4, g10, hw1, hw2, hw3, hw4, hw5, hw6, hw7, c1', c5, c3, c4, ld, st, ix, List.append_nil, Array.size_setIfInBounds, encC_len, hd1, i1, i2, i3, hc, he, SB, Nat.reduceLT, callee, aOp, ne_eq, Nat.reduceEqDiff, aBin, aUn, if_true, if_false, reduceCtorEq, frame0, place, notTuple, Nat.reduceAdd, Nat.reduceLeDiff, resVal, dite_true, dite_false, Int.reduceEq, Int.reduceLT, Int.reduceLE]
        · simp only [n95, r95, g0, g2, g3, g4, g10, hw1, hw2, hw3, hw4, hw5, hw6, hw7, c1', c5, c4, ld, st, ix, List.append_nil, Array.size_setIfInBounds, encC_len, hd1, i1, i2, hc, he, SB, Nat.reduceLT, callee, aOp, ne_eq, Nat.reduceEqDiff, aBin, aUn, if_true, if_false, reduceCtorEq, frame0, place, notTuple, Nat.reduceAdd, Nat.reduceLeDiff, resVal, dite_true, dite_false, Int.reduceEq, Int.reduceLT, Int.reduceLE]
end Go.Proofs.Ytlmoijifgbkapaa.Fn
