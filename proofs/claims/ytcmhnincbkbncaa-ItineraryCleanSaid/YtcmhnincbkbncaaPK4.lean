/-
  Joined texts, 4 of 8. A part of the claim that the last text states.
-/
import Derived.Sort.AssemblyPlain
import Derived.Test.YtcmhnincbkbncaaPK3
set_option linter.unusedVariables false
set_option linter.unusedSimpArgs false
namespace Go.AM
section
variable {α : Type}
def gt [Inhabited α] (l : List α) (i : Nat) : α := l.getD i default
theorem gt_lt [Inhabited α] {l : List α} {i : Nat} (h : i < l.length) : gt l i = l[i] := by simp [gt, List.getD_eq_getElem?_getD, List.getElem?_eq_getElem h]
theorem gt_cons_succ [Inhabited α] {x : α} {l : List α} {i : Nat} : gt (x :: l) (i + 1) = gt l i := by simp [gt]
theorem gt_append_left [Inhabited α] {l r : List α} {i : Nat} (h : i < l.length) : gt (l ++ r) i = gt l i := by
 simp [gt, List.getD_eq_getElem?_getD, List.getElem?_append_left h]
theorem gt_append_len [Inhabited α] {l r : List α} {i : Nat} : gt (l ++ r) (l.length + i) = gt r i := by
 unfold gt
 rw [List.getD_eq_getElem?_getD, List.getD_eq_getElem?_getD, List.getElem?_append_right (by omega), Nat.add_sub_cancel_left]
theorem gt_mem [Inhabited α] {l : List α} {i : Nat} (h : i < l.length) : gt l i ∈ l := by rw [gt_lt h]; exact List.getElem_mem h
def addrOf (p : Option Addr) : Addr := p.getD ⟨0, 0, none⟩
def elt (p : Option Addr) (e i : Nat) : Addr := (addrOf p).add (i * e)
def Sl (H : Heap) (enc : α → List Value) (e : Nat) (p : Option Addr) (l : List α) : Prop :=
 match p with
 | none => l = []
 | some a => a.spot = none ∧ (l ≠ [] → ∃ ro c, hget H a.block = .cells ro c ∧ a.off + l.length * e ≤ c.length ∧ (c.drop a.off).take (l.length * e) = l.flatMap enc)
theorem hget_alive {H : Heap} {i : Nat} {ro : Bool} {c : List Value} (h : hget H i = .cells ro c) : i < H.length := by
 rcases Nat.lt_or_ge i H.length with h1 | h1
 · exact h1
 · unfold hget at h
  rw [List.getD_eq_getElem?_getD, List.getElem?_eq_none h1] at h
  cases h
def cellsOf : Blk → List Value | .cells _ c => c | _ => []
def isCells : Blk → Bool | .cells _ _ => true | _ => false
theorem Sl.app {H : Heap} {enc : α → List Value} {e : Nat} {p : Option Addr} {l : List α} (h : Sl H enc e p l) (X : Heap) : Sl (H ++ X) enc e p l := by
 cases p with
 | none => exact h
 | some a =>
  refine ⟨h.1, fun hn => ?_⟩
  obtain ⟨ro, c, h2, h3⟩ := h.2 hn
  exact ⟨ro, c, by rw [hget_old (hget_alive h2)]; exact h2, h3⟩
theorem Sl.sim {H G : Heap} {enc : α → List Value} {e : Nat} {p : Option Addr} {l : List α} (h : Sl H enc e p l) (hG : ∀ b ro c, hget H b = .cells ro c → hget G b = .cells ro c) : Sl G enc e p l := by
 cases p with
 | none => exact h
 | some a =>
  refine ⟨h.1, fun hn => ?_⟩
  obtain ⟨ro, c, h2, h3⟩ := h.2 hn
  exact ⟨ro, c, hG _ _ _ h2, h3⟩
theorem flat_len {enc : α → List Value} {e : Nat} (he : ∀ x, (enc x).length = e) (l : List α) : (l.flatMap enc).length = l.length * e := by
 induction l with
 | nil => simp
 | cons x l ih => simp [ih, he, Nat.add_mul, Nat.add_comm]
theorem flat_drop {enc : α → List Value} {e : Nat} (he : ∀ x, (enc x).length = e) : ∀ (l : List α) (i : Nat), i < l.length → [Inhabited α] → ((l.flatMap enc).drop (i * e)).take e = enc (gt l i)
 | [], i, h, _ => by simp at h
 | x :: l, 0, _, _ => by
  rw [List.flatMap_cons, Nat.zero_mul, List.drop_zero, List.take_append_of_le_length (by rw [he]; exact Nat.le_refl _), List.take_of_length_le (by rw [he]; exact Nat.le_refl _)]
  rfl
 | x :: l, i + 1, h, _ => by
  rw [List.flatMap_cons, List.drop_append, List.drop_eq_nil_of_le (by rw [he, Nat.add_mul]; omega), List.nil_append, he, show (i + 1) * e - e = i * e by rw [Nat.add_mul]; omega]
  have := flat_drop he l i (by simpa using h)
  rw [this, gt_cons_succ]
variable [Inhabited α] {H : Heap} {enc : α → List Value} {e : Nat} {p : Option Addr} {l : List α}
theorem Sl.loadCells (h : Sl H enc e p l) (he : ∀ x, (enc x).length = e) {i : Nat} (hi : i < l.length) : AM.loadCells H (elt p e i) e = some (enc (gt l i)) := by
 cases p with
 | none => simp only [Sl] at h; subst h; simp at hi
 | some a =>
  obtain ⟨b, o, s⟩ := a
  obtain ⟨ro, c, h2, h4, h3⟩ := h.2 (by rintro rfl; simp at hi)
  have h1 := h.1
  simp only at h1 h2 h3 h4; subst h1
  have hie : i * e + e ≤ l.length * e := by
   have := Nat.mul_le_mul_right e (Nat.succ_le_of_lt hi)
   rw [Nat.succ_mul] at this; exact this
  have hf := flat_drop he l i hi
  rw [← h3, List.drop_take, List.take_take, List.drop_drop] at hf
  simp only [elt, addrOf, Option.getD_some, addr_add, AM.loadCells, h2]
  rw [if_pos (by omega), ← hf, Nat.min_eq_left (by omega)]
theorem Sl.loadCell (h : Sl H enc e p l) (he : ∀ x, (enc x).length = e) {i j : Nat} (hi : i < l.length) (hj : j < e) : AM.loadCell H ((elt p e i).add j) = (enc (gt l i))[j]? := by
 have h0 := h.loadCells he hi
 cases p with
 | none => simp only [Sl] at h; subst h; simp at hi
 | some a =>
  obtain ⟨b, o, s⟩ := a
  obtain ⟨ro, c, h2, h4, h3⟩ := h.2 (by rintro rfl; simp at hi)
  have h1 := h.1
  simp only at h1 h2 h3 h4; subst h1
  simp only [elt, addrOf, Option.getD_some, addr_add, AM.loadCells, h2] at h0
  split at h0
  · simp only [Option.some.injEq] at h0
   rw [← h0]
   simp only [elt, addrOf, Option.getD_some, addr_add, AM.loadCell, h2, List.getElem?_take, List.getElem?_drop, if_pos hj, Nat.add_assoc]
  · cases h0
theorem Sl.loadCell0 (h : Sl H enc e p l) (he : ∀ x, (enc x).length = e) {i : Nat} (hi : i < l.length) (hj : 0 < e) : AM.loadCell H (elt p e i) = (enc (gt l i))[0]? := by
 rw [← h.loadCell he hi hj]
 congr 1
omit [Inhabited α] in
theorem Sl.idx (h : Sl H enc e p l) {i c : Nat} {k : IntKind} {H1 : Heap} (hi : i < l.length) : idxK e (.slice p l.length c) (.int k (i : Int)) H1 = some (.pointer (some (elt p e i)), H1) := by
 cases p with
 | none => simp only [Sl] at h; subst h; simp at hi
 | some a => exact idxK_nat hi
end
theorem hget_set_eq {X : Heap} {j : Nat} {b : Blk} (h : j < X.length) : hget (X.set j b) j = b := by
 unfold hget; rw [List.getD_eq_getElem?_getD, List.getElem?_set_self h]; rfl
theorem hget_set_ne {X : Heap} {i j : Nat} {b : Blk} (h : i ≠ j) : hget (X.set j b) i = hget X i := by
 unfold hget; rw [List.getD_eq_getElem?_getD, List.getD_eq_getElem?_getD, List.getElem?_set_ne (Ne.symm h)]
theorem find_drop {α : Type} [Inhabited α] {l : List α} {i : Nat} {w : α → Bool} (h : i < l.length) : (l.drop i).find? w = if w (gt l i) = true then some (gt l i) else (l.drop (i + 1)).find? w := by
 rw [List.drop_eq_getElem_cons h, List.find?_cons, gt_lt h]
 split <;> simp_all
theorem idxK_zero {e len c : Nat} {p : Addr} {k : IntKind} {H : Heap} (h : 0 < len) : idxK e (.slice (some p) len c) (.int k 0) H = some (.pointer (some (p.add 0)), H) := by
 have := idxK_nat (e := e) (n := 0) (len := len) (c := c) (p := p) (k := k) (H := H) h
 rw [Nat.zero_mul] at this
 exact this
theorem keyOk_int {k : IntKind} {n : Int} : keyOk (.int k) (.int k n) = true := by simp [keyOk]
theorem keyOk_str {b : ByteArray} : keyOk .str (.string b) = true := id rfl
theorem findKey_pair {k k' : IntKind} {a b c d : Int} {v : Value} {es : List (Value × Value)} {i : Nat} : findKey (.agg #[.int k a, .int k' b]) ((.agg #[.int k c, .int k' d], v) :: es) i = if a = c ∧ b = d then some (some (i, v)) else findKey (.agg #[.int k a, .int k' b]) es (i + 1) := by
 simp only [findKey, keyEq, intsEq, if_true, Option.map_some, Bool.and_true]
 by_cases h : a = c ∧ b = d
 · obtain ⟨rfl, rfl⟩ := h
  simp
 · rw [if_neg h]
  have e : ((a == c) && (b == d)) = false := by
   cases he : ((a == c) && (b == d)) with
   | false => rfl
   | true =>
    simp only [Bool.and_eq_true, beq_iff_eq] at he
    exact absurd he h
  simp [e]
theorem findKey_nil {v : Value} {i : Nat} : findKey v [] i = some none := rfl
theorem findKey_int {k : IntKind} {a b : Int} {v : Value} {es : List (Value × Value)} {i : Nat} : findKey (.int k a) ((.int k b, v) :: es) i = if a = b then some (some (i, v)) else findKey (.int k a) es (i + 1) := by
 simp only [findKey, keyEq, if_true]
 by_cases h : a = b
 · simp [h]
 · have e : (a == b) = false := by simpa using h
  simp [h, e]
theorem mapEntries_some {H : Heap} {r : Nat} : mapEntries H (.map (some r)) = (match hget H r with | .map es => some es | _ => none) := rfl
theorem mapEntries_none {H : Heap} : mapEntries H (.map none) = some [] := rfl
theorem findKey_no {α : Type} {k : IntKind} {a : Int} {f : α → Int} {g : α → Value} : ∀ {l : List α} {i : Nat}, (∀ x ∈ l, f x ≠ a) → findKey (.int k a) (l.map fun x => (.int k (f x), g x)) i = some none
 | [], _, _ => rfl
 | x :: l, i, h => by
  rw [List.map_cons, findKey_int, if_neg (fun e => h x (by simp) e.symm)]
  exact findKey_no fun y hy => h y (by simp [hy])
theorem findKey_yes {α : Type} {k : IntKind} {a : Int} {f : α → Int} {g : α → Value} {v : Value} : ∀ {l : List α} {i : Nat}, (∃ x ∈ l, f x = a) → (∀ x ∈ l, f x = a → g x = v) → ∃ j, findKey (.int k a) (l.map fun x => (.int k (f x), g x)) i = some (some (j, v))
 | [], _, h, _ => by obtain ⟨x, hx, _⟩ := h; simp at hx
 | x :: l, i, h, hv => by
  rw [List.map_cons, findKey_int]
  by_cases e : a = f x
  · exact ⟨i, by rw [if_pos e, hv x (by simp) e.symm]⟩
  · rw [if_neg e]
   refine findKey_yes ?_ fun y hy => hv y (by simp [hy])
   obtain ⟨y, hy, hy2⟩ := h
   rcases List.mem_cons.1 hy with rfl | hy
   · exact absurd hy2.symm e
   · exact ⟨y, hy, hy2⟩
def Ext (H G : Heap) : Prop := ∃ X, G = H ++ X
section
variable {H G : Heap}
theorem Ext.refl : Ext H H := ⟨[], by simp⟩
theorem Ext.app (h : Ext H G) {X : Heap} : Ext H (G ++ X) := by
 obtain ⟨Y, rfl⟩ := h
 exact ⟨Y ++ X, by simp⟩
theorem Ext.trans {K : Heap} (h : Ext H G) (k : Ext G K) : Ext H K := by
 obtain ⟨Y, rfl⟩ := k
 exact h.app
theorem Ext.len (h : Ext H G) : H.length ≤ G.length := by
 obtain ⟨Y, rfl⟩ := h
 simp
theorem Ext.sl {α : Type} {enc : α → List Value} {e : Nat} {p : Option Addr} {l : List α} (h : Ext H G) (hs : Sl H enc e p l) : Sl G enc e p l := by
 obtain ⟨Y, rfl⟩ := h
 exact hs.app Y
theorem Ext.cells (h : Ext H G) {b : Nat} {ro : Bool} {c : List Value} (hs : hget H b = .cells ro c) : hget G b = .cells ro c := by
 obtain ⟨Y, rfl⟩ := h
 rw [hget_old (hget_alive hs)]; exact hs
end
section
variable {E : Env} {af : AFunc} {lim : Nat} {K : List AItem} {fr : Nat → Value} {H : Heap} {R : Value → Heap → Prop} {b : ACode}
theorem Ret_rounds {S : Type} (m : S → Nat) (I : S → (Nat → Value) → Heap → Prop) (s : S) (h0 : I s fr H)
  (step : ∀ s fr H, I s fr H → (∀ s' fr' H', I s' fr' H' → m s' < m s → Ret E af lim (.inLoop b :: K) fr' H' R) → Ret E af lim (.code b :: .inLoop b :: K) fr H R) :
  Ret E af lim (.code (.loop b) :: K) fr H R := by
 rw [Ret_loop, ← Ret_inLoop]
 have key : ∀ n s fr H, m s ≤ n → I s fr H → Ret E af lim (.inLoop b :: K) fr H R := by
  intro n
  induction n with
  | zero =>
   intro s fr H hm hi
   rw [Ret_inLoop]
   exact step s fr H hi fun s' fr' H' _ hl => absurd hl (by omega)
  | succ n ih =>
   intro s fr H hm hi
   rw [Ret_inLoop]
   exact step s fr H hi fun s' fr' H' hi' hl => ih s' fr' H' (by omega) hi'
 exact key _ s fr H (Nat.le_refl _) h0
theorem CallR.mono {mp : Bool} {g : FuncId} {as : List Value} {Q Q' : Value → Heap → Prop} (h : CallR E mp lim g as H Q) (hq : ∀ v H', Q v H' → Q' v H') : CallR E mp lim g as H Q' := by
 obtain ⟨n, v, H', h1, h2⟩ := h
 exact ⟨n, v, H', h1, hq v H' h2⟩
theorem Ret.mono {k : List AItem} {R' : Value → Heap → Prop} (h : Ret E af lim k fr H R) (hq : ∀ v H', R v H' → R' v H') : Ret E af lim k fr H R' := by
 obtain ⟨n, v, H', h1, h2⟩ := h
 exact ⟨n, v, H', h1, hq v H' h2⟩
theorem Ret_pad {k : List AItem} (h : Ret E af lim k fr (H ++ []) R) : Ret E af lim k fr H R := by rwa [List.append_nil] at h
theorem Ret_exit_eq {k k' : List AItem} {id : Nat} (h : aExit id k = aExit id k') : Ret E af lim (.code (.exit id) :: k) fr H R = Ret E af lim (.code (.exit id) :: k') fr H R := by
 cases hk : aExit id k' with
 | some K' => rw [Ret_exit (h.trans hk), Ret_exit hk]
 | none =>
  have key : ∀ {k : List AItem}, aExit id k = none → ¬ Ret E af lim (.code (.exit id) :: k) fr H R := by
   rintro k hk ⟨n, v, H', hx, _⟩
   cases n with
   | zero => simp [aRun] at hx
   | succ n => rw [aRun.eq_def] at hx; simp only [hk] at hx; cases hx
  exact propext ⟨fun q => absurd q (key (h.trans hk)), fun q => absurd q (key hk)⟩
theorem Ret_exit_code {id : Nat} {c : ACode} : Ret E af lim (.code (.exit id) :: .code c :: K) fr H R = Ret E af lim (.code (.exit id) :: K) fr H R := Ret_exit_eq (by simp [aExit])
theorem Ret_exit_loop {id : Nat} {c : ACode} : Ret E af lim (.code (.exit id) :: .inLoop c :: K) fr H R = Ret E af lim (.code (.exit id) :: K) fr H R := Ret_exit_eq (by simp [aExit])
theorem Ret_exit_other {id id' : Nat} (h : id' ≠ id) : Ret E af lim (.code (.exit id) :: .inBlock id' :: K) fr H R = Ret E af lim (.code (.exit id) :: K) fr H R := Ret_exit_eq (by simp [aExit, h])
theorem Ret_exit_here {id : Nat} : Ret E af lim (.code (.exit id) :: .inBlock id :: K) fr H R = Ret E af lim K fr H R := Ret_exit (by simp [aExit])
theorem Ret_first {k : List AItem} {r : Option (Value × Heap)} (h : ∀ n, aRun E (n + 1) af lim k fr H = r) : Ret E af lim k fr H R = opK r R := by
 apply propext
 constructor
 · rintro ⟨n, v, H', hx, hr⟩
  cases n with
  | zero => simp [aRun] at hx
  | succ n => rw [h] at hx; rw [hx]; exact hr
 · intro hk
  cases hx : r with
  | none => rw [hx] at hk; exact hk.elim
  | some p => rw [hx] at hk; exact ⟨1, p.1, p.2, by rw [h, hx], hk⟩
def shutK (r : Option Heap) (f : Heap → Prop) (_ : Bx f := ⟨⟩) : Prop := match r with | some H' => f H' | none => False
theorem shutK_some {f : Heap → Prop} : shutK (some H) f = f H := rfl
theorem Ret_retM : Ret E af lim (.code .retM :: K) fr H R = shutK (shut lim (marks K) H) fun H' => opK ((result fr H' af.results).map (·, H')) R := by
 rw [Ret_first (r := match shut lim (marks K) H with | some H' => (result fr H' af.results).map (·, H') | none => none) fun n => by rw [aRun.eq_def]; rfl]
 cases shut lim (marks K) H <;> rfl
theorem marks_nil : marks [] = [] := rfl
theorem marks_code {c : ACode} : marks (.code c :: K) = marks K := rfl
theorem marks_loop {c : ACode} : marks (.inLoop c :: K) = marks K := rfl
theorem marks_block {id : Nat} : marks (.inBlock id :: K) = marks K := rfl
theorem marks_mark {i : Nat} : marks (.mark i :: K) = marks K ++ [i] := rfl
theorem shut_nil : shut lim [] H = some H := rfl
theorem shut_cons {i : Nat} {l : List Nat} (h : hget H i = .dfr) (hl : lim ≤ i) : shut lim (i :: l) H = shut lim l (H.set i .dead) := by simp only [shut, h, if_pos hl]
def endB (i : Nat) (j : Option ACode) (H : Heap) (b : Blk) : Option (Value × Heap) := match b with | .loop x => some (.bool j.isNone, H.set i (.loop { x with st := if j.isNone then 0 else 2, pend := j })) | _ => none
theorem endB_on {i st N : Nat} {p : Option ACode} {g : Nat → Value} {ps : List Nat} {a b : ACode} : endB i none H (.loop ⟨st, p, g, N, ps, a, b⟩) = some (.bool true, H.set i (.loop ⟨0, none, g, N, ps, a, b⟩)) := rfl
theorem endB_off {i st N : Nat} {p : Option ACode} {g : Nat → Value} {ps : List Nat} {a b c : ACode} : endB i (some c) H (.loop ⟨st, p, g, N, ps, a, b⟩) = some (.bool false, H.set i (.loop ⟨2, some c, g, N, ps, a, b⟩)) := rfl
theorem endRound_get {i : Nat} {j : Option ACode} : endRound i j H = endB i j H (hget H i) := by unfold endRound endB; cases hget H i <;> rfl
theorem Ret_round {i : Nat} (hl : lim ≤ i) : Ret E af lim (.round i :: K) fr H R = opK (endB i none H (hget H i)) R := by
 rw [← endRound_get]; exact Ret_first fun n => by rw [aRun.eq_def]; simp only [if_pos hl]
def begK (b : Blk) (f : LoopB → Prop) (_ : Bx f := ⟨⟩) : Prop := match b with | .loop x => if x.st = 0 then f x else False | _ => False
theorem begK_loop {N : Nat} {p : Option ACode} {g : Nat → Value} {ps : List Nat} {a b : ACode} {f : LoopB → Prop} : begK (.loop ⟨0, p, g, N, ps, a, b⟩) f = f ⟨0, p, g, N, ps, a, b⟩ := by simp [begK]
theorem Ret_begin {i : Nat} (hl : lim ≤ i) : Ret E af lim (.begin i :: K) fr H R = begK (hget H i) fun x => Ret E af lim K fr (H.set i (.loop { x with st := 1 })) R := by
 unfold begK
 have never : (∀ n, aRun E (n + 1) af lim (.begin i :: K) fr H = none) → Ret E af lim (.begin i :: K) fr H R = False := fun h => by rw [Ret_first (r := none) h]; rfl
 cases hb : hget H i with
 | loop x =>
  simp only
  split
  · rename_i hs
   exact Ret.succ fun n => by rw [aRun.eq_def]; simp only [hb, if_pos (And.intro hs hl)]
  · rename_i hs
   exact never fun n => by rw [aRun.eq_def]; simp only [hb, hs, false_and, if_false]
 | _ => exact never fun n => by rw [aRun.eq_def]; simp only [hb]
theorem Ret_never {k : List AItem} (h : ∀ n, aRun E (n + 1) af lim k fr H = none) : Ret E af lim k fr H R = False := by rw [Ret_first (r := none) h]; rfl
theorem Ret_retR_eq {k k' : List AItem} (h : roundOf k = roundOf k') : Ret E af lim (.code .retR :: k) fr H R = Ret E af lim (.code .retR :: k') fr H R := by
 rw [Ret_first (r := match roundOf k with | some i => if lim ≤ i then endRound i (some .retM) H else none | none => none) fun n => by rw [aRun.eq_def]; rfl,
  Ret_first (k := .code .retR :: k') (r := match roundOf k' with | some i => if lim ≤ i then endRound i (some .retM) H else none | none => none) fun n => by rw [aRun.eq_def]; rfl, h]
theorem Ret_retR_code {c : ACode} : Ret E af lim (.code .retR :: .code c :: K) fr H R = Ret E af lim (.code .retR :: K) fr H R := Ret_retR_eq rfl
theorem Ret_retR_loop {c : ACode} : Ret E af lim (.code .retR :: .inLoop c :: K) fr H R = Ret E af lim (.code .retR :: K) fr H R := Ret_retR_eq rfl
theorem Ret_retR_block {id : Nat} : Ret E af lim (.code .retR :: .inBlock id :: K) fr H R = Ret E af lim (.code .retR :: K) fr H R := Ret_retR_eq rfl
theorem Ret_retR_round {i : Nat} (hl : lim ≤ i) : Ret E af lim (.code .retR :: .round i :: K) fr H R = opK (endB i (some .retM) H (hget H i)) R := by
 rw [← endRound_get]; exact Ret_first fun n => by rw [aRun.eq_def]; simp only [roundOf, if_pos hl]
theorem Ret_exitR_eq {k k' : List AItem} {id : Nat} (h : aExit id k = aExit id k') (h2 : roundOf k = roundOf k') : Ret E af lim (.code (.exitR id) :: k) fr H R = Ret E af lim (.code (.exitR id) :: k') fr H R := by
 cases hk : aExit id k' with
 | some K' =>
  exact (Ret.succ (k1 := K') (fr1 := fr) (H1 := H) fun n => by rw [aRun.eq_def]; simp only [h.trans hk]).trans (Ret.succ fun n => by rw [aRun.eq_def]; simp only [hk]).symm
 | none =>
  rw [Ret_first (r := match roundOf k with | some i => if lim ≤ i then endRound i (some (.exit id)) H else none | none => none) fun n => by rw [aRun.eq_def]; simp only [h.trans hk]; rfl,
   Ret_first (k := .code (.exitR id) :: k') (r := match roundOf k' with | some i => if lim ≤ i then endRound i (some (.exit id)) H else none | none => none) fun n => by rw [aRun.eq_def]; simp only [hk]; rfl, h2]
theorem Ret_exitR_code {id : Nat} {c : ACode} : Ret E af lim (.code (.exitR id) :: .code c :: K) fr H R = Ret E af lim (.code (.exitR id) :: K) fr H R := Ret_exitR_eq (by simp [aExit]) rfl
theorem Ret_exitR_loop {id : Nat} {c : ACode} : Ret E af lim (.code (.exitR id) :: .inLoop c :: K) fr H R = Ret E af lim (.code (.exitR id) :: K) fr H R := Ret_exitR_eq (by simp [aExit]) rfl
theorem Ret_exitR_other {id id' : Nat} (h : id' ≠ id) : Ret E af lim (.code (.exitR id) :: .inBlock id' :: K) fr H R = Ret E af lim (.code (.exitR id) :: K) fr H R := Ret_exitR_eq (by simp [aExit, h]) rfl
theorem Ret_exitR_here {id : Nat} : Ret E af lim (.code (.exitR id) :: .inBlock id :: K) fr H R = Ret E af lim K fr H R := Ret.succ fun n => by rw [aRun.eq_def]; simp [aExit]
theorem Ret_exitR_round {id i : Nat} (hl : lim ≤ i) : Ret E af lim (.code (.exitR id) :: .round i :: []) fr H R = opK (endB i (some (.exit id)) H (hget H i)) R := by
 rw [← endRound_get]; exact Ret_first fun n => by rw [aRun.eq_def]; simp only [aExit, roundOf, if_pos hl]
def pendI (x : LoopB) : List AItem := match x.pend with | none => [] | some c => [.code c]
theorem pendI_none {st N : Nat} {g : Nat → Value} {ps : List Nat} {a b : ACode} : pendI ⟨st, none, g, N, ps, a, b⟩ = [] := rfl
theorem pendI_some {st N : Nat} {g : Nat → Value} {ps : List Nat} {a b c : ACode} : pendI ⟨st, some c, g, N, ps, a, b⟩ = [.code c] := rfl
def calL (c : Option ((FuncId ⊕ Nat) × List Value)) (f : FuncId → List Value → Prop) (_ : Bx f := ⟨⟩) : Prop := match c with | some (.inl g, as) => f g as | _ => False
theorem calL_some {g : FuncId} {as : List Value} {f : FuncId → List Value → Prop} : calL (some (.inl g, as)) f = f g as := rfl
def endK (b : Blk) (f : LoopB → Prop) (_ : Bx f := ⟨⟩) : Prop := match b with | .loop x => if x.st = 1 then False else f x | _ => False
theorem endK_0 {N : Nat} {p : Option ACode} {g : Nat → Value} {ps : List Nat} {a b : ACode} {f : LoopB → Prop} : endK (.loop ⟨0, p, g, N, ps, a, b⟩) f = f ⟨0, p, g, N, ps, a, b⟩ := by simp [endK]
theorem endK_2 {N : Nat} {p : Option ACode} {g : Nat → Value} {ps : List Nat} {a b : ACode} {f : LoopB → Prop} : endK (.loop ⟨2, p, g, N, ps, a, b⟩) f = f ⟨2, p, g, N, ps, a, b⟩ := by simp [endK]
theorem endK_loop {x : LoopB} {f : LoopB → Prop} (h : x.st ≠ 1) : endK (.loop x) f = f x := by simp [endK, h]
theorem endK_congr {b b' : Blk} {f : LoopB → Prop} (h : b = b') : endK b f = endK b' f := by rw [h]
theorem Ret_rangeF0 {f : Operand} {ps : List Nat} {a b : ACode} {g : FuncId} {as : List Value} (hc : callee (ev fr f) [.func (.yield (H.length + 1)) #[] #[]] = some (.inl g, as)) :
  Ret E af lim (.code (.rangeF f ps a b) :: K) fr H R = CallR E false lim g as (H ++ [.dfr, .loop ⟨0, none, fr, af.ntmps, ps, a, b⟩]) fun _ H2 =>
   endK (hget H2 (H.length + 1)) fun x => Ret E af lim (pendI x ++ (K ++ [.mark H.length])) fr (H2.set (H.length + 1) .dead) R := by
 apply propext
 constructor
 · rintro ⟨n, v, H', hx, hr⟩
  cases n with
  | zero => simp [aRun] at hx
  | succ n =>
  rw [aRun.eq_def] at hx
  simp only [hc] at hx
  split at hx
  case h_2 => cases hx
  rename_i v2 H2 hcall
  refine ⟨n, v2, H2, hcall, ?_⟩
  split at hx
  case h_2 => cases hx
  rename_i x hb
  split at hx
  · cases hx
  rename_i hst
  rw [hb, endK_loop hst]
  exact ⟨n, v, H', hx, hr⟩
 · rintro ⟨n, v2, H2, hcall, hk⟩
  unfold endK at hk
  split at hk
  case h_2 => exact hk.elim
  rename_i x hb
  split at hk
  · exact hk.elim
  rename_i hst
  obtain ⟨m, v, H', hx, hr⟩ := hk
  refine ⟨max n m + 1, v, H', ?_, hr⟩
  rw [aRun.eq_def]
  have e : callWith E (aRun E (max n m)) false lim (.inl g) as (H ++ [.dfr, .loop ⟨0, none, fr, af.ntmps, ps, a, b⟩]) = some (v2, H2) := aCall_le E (Nat.le_max_left n m) _ _ _ _ _ _ hcall
  simp only [hc, e, hb, if_neg hst]
  exact aRun_le E (Nat.le_max_right n m) hx
theorem Ret_rangeF {f : Operand} {ps : List Nat} {a b : ACode} :
  Ret E af lim (.code (.rangeF f ps a b) :: K) fr H R = calL (callee (ev fr f) [.func (.yield (H.length + 1)) #[] #[]]) fun g as => CallR E false lim g as (H ++ [.dfr, .loop ⟨0, none, fr, af.ntmps, ps, a, b⟩]) fun _ H2 =>
   endK (hget H2 (H.length + 1)) fun x => Ret E af lim (pendI x ++ (K ++ [.mark H.length])) fr (H2.set (H.length + 1) .dead) R := by
 unfold calL
 split
 · rename_i g as hc; exact Ret_rangeF0 hc
 · rename_i hc
  refine Ret_never fun n => ?_
  rw [aRun.eq_def]
  simp only
theorem CallY.det {mp : Bool} {i : Nat} {as : List Value} {Q : Value → Heap → Prop} {n : Nat} {v : Value} {H' : Heap} (h : aCall E n mp lim (.inr i) as H = some (v, H')) : CallY E mp lim i as H Q = Q v H' := by
 apply propext
 constructor
 · rintro ⟨m, v', H1, h1, h2⟩
  have e1 := aCall_le E (Nat.le_max_left n m) _ _ _ _ _ _ h
  have e2 := aCall_le E (Nat.le_max_right n m) _ _ _ _ _ _ h1
  rw [e1] at e2; cases e2; exact h2
 · exact fun hq => ⟨n, v, H', h, hq⟩
theorem CallY.mono {mp : Bool} {i : Nat} {as : List Value} {Q Q' : Value → Heap → Prop} (h : CallY E mp lim i as H Q) (hq : ∀ v H', Q v H' → Q' v H') : CallY E mp lim i as H Q' := by
 obtain ⟨n, v, H', h1, h2⟩ := h
 exact ⟨n, v, H', h1, hq v H' h2⟩
theorem CallY_run {i : Nat} {as : List Value} {Q : Value → Heap → Prop} {x : LoopB} (hb : hget H i = .loop x) (hl : lim ≤ i) (hlen : as.length = x.params.length) (hp : (x.params.all (· < x.N)) = true) :
  CallY E false lim i as H Q = Ret E ⟨x.N, [], .skip⟩ lim [.code x.assign, .begin i, .code x.body, .round i] (setParams x.fr x.params as) H Q := by
 unfold CallY Ret aCall callWith
 simp only [hb, if_pos (And.intro hl (And.intro hlen hp)), Bool.false_eq_true, if_false]
theorem Ret_code {c c' : ACode} (h : c = c') : Ret E af lim (.code c :: K) fr H R = Ret E af lim (.code c' :: K) fr H R := by rw [h]
theorem loadCell_lit {b o : Nat} {s : Option Nat} : AM.loadCell H ⟨b, o, s⟩ = (match hget H b with | .cells _ c => c[o]? | _ => none) := rfl
theorem loadCells_lit {b o n : Nat} {s : Option Nat} : AM.loadCells H ⟨b, o, s⟩ n = (match hget H b with | .cells _ c => if o + n ≤ c.length then some ((c.drop o).take n) else none | _ => none) := rfl
theorem storeAt_lit {b o : Nat} {s : Option Nat} {vs : List Value} : AM.storeAt lim H ⟨b, o, s⟩ vs = (match hget H b with | .cells false c => if lim ≤ b ∧ o + vs.length ≤ c.length then some (H.set b (.cells false (setAll c o vs))) else none | _ => none) := rfl
theorem CallR.eq {mp : Bool} {g : FuncId} {as : List Value} {Q : Value → Heap → Prop} {v : Value} {H' : Heap} (h : CallR E mp lim g as H fun v' H1 => v' = v ∧ H1 = H') : CallR E mp lim g as H Q = Q v H' := by
 obtain ⟨n, v', H1, h1, rfl, rfl⟩ := h
 exact CallR.det h1
end
section
variable {p q : Prop} {t b : Bool}
theorem wantK_undef : wantK undef b p q = q := by unfold undef wantK; rfl
theorem wantK_not : wantK (.bool (!t)) b p q = wantK (.bool t) (!b) p q := by cases t <;> cases b <;> simp [wantK]
theorem condK_not : condK (.bool (!t)) p q = condK (.bool t) q p := by cases t <;> rfl
end
theorem int_lt_cast {a b : Nat} : ((a : Int) < (b : Int)) = (a < b) := by simp
theorem int_le_cast {a b : Nat} : ((a : Int) ≤ (b : Int)) = (a ≤ b) := by simp
theorem int_zero_lt {a : Nat} : ((0 : Int) < (a : Int)) = (0 < a) := by simp
theorem wrap_id {n : Int} (h1 : -2 ^ 63 ≤ n) (h2 : n < 2 ^ 63) : IntKind.i64.wrap n = n := by
 by_cases h : 0 ≤ n
 · have h1 : n % 2 ^ 64 = n := Int.emod_eq_of_lt h (by omega)
  simp only [IntKind.wrap, IntKind.bits, IntKind.signed, h1]
  rw [if_neg (by simp; omega)]
 · have h1 : n % 2 ^ 64 = n + 2 ^ 64 := by
   rw [← Int.add_emod_right, Int.emod_eq_of_lt (by omega) (by omega)]
  simp only [IntKind.wrap, IntKind.bits, IntKind.signed, h1]
  rw [if_pos (by simp; omega)]
  omega
theorem wrap_pred {n : Nat} (h : 0 < n) (h2 : n < 2 ^ 63) : IntKind.i64.wrap ((n : Int) - 1) = ((n - 1 : Nat) : Int) := by rw [wrap_id (by omega) (by omega)]; omega
theorem hget_cells {H : Heap} {b : Nat} (h : isCells (hget H b) = true) : ∃ ro, hget H b = .cells ro (cellsOf (hget H b)) := by
 cases hb : hget H b with
 | cells ro c => exact ⟨ro, by simp [cellsOf]⟩
 | _ => rw [hb] at h; simp [isCells] at h
theorem Sl.lit {α : Type} {H : Heap} {enc : α → List Value} {e b : Nat} {l : List α} (he : ∀ x, (enc x).length = e) (h : isCells (hget H b) = true) (hc : cellsOf (hget H b) = l.flatMap enc) : Sl H enc e (some ⟨b, 0, none⟩) l := by
 obtain ⟨ro, h1⟩ := hget_cells h
 refine ⟨rfl, fun _ => ⟨ro, _, h1, ?_, ?_⟩⟩
 · rw [hc, flat_len he]; simp
 · rw [hc, List.drop_zero, List.take_of_length_le (by rw [flat_len he]; exact Nat.le_refl _)]
theorem cells_slice {a : Option Addr} {n c : Nat} : (Value.slice a n c).cells = #[.slice a n c] := rfl
theorem cells_ptr {a : Option Addr} : (Value.pointer a).cells = #[.pointer a] := rfl
theorem cells_str {s : ByteArray} : (Value.string s).cells = #[.string s] := rfl
theorem arr1 {v : Value} : (#[v] : Array Value).toList = [v] := rfl
theorem size1 {v : Value} : (#[v] : Array Value).size = 1 := rfl
theorem cells_map {a : Option Nat} : (Value.map a).cells = #[.map a] := rfl
theorem cells_func {f : Fn} {a b : Array Value} : (Value.func f a b).cells = #[.func f a b] := rfl
theorem fillV_slice {off : Nat} {a : Option Addr} {n m : Nat} {c : List Value} (h : off < c.length) : fillV off 1 (.slice a n m) c = some (c.set off (.slice a n m)) := fillV_one rfl rfl h
theorem fillV_ptr {off : Nat} {a : Option Addr} {c : List Value} (h : off < c.length) : fillV off 1 (.pointer a) c = some (c.set off (.pointer a)) := fillV_one rfl rfl h
theorem fillV_str {off : Nat} {a : ByteArray} {c : List Value} (h : off < c.length) : fillV off 1 (.string a) c = some (c.set off (.string a)) := fillV_one rfl rfl h
theorem fillV_map {off : Nat} {a : Option Nat} {c : List Value} (h : off < c.length) : fillV off 1 (.map a) c = some (c.set off (.map a)) := fillV_one rfl rfl h
theorem pad_4 : List.replicate 4 Blk.dead = [.dead, .dead, .dead, .dead] := rfl
theorem pad_5 : List.replicate 5 Blk.dead = [.dead, .dead, .dead, .dead, .dead] := rfl
theorem pad_6 : List.replicate 6 Blk.dead = [.dead, .dead, .dead, .dead, .dead, .dead] := rfl
theorem pad_7 : List.replicate 7 Blk.dead = [.dead, .dead, .dead, .dead, .dead, .dead, .dead] := rfl
theorem pad_8 : List.replicate 8 Blk.dead = [.dead, .dead, .dead, .dead, .dead, .dead, .dead, .dead] := rfl
theorem pad_9 : List.replicate 9 Blk.dead = [.dead, .dead, .dead, .dead, .dead, .dead, .dead, .dead, .dead] := rfl
theorem pad_10 : List.replicate 10 Blk.dead = [.dead, .dead, .dead, .dead, .dead, .dead, .dead, .dead, .dead, .dead] := rfl
theorem pad_11 : List.replicate 11 Blk.dead = [.dead, .dead, .dead, .dead, .dead, .dead, .dead, .dead, .dead, .dead, .dead] := rfl
theorem pad_12 : List.replicate 12 Blk.dead = [.dead, .dead, .dead, .dead, .dead, .dead, .dead, .dead, .dead, .dead, .dead, .dead] := rfl
theorem bytesOf_nil : bytesOf [] = some [] := rfl
theorem bytesOf_cons {n : Int} {l : List Value} : bytesOf (.int .u8 n :: l) = (bytesOf l).map (UInt8.ofNat n.toNat :: ·) := by
 simp only [bytesOf]; cases bytesOf l <;> rfl
theorem int_eq_cast {a b : Nat} : ((a : Int) = (b : Int)) = (a = b) := propext Int.ofNat_inj
theorem setAll_skip {v : Value} {c vs : List Value} : ∀ {o : Nat}, setAll (v :: c) (o + 1) vs = v :: setAll c o vs := by
 induction vs generalizing c with
 | nil => intro o; rfl
 | cons u vs ih => intro o; rw [setAll_cons, setAll_cons, List.set_cons_succ]; exact ih
theorem take_all {l : List Value} {n : Nat} (h : l.length = n) : l.take n = l := by subst h; exact List.take_length
theorem nat_not_neg {n : Nat} : ((n : Int) < 0) = False := by simp
theorem setAll_full {c vs : List Value} (h : vs.length = c.length) : setAll c 0 vs = vs := by
 have key : ∀ (vs c pre : List Value), vs.length = c.length → setAll (pre ++ c) pre.length vs = pre ++ vs := by
  intro vs
  induction vs with
  | nil => intro c pre h; have : c = [] := List.length_eq_zero_iff.1 h.symm; subst this; rfl
  | cons v vs ih =>
   intro c pre h
   match c, h with
   | x :: c, h =>
    rw [setAll_cons]
    have e1 : (pre ++ x :: c).set pre.length v = (pre ++ [v]) ++ c := by simp
    rw [e1]
    have := ih c (pre ++ [v]) (by simpa using h)
    rw [List.length_append] at this
    simp only [List.length_cons, List.length_nil, Nat.zero_add] at this
    rw [this]; simp
 exact key vs c [] h
def b2sV (v : Value) (H : Heap) : Option (Value × Heap) := match v with
 | .slice none n _ => if n = 0 then some (.string .empty, H) else none
 | .slice (some a) n _ => match loadCells H a n with
  | some cs => match bytesOf cs with
   | some bs => some (.string ⟨bs.toArray⟩, H)
   | none => none
  | none => none
 | _ => none
theorem b2sV_some {a : Addr} {n c : Nat} {H : Heap} : b2sV (.slice (some a) n c) H = (match AM.loadCells H a n with
  | some cs => match bytesOf cs with
   | some bs => some (.string ⟨bs.toArray⟩, H)
   | none => none
  | none => none) := rfl
theorem on_b2sV {E : Env} {lim : Nat} {dest : Option Nat} {mask : List Nat} {fr : Nat → Value} {H : Heap} {Q : Value → Heap → Prop} {qx : Operand} : oK E lim none dest mask (.b2s qx) fr H Q = opK (b2sV (ev fr qx) H) Q := oK_none rfl
theorem ob_b2sV {E : Env} {lim b : Nat} {dest : Option Nat} {mask : List Nat} {fr : Nat → Value} {H : Heap} {Q : Value → Heap → Prop} {qx : Operand} : oK E lim (some b) dest mask (.b2s qx) fr H Q = opK (b2sV (ev fr qx) (maskH b mask H)) fun v H' => Q v (unmaskH b mask H H') := oK_some rfl
def unV : Operand → Value
 | .const v => v
 | _ => undef
def sliceV (e : Nat) (v : Value) (lo hi mx : Option Value) : Option Value := aSliceS e unV v (lo.map .const) (hi.map .const) (mx.map .const)
theorem aSliceS_V {e : Nat} {ρ : Operand → Value} {v : Value} {lo hi mx : Option Operand} : aSliceS e ρ v lo hi mx = sliceV e v (lo.map ρ) (hi.map ρ) (mx.map ρ) := by
 unfold sliceV aSliceS
 cases v with
 | slice a n c => cases lo <;> cases hi <;> cases mx <;> rfl
 | _ => rfl
def copyV (lim esz : Nat) (d x : Value) (H : Heap) : Option (Value × Heap) := match d, lenOf x with
  | .slice base dl _, some sl => match copyCells H esz (min sl dl) x with
   | some cs => match base with
    | some a => if min sl dl = 0 then some (.int .i64 0, H) else (storeAt lim H a cs).map (.int .i64 (min sl dl : Nat), ·)
    | none => if dl = 0 then some (.int .i64 0, H) else none
   | none => none
  | _, _ => none
theorem on_copyV {E : Env} {lim e : Nat} {dest : Option Nat} {mask : List Nat} {fr : Nat → Value} {H : Heap} {Q : Value → Heap → Prop} {d x : Operand} : oK E lim none dest mask (.copy e d x) fr H Q = opK (copyV lim e (ev fr d) (ev fr x) H) Q := oK_none rfl
theorem ob_copyV {E : Env} {lim b e : Nat} {dest : Option Nat} {mask : List Nat} {fr : Nat → Value} {H : Heap} {Q : Value → Heap → Prop} {d x : Operand} : oK E lim (some b) dest mask (.copy e d x) fr H Q = opK (copyV lim e (ev fr d) (ev fr x) (maskH b mask H)) fun v H' => Q v (unmaskH b mask H H') := oK_some rfl
def sliceAV (n e : Nat) (v : Value) (lo hi mx : Option Value) : Option Value := match v with
 | .pointer (some a) => match bounds unV n n (lo.map .const) (hi.map .const) (mx.map .const) with
  | some (l, h, m) => if m < 2 ^ 62 then some (.slice (some (if m = l then a else a.add (l * e))) (h - l) (m - l)) else none
  | none => none
 | _ => none
theorem sliceA_V {lim n e : Nat} {dest : Option Nat} {ρ : Operand → Value} {x : Operand} {lo hi mx : Option Operand} {H : Heap} : aOp lim dest (.sliceA n e x lo hi mx) ρ H = (sliceAV n e (ρ x) (lo.map ρ) (hi.map ρ) (mx.map ρ)).map (·, H) := by
 have hb : bounds unV n n ((lo.map ρ).map .const) ((hi.map ρ).map .const) ((mx.map ρ).map .const) = bounds ρ n n lo hi mx := by
  cases lo <;> cases hi <;> cases mx <;> rfl
 simp only [aOp, sliceAV, hb]
 cases ρ x with
 | pointer a =>
  cases a with
  | none => rfl
  | some a =>
   simp only
   cases bounds ρ n n lo hi mx with
   | none => rfl
   | some p =>
    obtain ⟨l, h, m⟩ := p
    simp only
    split <;> rfl
 | _ => rfl
theorem on_sliceAV {E : Env} {lim n e : Nat} {dest : Option Nat} {mask : List Nat} {fr : Nat → Value} {H : Heap} {Q : Value → Heap → Prop} {x : Operand} {lo hi mx : Option Operand} : oK E lim none dest mask (.sliceA n e x lo hi mx) fr H Q = opK ((sliceAV n e (ev fr x) (lo.map (ev fr)) (hi.map (ev fr)) (mx.map (ev fr))).map (·, H)) Q := by
 rw [oK_none rfl, sliceA_V]
theorem ob_sliceAV {E : Env} {lim b n e : Nat} {dest : Option Nat} {mask : List Nat} {fr : Nat → Value} {H : Heap} {Q : Value → Heap → Prop} {x : Operand} {lo hi mx : Option Operand} : oK E lim (some b) dest mask (.sliceA n e x lo hi mx) fr H Q = opK ((sliceAV n e (ev fr x) (lo.map (ev fr)) (hi.map (ev fr)) (mx.map (ev fr))).map (·, maskH b mask H)) fun v H' => Q v (unmaskH b mask H H') := by
 rw [oK_some rfl, sliceA_V]
def appendLV (lim : Nat) (dest : Option Nat) (esz bytes : Nat) (str : Bool) (s x : Value) (H : Heap) : Option (Value × Heap) := match s with
  | .slice none n c => aAppend lim dest esz bytes str (.slice none n c) x H
  | .slice (some a) n c => if c = loose esz ∨ c = n then aAppend lim dest esz bytes str (.slice (some a) n c) x H else none
  | _ => none
theorem on_appendLV {E : Env} {lim e b : Nat} {str : Bool} {dest : Option Nat} {mask : List Nat} {fr : Nat → Value} {H : Heap} {Q : Value → Heap → Prop} {s x : Operand} : oK E lim none dest mask (.appendL e b str s x) fr H Q = opK (appendLV lim none e b str (ev fr s) (ev fr x) H) Q := oK_none rfl
theorem ob_appendLV {E : Env} {lim e b' b : Nat} {str : Bool} {dest : Option Nat} {mask : List Nat} {fr : Nat → Value} {H : Heap} {Q : Value → Heap → Prop} {s x : Operand} : oK E lim (some b) dest mask (.appendL e b' str s x) fr H Q = opK (appendLV lim (dest.map (b + ·)) e b' str (ev fr s) (ev fr x) (maskH b mask H)) fun v H' => Q v (unmaskH b mask H H') := oK_some rfl
theorem appendLV_none {lim e b n c : Nat} {str : Bool} {dest : Option Nat} {x : Value} {H : Heap} : appendLV lim dest e b str (.slice none n c) x H = aAppend lim dest e b str (.slice none n c) x H := rfl
theorem appendLV_some {lim e b n c : Nat} {str : Bool} {dest : Option Nat} {x : Value} {H : Heap} {a : Addr} : appendLV lim dest e b str (.slice (some a) n c) x H = if c = loose e ∨ c = n then aAppend lim dest e b str (.slice (some a) n c) x H else none := rfl
end Go.AM

set_option linter.unusedVariables false
set_option linter.unusedSimpArgs false
namespace Go.AM
section
variable {α : Type}
def DH (enc : α → List Value) (G : Heap) (B : Nat) (d : Array α) : Heap := G.set B (.cells false (d.toList.flatMap enc))
variable [Inhabited α] {enc : α → List Value} {G X : Heap} {B e i : Nat} {d : Array α} {p : Option Addr} {lim : Nat}
omit [Inhabited α] in
theorem DH_len : (DH enc G B d).length = G.length := by simp [DH]
omit [Inhabited α] in
theorem DH_get (hB : B < G.length) : hget (DH enc G B d ++ X) B = .cells false (d.toList.flatMap enc) := by
 rw [hget_old (by rw [DH_len]; exact hB)]
 exact hget_set_eq hB
omit [Inhabited α] in
theorem DH_sl (hp : p = some ⟨B, 0, none⟩) (hB : B < G.length) (he : ∀ x, (enc x).length = e) : Sl (DH enc G B d ++ X) enc e p d.toList := by
 subst hp
 refine Sl.lit he ?_ ?_
 · rw [DH_get hB]; rfl
 · rw [DH_get hB]; rfl
theorem gt_arr {α : Type} [Inhabited α] (d : Array α) (i : Nat) : gt d.toList i = d[i]! := by
 unfold gt
 rw [List.getD_eq_getElem?_getD, Array.getElem?_toList, getElem!_def]
 cases d[i]? <;> rfl
theorem DH_ld (hp : p = some ⟨B, 0, none⟩) (hB : B < G.length) (he : ∀ x, (enc x).length = e) (hi : i < d.size) : AM.loadCells (DH enc G B d ++ X) (elt p e i) e = some (enc d[i]!) := by
 rw [(DH_sl hp hB he).loadCells he (by simpa using hi), gt_arr]
omit [Inhabited α] in
theorem flat_set (he : ∀ x, (enc x).length = e) (y : α) : ∀ (l : List α) (i : Nat), i < l.length → setAll (l.flatMap enc) (i * e) (enc y) = (l.set i y).flatMap enc := by
 have key : ∀ (vs a b c : List Value) , vs.length = b.length → setAll (a ++ b ++ c) a.length vs = a ++ vs ++ c := by
  intro vs
  induction vs with
  | nil => intro a b c h; simp at h; have : b = [] := List.length_eq_zero_iff.1 h.symm; subst this; rfl
  | cons v vs ih =>
   intro a b c h
   match b, h with
   | x :: b, h =>
    rw [setAll_cons]
    have e1 : (a ++ x :: b ++ c).set a.length v = (a ++ [v]) ++ b ++ c := by simp
    rw [e1]
    have := ih (a ++ [v]) b c (by simpa using h)
    rw [List.length_append] at this
    simp only [List.length_cons, List.length_nil, Nat.zero_add] at this
    rw [this]; simp
 intro l i hi
 have e1 : l.flatMap enc = (l.take i).flatMap enc ++ enc l[i] ++ (l.drop (i + 1)).flatMap enc := by
  have e0 : l = l.take i ++ l[i] :: l.drop (i + 1) := by rw [← List.drop_eq_getElem_cons hi, List.take_append_drop]
  have := congrArg (List.flatMap enc) e0
  rw [List.flatMap_append, List.flatMap_cons] at this
  rw [this, List.append_assoc]
 have e2 : (l.set i y).flatMap enc = (l.take i).flatMap enc ++ enc y ++ (l.drop (i + 1)).flatMap enc := by
  rw [List.set_eq_take_append_cons_drop, if_pos hi]; simp
 have e3 : i * e = ((l.take i).flatMap enc).length := by rw [flat_len he, List.length_take, Nat.min_eq_left (by omega)]
 rw [e1, e2, e3]
 exact key _ _ _ _ (by rw [he, he])
omit [Inhabited α] in
theorem DH_st (hp : p = some ⟨B, 0, none⟩) (hB : B < G.length) (hl : lim ≤ B) (he : ∀ x, (enc x).length = e) (hi : i < d.size) {y : α} : AM.storeAt lim (DH enc G B d ++ X) (elt p e i) (enc y) = some (DH enc G B (d.setIfInBounds i y) ++ X) := by
 subst hp
 have h1 : i * e + e ≤ d.size * e := by
  have := Nat.mul_le_mul_right e (Nat.succ_le_of_lt hi)
  rw [Nat.succ_mul] at this; exact this
 simp only [elt, addrOf, Option.getD_some, addr_add, storeAt_lit, DH_get hB, Nat.zero_add]
 rw [if_pos ⟨hl, by rw [he, flat_len he]; simpa using h1⟩, flat_set he y _ _ (by simpa using hi)]
 congr 1
 rw [List.set_append_left _ _ (by rw [DH_len]; exact hB)]
 simp only [DH, List.set_set]
 congr 3
 simp
omit [Inhabited α] in
theorem DH_idx {n c : Nat} {k : IntKind} {H : Heap} (hp : p = some ⟨B, 0, none⟩) (hi : i < n) : idxK e (.slice p n c) (.int k (i : Int)) H = some (.pointer (some (elt p e i)), H) := by
 subst hp
 exact idxK_nat hi
end
end Go.AM

set_option linter.unusedVariables false
set_option linter.unusedSimpArgs false
set_option linter.defProp false
namespace Go.AM
set_option maxRecDepth 100000
def SB := And.intro @Ret_seq (And.intro @wantK_tt (And.intro @wantK_ff (And.intro @wantK_tf (And.intro @wantK_ft (And.intro @condK_tt (And.intro @condK_ff (And.intro @int_beq (And.intro @int_bne (And.intro @not_dec (And.intro @fillParts_cons (And.intro @fillParts_nil (And.intro @fillK_some (And.intro @fillV_int (And.intro @fillV_bool (And.intro @fillV_agg (And.intro @setAll_nil (And.intro @setAll_cons (And.intro @Ret_cops (And.intro @Ret_exit_code (And.intro @Ret_exit_loop (And.intro @Ret_exit_other (And.intro @Ret_exit_here (And.intro @Ret_skip (And.intro @Ret_block (And.intro @Ret_inBlock (And.intro @Ret_cond (And.intro @Ret_is (And.intro @Ret_in (And.intro @false_and (And.intro @and_false (And.intro @Ret_ops_nil (And.intro @Ret_ret (And.intro @decide_true (And.intro @gK_none (And.intro @gK_some (And.intro @on_mov (And.intro @on_pick (And.intro @on_bin (And.intro @on_eqv (And.intro @on_un (And.intro @on_conv (And.intro @on_alloc (And.intro @on_box (And.intro @on_build (And.intro @on_buildSlice (And.intro @on_load1 (And.intro @on_loadN (And.intro @on_store (And.intro @on_nilCheck (And.intro @on_fieldAddr (And.intro @on_field1 (And.intro @on_fieldN (And.intro @on_idxAddrA (And.intro @on_idxAddrS (And.intro @on_idxA (And.intro @on_idxStr (And.intro @on_sliceS (And.intro @on_sliceStr (And.intro @on_lenStr (And.intro @on_lenSlice (And.intro @on_lenMap (And.intro @on_lenK (And.intro @on_append (And.intro @on_append0 (And.intro @on_minmax (And.intro @on_makeSlice (And.intro @on_makeMap (And.intro @on_lookup (And.intro @on_mapUpdate (And.intro @on_delete (And.intro @on_makeFunc (And.intro @on_extract (And.intro @on_strId (And.intro @on_rowMark (And.intro @ob_mov (And.intro @ob_pick (And.intro @ob_bin (And.intro @ob_eqv (And.intro @ob_un (And.intro @ob_conv (And.intro @ob_alloc (And.intro @ob_box (And.intro @ob_build (And.intro @ob_buildSlice (And.intro @ob_load1 (And.intro @ob_loadN (And.intro @ob_store (And.intro @ob_nilCheck (And.intro @ob_fieldAddr (And.intro @ob_field1 (And.intro @ob_fieldN (And.intro @ob_idxAddrA (And.intro @ob_idxAddrS (And.intro @ob_idxA (And.intro @ob_idxStr (And.intro @ob_sliceS (And.intro @ob_sliceStr (And.intro @ob_lenStr (And.intro @ob_lenSlice (And.intro @ob_lenMap (And.intro @ob_lenK (And.intro @ob_append (And.intro @ob_append0 (And.intro @ob_minmax (And.intro @ob_makeSlice (And.intro @ob_makeMap (And.intro @ob_lookup (And.intro @ob_mapUpdate (And.intro @ob_delete (And.intro @ob_makeFunc (And.intro @ob_extract (And.intro @ob_strId (And.intro @ob_rowMark (And.intro @oK_call (And.intro @oK_callB (And.intro @oK_maps (And.intro @oK_mapsB (And.intro @on_capSlice (And.intro @ob_capSlice (And.intro @on_growNil (And.intro @ob_growNil (And.intro @calK_some (And.intro @pure_any (And.intro @pure_pure (And.intro @pure_mk (And.intro @lim_any (And.intro @lim_pure (And.intro @lim_mk (And.intro @CallT_inl (And.intro @CallT_inr (And.intro @Ret_retM (And.intro @marks_nil (And.intro @marks_code (And.intro @marks_loop (And.intro @marks_block (And.intro @marks_mark (And.intro @shut_nil (And.intro @shut_cons (And.intro @shutK_some (And.intro @Ret_round (And.intro @Ret_begin (And.intro @begK_loop (And.intro @endB_on (And.intro @endB_off (And.intro @Ret_retR_code (And.intro @Ret_retR_loop (And.intro @Ret_retR_block (And.intro @Ret_retR_round (And.intro @Ret_exitR_code (And.intro @Ret_exitR_loop (And.intro @Ret_exitR_other (And.intro @Ret_exitR_here (And.intro @Ret_exitR_round (And.intro @calL_some (And.intro @endK_0 (And.intro @endK_2 (And.intro @pendI_none (And.intro @pendI_some (And.intro @Ret_rangeF (And.intro @List.map_cons.{0,0} (And.intro @List.map_nil.{0,0} (And.intro @Option.map_none.{0,0} (And.intro @mask_nil (And.intro @mask_cons (And.intro @unmask_cons (And.intro @pad_one (And.intro @pad_zero (And.intro @pad_two (And.intro @pad_three (And.intro @Ret_drawn (And.intro @Nat.add_assoc (And.intro @unmask_nil (And.intro @unmask_mask (And.intro @ev_tmp (And.intro @ev_const (And.intro @ev_func (And.intro @upd_same (And.intro @upd_ne (And.intro @not_false_eq_true (And.intro @opK_some (And.intro @Option.map_some.{0,0} (And.intro @List.getD_cons_zero.{0} (And.intro @List.getD_cons_succ.{0} (And.intro @decide_false (And.intro @Bool.false_eq_true (And.intro @not_true_eq_false (And.intro @and_true (And.intro @true_and (And.intro @hget_new (And.intro @hget_new0 (And.intro @hget_old (And.intro @set_new (And.intro @set_new0 (And.intro @List.set_cons_zero.{0} (And.intro @List.set_cons_succ.{0} (And.intro @List.append_assoc.{0} (And.intro @List.cons_append.{0} (And.intro @List.nil_append.{0} (And.intro @storeAt_lit (And.intro @loadCell_lit (And.intro @loadCells_lit (And.intro @idxK_nat (And.intro @List.length_cons.{0} (And.intro @List.length_nil.{0} (And.intro @addr_add (And.intro @List.drop_zero.{0} (And.intro @List.drop_succ_cons.{0} (And.intro @List.take_succ_cons.{0} (And.intro @List.take_zero.{0} (And.intro @Nat.le_refl (And.intro @Nat.le_add_right (And.intro @Nat.zero_add (And.intro @Nat.add_zero (And.intro @result_fin (And.intro @resAll_nil (And.intro @resAll_cons (And.intro @consK_some (And.intro @finK_one (And.intro @finK_more (And.intro @finK_nil (And.intro @cells_agg (And.intro @cells_int (And.intro @cells_bool (And.intro @arr_list (And.intro @arr_size (And.intro @Option.some.injEq.{0} (And.intro @Prod.mk.injEq.{0,0} (And.intro @List.length_append.{0} (And.intro @List.getElem?_cons_zero.{0} (And.intro @List.getElem?_cons_succ.{0} (And.intro @Nat.lt_irrefl (And.intro @and_self (And.intro @int_lt_cast (And.intro @int_le_cast (And.intro @wantK_not (And.intro @condK_not (And.intro @Bool.not_true (And.intro @Bool.not_false (And.intro @Nat.le_add_right_of_le (And.intro @int_zero_lt (And.intro @wantK_undef (And.intro @keyOk_int (And.intro @keyOk_str (And.intro @findKey_nil (And.intro @findKey_int (And.intro @mapEntries_some (And.intro @mapEntries_none (And.intro @Int.cast_ofNat_Int (And.intro @idxK_zero (And.intro @Ret_nil (And.intro @cells_slice (And.intro @cells_ptr (And.intro @cells_str (And.intro @cells_map (And.intro @cells_func (And.intro @arr1 (And.intro @size1 (And.intro @fillV_slice (And.intro @fillV_ptr (And.intro @fillV_str (And.intro @fillV_map (And.intro @nat_not_neg (And.intro @setAll_full (And.intro @Option.isNone_none.{0} (And.intro @Option.isNone_some.{0} (And.intro @Int.toNat_natCast (And.intro @take_all (And.intro @setAll_skip (And.intro @pad_4 (And.intro @pad_5 (And.intro @pad_6 (And.intro @pad_7 (And.intro @pad_8 (And.intro @pad_9 (And.intro @pad_10 (And.intro @pad_11 (And.intro @pad_12 (And.intro @bytesOf_cons (And.intro @bytesOf_nil (And.intro @int_eq_cast (And.intro @on_b2sV (And.intro @ob_b2sV (And.intro @b2sV_some (And.intro @aSliceS_V (And.intro @on_copyV (And.intro @ob_copyV (And.intro @on_sliceAV (And.intro @ob_sliceAV (And.intro @on_appendLV (And.intro @ob_appendLV (And.intro @appendLV_none (@appendLV_some))))))))))))))))))))))))))))))))))))))))))))))))))))))))))))))))))))))))))))))))))))))))))))))))))))))))))))))))))))))))))))))))))))))))))))))))))))))))))))))))))))))))))))))))))))))))))))))))))))))))))))))))))))))))))))))))))))))))))))))))))))))))))))))))))))))))))))))))))))))))))))))))))))
theorem frame0_at {args : List Value} {t : Nat} : frame0 args t = args.getD t undef := id rfl
def FB := And.intro @upd_same (And.intro @upd_ne (And.intro @ne_eq.{1} (And.intro @not_false_eq_true (And.intro @frame0_at (And.intro @List.getD_cons_zero.{0} @List.getD_cons_succ.{0})))))
end Go.AM

set_option linter.unusedVariables false
set_option linter.unusedSimpArgs false
namespace Go.AM
section
variable {G G' K : Heap} {R : Nat} {b : Blk}
structure Mut (G G' : Heap) (R : Nat) : Prop where
 len : G'.length = G.length
 other : ∀ j, j ≠ R → hget G' j = hget G j
theorem Mut.ext {H : Heap} (h : Mut G G' R) (hE : Ext H G) (hR : H.length ≤ R) : Ext H G' := by
 obtain ⟨Y, rfl⟩ := hE
 refine ⟨G'.drop H.length, ?_⟩
 apply List.ext_getElem
 · have := h.len; simp at this ⊢; omega
 intro i h1 h2
 have hl := h.len
 simp at hl
 by_cases hi : i < H.length
 · rw [List.getElem_append_left hi]
  have := h.other i (by omega)
  unfold hget at this
  rw [List.getD_eq_getElem?_getD, List.getD_eq_getElem?_getD, List.getElem?_eq_getElem h1, List.getElem?_eq_getElem (by simp; omega)] at this
  simp only [Option.getD_some] at this
  rw [this, List.getElem_append_left hi]
 · rw [List.getElem_append_right (by omega), List.getElem_drop]
  congr 1
  omega
theorem Mut.cells (h : Mut G G' R) {j : Nat} {ro : Bool} {c : List Value} (hj : hget G j = .cells ro c) (hne : j ≠ R) : hget G' j = .cells ro c := by rw [h.other j hne]; exact hj
theorem Mut.alive (h : Mut G G' R) {j : Nat} {B : Blk} (hj : hget G j = B) (hne : j ≠ R) : hget G' j = B := by rw [h.other j hne]; exact hj
theorem Mut.sl {α : Type} {enc : α → List Value} {e : Nat} {p : Option Addr} {l : List α} (h : Mut G G' R) (hs : Sl G enc e p l) (hp : ∀ a, p = some a → l ≠ [] → a.block ≠ R) : Sl G' enc e p l := by
 cases p with
 | none => exact hs
 | some a =>
  refine ⟨hs.1, fun hn => ?_⟩
  obtain ⟨ro, c, h2, h3⟩ := hs.2 hn
  exact ⟨ro, c, h.cells h2 (hp a rfl hn), h3⟩
theorem len_rules (h : G'.length = G.length) : (G'.length = G.length) ∧ (∀ (X : Heap) (j : Nat), hget (G' ++ X) (G.length + j) = X.getD j .dead) ∧ (∀ X : Heap, hget (G' ++ X) G.length = X.getD 0 .dead) ∧
  (∀ (X : Heap) (j : Nat) b, (G' ++ X).set (G.length + j) b = G' ++ X.set j b) ∧ (∀ (X : Heap) b, (G' ++ X).set G.length b = G' ++ X.set 0 b) := by
 refine ⟨h, fun X j => by rw [← h]; exact hget_new, fun X => by rw [← h]; exact hget_new0, fun X j b => ?_, fun X b => ?_⟩
 · rw [← h, List.set_append_right _ _ (by omega)]; simp
 · rw [← h, List.set_append_right _ _ (by omega)]; simp
theorem mut_set (hR : R < G.length) (b : Blk) : ∃ G', (∀ X : Heap, (G ++ X).set R b = G' ++ X) ∧ hget G' R = b ∧ Mut G G' R :=
 ⟨G.set R b, fun X => List.set_append_left _ _ hR, hget_set_eq hR, by simp, fun j hj => hget_set_ne hj⟩
end
def Own {α : Type} (lim : Nat) (G : Heap) (enc : α → List Value) (e : Nat) (p : Option Addr) (cap : Nat) (l : List α) : Prop :=
 (l = [] ∧ p = none ∧ cap = 0) ∨ ∃ R, p = some ⟨R, 0, none⟩ ∧ cap = loose e ∧ hget G R = .cells false (l.flatMap enc) ∧ lim ≤ R
section
variable {α : Type} {lim e bytes cap : Nat} {G : Heap} {enc : α → List Value} {p : Option Addr} {l m : List α}
theorem Own.nil : Own lim G enc e none 0 [] := .inl ⟨rfl, rfl, rfl⟩
theorem Own.app (h : Own lim G enc e p cap l) (X : Heap) : Own lim (G ++ X) enc e p cap l := by
 rcases h with h | ⟨R, h1, h2, h3, h4⟩
 · exact .inl h
 · exact .inr ⟨R, h1, h2, by rw [hget_old (hget_alive h3)]; exact h3, h4⟩
theorem Own.mut {G' : Heap} {R : Nat} (h : Own lim G enc e p cap l) (hm : Mut G G' R) (hp : ∀ a, p = some a → a.block ≠ R) : Own lim G' enc e p cap l := by
 rcases h with h | ⟨R', h1, h2, h3, h4⟩
 · exact .inl h
 · exact .inr ⟨R', h1, h2, hm.cells h3 (hp _ h1), h4⟩
theorem Own.new {R : Nat} (hR : hget G R = .cells false (l.flatMap enc)) (hl : lim ≤ R) : Own lim G enc e (some ⟨R, 0, none⟩) (loose e) l := .inr ⟨R, rfl, rfl, hR, hl⟩
theorem Own.sl (h : Own lim G enc e p cap l) (he : ∀ x, (enc x).length = e) : Sl G enc e p l := by
 rcases h with ⟨h1, h2, _⟩ | ⟨R, h1, h2, h3, h4⟩
 · subst h1 h2; rfl
 · subst h1; exact Sl.lit he (by rw [h3]; rfl) (by rw [h3]; rfl)
theorem Own.le (h : Own lim G enc e p cap l) {lim' : Nat} (hl : lim' ≤ lim) : Own lim' G enc e p cap l := by
 rcases h with h | ⟨R, h1, h2, h3, h4⟩
 · exact .inl h
 · exact .inr ⟨R, h1, h2, h3, by omega⟩
theorem Own.block (h : Own lim G enc e p cap l) {a : Addr} (ha : p = some a) : lim ≤ a.block ∧ a.block < G.length := by
 rcases h with ⟨h1, h2, h3⟩ | ⟨R, h1, h2, h3, h4⟩
 · rw [h2] at ha; cases ha
 · rw [h1] at ha; cases ha; exact ⟨h4, hget_alive h3⟩
theorem Sl.cells (hs : Sl G enc e p m) (hm : m ≠ []) : ∃ a, p = some a ∧ AM.loadCells G a (m.length * e) = some (m.flatMap enc) := by
 cases p with
 | none => exact absurd hs hm
 | some a =>
  obtain ⟨k1, k2⟩ := hs
  obtain ⟨ro, cs, k3, k4, k5⟩ := k2 hm
  refine ⟨a, rfl, ?_⟩
  obtain ⟨ab, ao, as'⟩ := a
  simp only [loadCells_lit]
  simp only at k3 k4 k5
  simp only [k3]
  rw [if_pos k4, k5]
theorem Own.push {lim' : Nat} (h : Own lim G enc e p cap l) (hll : lim' ≤ lim) (he : ∀ x, (enc x).length = e) (he0 : e ≠ 0) (m : List α) (hm : m ≠ []) (hb : (l.length + m.length) * bytes ≤ maxBytes) (hn : l.length + m.length < 2 ^ 61) :
  ∃ (G' : Heap) (R : Nat), (p = none → R = G.length) ∧ (∀ a, p = some a → R = a.block) ∧ Mut G G' R ∧ (∀ j, j ≠ R → hget G' j = hget G j) ∧ (∀ H0 : Heap, Ext H0 G → H0.length ≤ lim → Ext H0 G') ∧
   (∀ (X : Heap) (px : Option Addr) (k : Nat), Sl (G ++ X) enc e px m → aAppend lim' none e bytes false (.slice p l.length cap) (.slice px m.length k) (G ++ X) = some (.slice (some ⟨G.length + X.length, 0, none⟩) (l.length + m.length) (loose e), G' ++ (X ++ [.cells false ((l ++ m).flatMap enc)]))) := by
 have hm0 : ¬ m.length = 0 := by intro q; exact hm (List.length_eq_zero_iff.1 q)
 rcases h with ⟨h1, h2, h3⟩ | ⟨R, h1, h2, h3, h4⟩
 · subst h1 h2 h3
  refine ⟨G, G.length, fun _ => rfl, fun a h => (by cases h), ⟨rfl, fun j _ => rfl⟩, fun j _ => rfl, fun H0 h _ => h, fun X px k hx => ?_⟩
  obtain ⟨a, rfl, hl⟩ := hx.cells hm
  simp only [List.length_nil, Nat.zero_add] at hb hn
  simp only [aAppend, firstCells, lenOf, hl, hm0, if_false, Bool.false_eq_true, List.length_nil, Nat.zero_add]
  rw [if_neg (by omega)]
  simp [place]
 · subst h1 h2
  have hRl := hget_alive h3
  refine ⟨G.set R .dead, R, fun h => (by cases h), fun a h => (by cases h; rfl), ⟨by simp, fun j hj => hget_set_ne hj⟩, fun j hj => hget_set_ne hj, fun H0 h hl => Mut.ext (R := R) ⟨by simp, fun j hj => hget_set_ne hj⟩ h (by omega), fun X px k hx => ?_⟩
  obtain ⟨a, rfl, hl⟩ := hx.cells hm
  have hR' : hget (G ++ X) R = .cells false (l.flatMap enc) := by rw [hget_old hRl]; exact h3
  have hold : AM.loadCells (G ++ X) ⟨R, 0, none⟩ (l.length * e) = some (l.flatMap enc) := by
   simp only [loadCells_lit, hR', Nat.zero_add, flat_len he, Nat.le_refl, if_true, List.drop_zero]
   rw [List.take_of_length_le (by rw [flat_len he]; exact Nat.le_refl _)]
  simp only [aAppend, firstCells, lenOf, hl, hold, hR', hm0, if_false, Bool.false_eq_true, if_true]
  rw [if_neg (by unfold loose; omega)]
  simp [show lim' ≤ R by omega, place, List.set_append_left _ _ hRl, List.append_assoc]
theorem Own.push1 {lim' : Nat} (h : Own lim G enc e p cap l) (hll : lim' ≤ lim) (he : ∀ x, (enc x).length = e) (he0 : e ≠ 0) (x : α) (hb : (l.length + 1) * bytes ≤ maxBytes) (hn : l.length + 1 < 2 ^ 61) :
  ∃ (G' : Heap) (R : Nat), (p = none → R = G.length) ∧ (∀ a, p = some a → R = a.block) ∧ Mut G G' R ∧ (∀ H0 : Heap, Ext H0 G → H0.length ≤ lim → Ext H0 G') ∧
   (∀ (X : Heap) (b k : Nat), hget (G ++ X) b = .cells false (enc x) → aAppend lim' none e bytes false (.slice p l.length cap) (.slice (some ⟨b, 0, none⟩) 1 k) (G ++ X) = some (.slice (some ⟨G.length + X.length, 0, none⟩) (l.length + 1) (loose e), G' ++ (X ++ [.cells false ((l ++ [x]).flatMap enc)]))) := by
 obtain ⟨G', R, h1, h2, h3, _, h4, h5⟩ := h.push hll he he0 [x] (by simp) (by simpa using hb) (by simpa using hn)
 refine ⟨G', R, h1, h2, h3, h4, fun X b k hx => ?_⟩
 exact h5 X (some ⟨b, 0, none⟩) k (Sl.lit he (by rw [hx]; rfl) (by rw [hx]; simp [cellsOf]))
theorem append_none {lim e bytes n cap c : Nat} {dest : Option Nat} {p px : Option Addr} {H : Heap} (he0 : e ≠ 0) (hp : n = 0 ∨ ∃ a, p = some a) (hb : n * bytes ≤ maxBytes) (hn : n < 2 ^ 62) (hc : n ≤ cap) (hx : px = none ∨ ∃ a, px = some a) : aAppend lim dest e bytes false (.slice p n cap) (.slice px 0 c) H = some (.slice p n cap, H) := by
 rcases hx with rfl | ⟨a, rfl⟩
 · simp only [aAppend, firstCells, lenOf, Bool.false_eq_true, ne_eq, not_true_eq_false, or_self, if_false, Nat.add_zero]
  rw [if_neg (by omega)]; rfl
 · simp only [aAppend, firstCells, lenOf, Bool.false_eq_true, if_false, if_true, Nat.add_zero]
  rw [if_neg (by omega)]
def boundsV (len cap : Nat) (lo hi mx : Option Value) : Option (Nat × Nat × Nat) := bounds (fun o => match o with | .const v => v | _ => undef) len cap (lo.map .const) (hi.map .const) (mx.map .const)
theorem bounds_V {ρ : Operand → Value} {len cap : Nat} {lo hi mx : Option Operand} : bounds ρ len cap lo hi mx = boundsV len cap (lo.map ρ) (hi.map ρ) (mx.map ρ) := by
 unfold boundsV
 cases lo <;> cases hi <;> cases mx <;> rfl
theorem bound_int {n : Int} {m : Nat} {kk : IntKind} (h0 : 0 ≤ n) (h : n ≤ (m : Int)) : bound (.int kk n) m = some n.toNat := by
 simp only [bound]; rw [if_pos ⟨h0, h⟩]
section
variable {len : Nat} {k1 k2 k3 : IntKind} {l h x : Int}
theorem bv_010 (h0 : 0 ≤ h) (h1 : h ≤ (cap : Int)) : boundsV len cap none (some (.int k1 h)) none = some (0, h.toNat, cap) := by
 delta boundsV bounds; simp only [Option.map_some, Option.map_none, bound_int h0 h1]
theorem bv_100 (l0 : 0 ≤ l) (l1 : l ≤ (len : Int)) : boundsV len cap (some (.int k1 l)) none none = some (l.toNat, len, cap) := by
 delta boundsV bounds; simp only [Option.map_some, Option.map_none, bound_int l0 l1]
theorem bv_011 (h0 : 0 ≤ h) (h1 : h ≤ x) (x1 : x ≤ (cap : Int)) : boundsV len cap none (some (.int k1 h)) (some (.int k2 x)) = some (0, h.toNat, x.toNat) := by
 delta boundsV bounds; simp only [Option.map_some, Option.map_none, bound_int (show 0 ≤ x by omega) x1, bound_int (m := x.toNat) h0 (by omega)]
end
end
end Go.AM

namespace Go.Net
set_option maxRecDepth 100000
set_option linter.unusedVariables false
set_option linter.unusedSimpArgs false
structure Leg where
 (id frm dst dep mins cut grams days : Int)
 deriving DecidableEq, Inhabited
def maxTime : Int := 1051898399
def Fine (l : Leg) : Prop := 1 ≤ l.id ∧ l.id ≤ 999999 ∧ 1 ≤ l.frm ∧ l.frm ≤ 999999 ∧ 1 ≤ l.dst ∧ l.dst ≤ 999999 ∧ 0 ≤ l.dep ∧ l.dep ≤ 1439 ∧ 1 ≤ l.mins ∧ l.mins ≤ 20160 ∧ 0 ≤ l.cut ∧ l.cut ≤ 10080 ∧ 0 ≤ l.grams ∧ l.grams ≤ 1000000000 ∧ 1 ≤ l.days ∧ l.days ≤ 127 ∧ l.frm ≠ l.dst
instance (l : Leg) : Decidable (Fine l) := by unfold Fine; infer_instance
def runs (days : Int) (d : Nat) : Bool := days.toNat / 2 ^ (d % 7) % 2 == 1
def goes (l : Leg) (d : Nat) : Bool := runs l.days d && decide (0 ≤ 1440 * (d : Int) + l.dep - l.cut) && decide (1440 * (d : Int) + l.dep + l.mins ≤ maxTime)
def dayN : Nat := 730485
theorem dayN_eq : dayN = 730485 := rfl
attribute [irreducible] dayN
def Dep (l : Leg) (a : Int) : Prop := ∃ d : Nat, d < dayN ∧ goes l d = true ∧ a = 1440 * (d : Int) + l.dep
def nextDay (l : Leg) (r : Int) : Option Nat := (List.range dayN).find? fun (d : Nat) => goes l d && decide (r ≤ 1440 * (d : Int) + l.dep - l.cut)
def nextD (l : Leg) (r : Int) : Option Int := (nextDay l r).map fun (d : Nat) => 1440 * (d : Int) + l.dep
def lastDay (l : Leg) (b : Int) : Option Nat := ((List.range dayN).find? fun (d : Nat) => goes l (dayN - 1 - d) && decide (1440 * ((dayN - 1 - d : Nat) : Int) + l.dep + l.mins ≤ b)).map fun (d : Nat) => dayN - 1 - d
def lastD (l : Leg) (b : Int) : Option Int := (lastDay l b).map fun (d : Nat) => 1440 * (d : Int) + l.dep
theorem find_range {n : Nat} {p : Nat → Bool} {i : Nat} : (List.range n).find? p = some i ↔ p i = true ∧ i < n ∧ ∀ j, j < i → p j = false := by
 rw [List.find?_range_eq_some]; simp
theorem find_range_none {n : Nat} {p : Nat → Bool} : (List.range n).find? p = none ↔ ∀ j, j < n → p j = false := by
 rw [List.find?_range_eq_none]; simp
theorem nextD_some {l : Leg} {r a : Int} (h : nextD l r = some a) : Dep l a ∧ r ≤ a - l.cut ∧ ∀ b, Dep l b → r ≤ b - l.cut → a ≤ b := by
 unfold nextD nextDay at h
 obtain ⟨d, hd, rfl⟩ := Option.map_eq_some_iff.1 h
 obtain ⟨h1, h2, h3⟩ := find_range.1 hd
 simp only [Bool.and_eq_true, decide_eq_true_eq] at h1
 refine ⟨⟨d, h2, h1.1, rfl⟩, h1.2, fun b ⟨e, he, hg, hb⟩ hr => ?_⟩
 subst hb
 by_cases hlt : e < d
 · have := h3 e hlt
  simp only [hg, Bool.true_and, decide_eq_false_iff_not] at this
  omega
 · omega
theorem nextD_none {l : Leg} {r : Int} (h : nextD l r = none) : ∀ b, Dep l b → b - l.cut < r := by
 unfold nextD nextDay at h
 rw [Option.map_eq_none_iff, find_range_none] at h
 intro b ⟨e, he, hg, hb⟩
 have := h e he
 simp only [hg, Bool.true_and, decide_eq_false_iff_not] at this
 omega
theorem lastD_some {l : Leg} {b a : Int} (h : lastD l b = some a) : Dep l a ∧ a + l.mins ≤ b ∧ ∀ c, Dep l c → c + l.mins ≤ b → c ≤ a := by
 unfold lastD lastDay at h
 obtain ⟨d, hd, rfl⟩ := Option.map_eq_some_iff.1 h
 obtain ⟨d', hd', rfl⟩ := Option.map_eq_some_iff.1 hd
 obtain ⟨h1, h2, h3⟩ := find_range.1 hd'
 simp only [Bool.and_eq_true, decide_eq_true_eq] at h1
 refine ⟨⟨dayN - 1 - d', by omega, h1.1, rfl⟩, h1.2, fun c ⟨e, he, hg, hc⟩ hr => ?_⟩
 subst hc
 by_cases hlt : dayN - 1 - d' < e
 · have := h3 (dayN - 1 - e) (by omega)
  rw [show dayN - 1 - (dayN - 1 - e) = e by omega] at this
  simp only [hg, Bool.true_and, decide_eq_false_iff_not] at this
  omega
 · omega
theorem lastD_none {l : Leg} {b : Int} (h : lastD l b = none) : ∀ c, Dep l c → b < c + l.mins := by
 unfold lastD lastDay at h
 rw [Option.map_eq_none_iff, Option.map_eq_none_iff, find_range_none] at h
 intro c ⟨e, he, hg, hc⟩
 have := h (dayN - 1 - e) (by omega)
 rw [show dayN - 1 - (dayN - 1 - e) = e by omega] at this
 simp only [hg, Bool.true_and, decide_eq_false_iff_not] at this
 omega
inductive Way (L : List Leg) : Nat → Int → Int → Int → Int → Prop where
 | nil (p t : Int) : Way L 0 p t p t
 | snoc {k : Nat} {p t m s a : Int} {l : Leg} : Way L k p t m s → l ∈ L → l.frm = m → Dep l a → s ≤ a - l.cut → Way L (k + 1) p t l.dst (a + l.mins)
theorem Way.later {L : List Leg} {k : Nat} {p t q u : Int} (h : Way L k p t q u) (hL : ∀ l ∈ L, Fine l) : t ≤ u := by
 induction h with
 | nil => omega
 | snoc h hl hf hd hs ih => have := hL _ hl; unfold Fine at this; omega
theorem Way.early {L : List Leg} {k : Nat} {p t t' q u : Int} (h : Way L k p t q u) (ht : t' ≤ t) : (k = 0 ∧ p = q ∧ u = t) ∨ Way L k p t' q u := by
 induction h with
 | nil => exact .inl ⟨rfl, rfl, rfl⟩
 | snoc h hl hf hd hs ih =>
  rcases ih ht with ⟨rfl, rfl, rfl⟩ | ih
  · exact .inr (.snoc (.nil _ _) hl hf hd (by omega))
  · exact .inr (.snoc ih hl hf hd hs)
theorem Way.mono {L M : List Leg} {k : Nat} {p t q u : Int} (h : Way L k p t q u) (hs : ∀ l ∈ L, l ∈ M) : Way M k p t q u := by
 induction h with
 | nil => exact .nil _ _
 | snoc h hl hf hd hr ih => exact .snoc ih (hs _ hl) hf hd hr
theorem Way.trans {L : List Leg} {k j : Nat} {p t m s q u : Int} (h : Way L k p t m s) (h2 : Way L j m s q u) : Way L (k + j) p t q u := by
 induction h2 with
 | nil => exact h
 | snoc h2 hl hf hd hr ih => exact .snoc (ih h) hl hf hd hr
theorem Way.cons {L : List Leg} {k : Nat} {p t a q u : Int} {l : Leg} (hl : l ∈ L) (hf : l.frm = p) (hd : Dep l a) (hr : t ≤ a - l.cut) (h : Way L k l.dst (a + l.mins) q u) : Way L (k + 1) p t q u := by
 have := (Way.snoc (.nil p t) hl hf hd hr).trans h
 rwa [Nat.zero_add, Nat.add_comm] at this
theorem Way.head {L : List Leg} {k : Nat} {p t q u : Int} (h : Way L (k + 1) p t q u) : ∃ l ∈ L, ∃ a, l.frm = p ∧ Dep l a ∧ t ≤ a - l.cut ∧ Way L k l.dst (a + l.mins) q u := by
 generalize hk : k + 1 = n at h
 induction h generalizing k with
 | nil => omega
 | @snoc j p t m s a l h hl hf hd hr ih =>
  cases j with
  | zero =>
   cases h
   obtain rfl : k = 0 := by omega
   exact ⟨l, hl, a, hf, hd, hr, .nil _ _⟩
  | succ i =>
   obtain ⟨l', hl', a', h1, h2, h3, h4⟩ := ih rfl
   obtain rfl : k = i + 1 := by omega
   exact ⟨l', hl', a', h1, h2, h3, .snoc h4 hl hf hd hr⟩
end Go.Net

namespace Go.Net
set_option maxRecDepth 100000
set_option linter.unusedVariables false
set_option linter.unusedSimpArgs false
def IsMin (S : Int → Prop) (v : Int) : Prop := (v = -1 ∧ ∀ u, ¬ S u) ∨ (S v ∧ ∀ u, S u → v ≤ u)
theorem IsMin.uniq {S : Int → Prop} {v w : Int} (h : IsMin S v) (h' : IsMin S w) : v = w := by
 rcases h with ⟨h1, h2⟩ | ⟨h1, h2⟩ <;> rcases h' with ⟨g1, g2⟩ | ⟨g1, g2⟩
 · omega
 · exact absurd g1 (h2 _)
 · exact absurd h1 (g2 _)
 · have := h2 _ g1; have := g2 _ h1; omega
theorem IsMin.congr {S T : Int → Prop} {v : Int} (h : IsMin S v) (e : ∀ u, S u ↔ T u) : IsMin T v := by
 rcases h with ⟨h1, h2⟩ | ⟨h1, h2⟩
 · exact .inl ⟨h1, fun u hu => h2 u ((e u).2 hu)⟩
 · exact .inr ⟨(e v).1 h1, fun u hu => h2 u ((e u).2 hu)⟩
theorem IsMin.mem {S : Int → Prop} {v : Int} (h : IsMin S v) (hv : 0 ≤ v) : S v := by
 rcases h with ⟨h1, h2⟩ | ⟨h1, h2⟩
 · omega
 · exact h1
theorem IsMin.none {S : Int → Prop} {v : Int} (h : IsMin S v) (h0 : ∀ u, S u → 0 ≤ u) (hv : v < 0) : ∀ u, ¬ S u := by
 rcases h with ⟨h1, h2⟩ | ⟨h1, h2⟩
 · exact h2
 · have := h0 _ h1; omega
theorem IsMin.le {S : Int → Prop} {v u : Int} (h : IsMin S v) (hu : S u) : v ≤ u := by
 rcases h with ⟨h1, h2⟩ | ⟨h1, h2⟩
 · exact absurd hu (h2 _)
 · exact h2 _ hu
theorem IsMin.one {S : Int → Prop} {v x : Int} (h : IsMin S v) (h0 : ∀ u, S u → 0 ≤ u) (hx : 0 ≤ x) : IsMin (fun u => S u ∨ u = x) (if v < 0 ∨ x < v then x else v) := by
 by_cases hc : v < 0 ∨ x < v
 · rw [if_pos hc]
  refine .inr ⟨.inr rfl, fun u hu => ?_⟩
  rcases hu with hu | hu
  · rcases hc with hc | hc
   · exact absurd hu (h.none h0 hc u)
   · have := h.le hu; omega
  · omega
 · rw [if_neg hc]
  have := h.mem (by omega)
  refine .inr ⟨.inl this, fun u hu => ?_⟩
  rcases hu with hu | hu
  · exact h.le hu
  · omega
def useA (pos : Int → Nat) (lim : Int) (bef aft : List Int) (l : Leg) : List Int :=
 if bef.getD (pos l.frm) (-1) < 0 then aft else
 match nextD l (bef.getD (pos l.frm) (-1)) with
 | some a => if a + l.mins ≤ lim ∧ (aft.getD (pos l.dst) (-1) < 0 ∨ a + l.mins < aft.getD (pos l.dst) (-1)) then aft.set (pos l.dst) (a + l.mins) else aft
 | none => aft
def stepA (pos : Int → Nat) (lim : Int) (L : List Leg) (bef : List Int) : List Int := L.foldl (useA pos lim bef) bef
theorem useA_len {pos : Int → Nat} {lim : Int} {bef aft : List Int} {l : Leg} : (useA pos lim bef aft l).length = aft.length := by
 unfold useA
 split
 · rfl
 · split
  · split
   · simp
   · rfl
  · rfl
theorem foldA_len {pos : Int → Nat} {lim : Int} {bef : List Int} : ∀ {L : List Leg} {aft : List Int}, (L.foldl (useA pos lim bef) aft).length = aft.length
 | [], _ => rfl
 | l :: L, aft => by rw [List.foldl_cons, foldA_len, useA_len]
theorem stepA_len {pos : Int → Nat} {lim : Int} {L : List Leg} {bef : List Int} : (stepA pos lim L bef).length = bef.length := foldA_len
def Brings (pos : Int → Nat) (lim : Int) (bef : List Int) (l : Leg) (q : Nat) (u : Int) : Prop :=
 pos l.dst = q ∧ 0 ≤ bef.getD (pos l.frm) (-1) ∧ ∃ a, nextD l (bef.getD (pos l.frm) (-1)) = some a ∧ u = a + l.mins ∧ u ≤ lim
theorem Dep.nonneg {l : Leg} {a : Int} (h : Dep l a) (hl : Fine l) : 0 ≤ a := by
 obtain ⟨d, _, _, rfl⟩ := h
 unfold Fine at hl; omega
theorem Brings.nonneg {pos : Int → Nat} {lim : Int} {bef : List Int} {l : Leg} {q : Nat} {u : Int} (h : Brings pos lim bef l q u) (hl : Fine l) : 0 ≤ u := by
 obtain ⟨_, _, a, h1, h2, _⟩ := h
 have := (nextD_some h1).1.nonneg hl
 unfold Fine at hl; omega
theorem getD_set {L : List Int} {i j : Nat} {x d : Int} (hi : i < L.length) : (L.set i x).getD j d = if i = j then x else L.getD j d := by
 rw [List.getD_eq_getElem?_getD, List.getElem?_set]
 by_cases h : i = j
 · simp [h, show j < L.length by omega]
 · simp [h, List.getD_eq_getElem?_getD]
theorem useA_min {pos : Int → Nat} {lim : Int} {bef aft : List Int} {l : Leg} {q : Nat} {S : Int → Prop} (hl : Fine l) (hp : pos l.dst < aft.length) (h0 : ∀ u, S u → 0 ≤ u) (h : IsMin S (aft.getD q (-1))) :
  IsMin (fun u => S u ∨ Brings pos lim bef l q u) ((useA pos lim bef aft l).getD q (-1)) := by
 unfold useA
 by_cases hs : bef.getD (pos l.frm) (-1) < 0
 · rw [if_pos hs]
  exact h.congr fun u => ⟨.inl, fun hu => hu.elim id fun hb => absurd hb.2.1 (by omega)⟩
 rw [if_neg hs]
 cases hn : nextD l (bef.getD (pos l.frm) (-1)) with
 | none =>
  simp only []
  exact h.congr fun u => ⟨.inl, fun hu => hu.elim id fun ⟨_, _, a, ha, _⟩ => by rw [hn] at ha; cases ha⟩
 | some a =>
  simp only []
  have ha0 : 0 ≤ a + l.mins := by have := (nextD_some hn).1.nonneg hl; unfold Fine at hl; omega
  by_cases hlim : a + l.mins ≤ lim
  · by_cases hq : pos l.dst = q
   · have e : ((if a + l.mins ≤ lim ∧ (aft.getD (pos l.dst) (-1) < 0 ∨ a + l.mins < aft.getD (pos l.dst) (-1)) then aft.set (pos l.dst) (a + l.mins) else aft).getD q (-1)) = if aft.getD q (-1) < 0 ∨ a + l.mins < aft.getD q (-1) then a + l.mins else aft.getD q (-1) := by
     subst hq
     by_cases hc : aft.getD (pos l.dst) (-1) < 0 ∨ a + l.mins < aft.getD (pos l.dst) (-1)
     · rw [if_pos ⟨hlim, hc⟩, if_pos hc, getD_set hp, if_pos rfl]
     · rw [if_neg (fun h => hc h.2), if_neg hc]
    rw [e]
    refine (h.one h0 ha0).congr fun u => ⟨fun hu => hu.elim .inl fun hu => .inr ⟨hq, by omega, a, hn, hu, by omega⟩, fun hu => hu.elim .inl fun ⟨_, _, b, hb, hu, _⟩ => ?_⟩
    rw [hn] at hb; cases hb; exact .inr hu
   · have e : ((if a + l.mins ≤ lim ∧ (aft.getD (pos l.dst) (-1) < 0 ∨ a + l.mins < aft.getD (pos l.dst) (-1)) then aft.set (pos l.dst) (a + l.mins) else aft).getD q (-1)) = aft.getD q (-1) := by
     split
     · rw [getD_set hp, if_neg hq]
     · rfl
    rw [e]
    exact h.congr fun u => ⟨.inl, fun hu => hu.elim id fun hb => absurd hb.1 hq⟩
  · rw [if_neg (fun h => hlim h.1)]
   refine h.congr fun u => ⟨.inl, fun hu => hu.elim id fun ⟨_, _, b, hb, hu, hl⟩ => ?_⟩
   rw [hn] at hb; cases hb; omega
theorem foldA_min {pos : Int → Nat} {lim : Int} {bef : List Int} {q : Nat} : ∀ {L : List Leg} {aft : List Int} {S : Int → Prop}, (∀ l ∈ L, Fine l ∧ pos l.dst < aft.length) → (∀ u, S u → 0 ≤ u) → IsMin S (aft.getD q (-1)) →
  IsMin (fun u => S u ∨ ∃ l ∈ L, Brings pos lim bef l q u) ((L.foldl (useA pos lim bef) aft).getD q (-1))
 | [], aft, S, hL, h0, h => h.congr fun u => ⟨.inl, fun hu => hu.elim id fun ⟨l, hl, _⟩ => by cases hl⟩
 | l :: L, aft, S, hL, h0, h => by
  obtain ⟨h1, h2⟩ := hL l (List.mem_cons_self ..)
  rw [List.foldl_cons]
  refine (foldA_min (L := L) (fun x hx => ?_) (fun u hu => ?_) (useA_min (lim := lim) (bef := bef) h1 h2 h0 h)).congr fun u => ?_
  · rw [useA_len]; exact hL x (List.mem_cons_of_mem _ hx)
  · rcases hu with hu | hu
   · exact h0 u hu
   · exact hu.nonneg h1
  · constructor
   · rintro ((h | h) | ⟨x, hx, h⟩)
    · exact .inl h
    · exact .inr ⟨l, List.mem_cons_self .., h⟩
    · exact .inr ⟨x, List.mem_cons_of_mem _ hx, h⟩
   · rintro (h | ⟨x, hx, h⟩)
    · exact .inl (.inl h)
    · rcases List.mem_cons.1 hx with rfl | hx
     · exact .inl (.inr h)
     · exact .inr ⟨x, hx, h⟩
end Go.Net

namespace Go.Net
set_option maxRecDepth 100000
set_option linter.unusedVariables false
set_option linter.unusedSimpArgs false
theorem IsMin.dom {S T : Int → Prop} {v : Int} (h : IsMin S v) (h1 : ∀ u, S u → T u) (h2 : ∀ u, T u → ∃ w, w ≤ u ∧ S w) : IsMin T v := by
 rcases h with ⟨g1, g2⟩ | ⟨g1, g2⟩
 · exact .inl ⟨g1, fun u hu => by obtain ⟨w, _, hw⟩ := h2 u hu; exact g2 w hw⟩
 · exact .inr ⟨h1 _ g1, fun u hu => by obtain ⟨w, hle, hw⟩ := h2 u hu; have := g2 w hw; omega⟩
structure NetOk (N : Nat) (P : List Int) (L : List Leg) (pos : Int → Nat) : Prop where
 fine : ∀ l ∈ L, Fine l
 frm : ∀ l ∈ L, l.frm ∈ P
 dst : ∀ l ∈ L, l.dst ∈ P
 inj : ∀ a ∈ P, ∀ b ∈ P, pos a = pos b → a = b
 lt : ∀ a ∈ P, pos a < N
def oneT (N i : Nat) (t : Int) : List Int := (List.replicate N (-1)).set i t
theorem oneT_len {N i : Nat} {t : Int} : (oneT N i t).length = N := by simp [oneT]
theorem oneT_get {N i j : Nat} {t : Int} (hi : i < N) : (oneT N i t).getD j (-1) = if i = j then t else -1 := by
 unfold oneT
 rw [getD_set (by simpa using hi)]
 split
 · rfl
 · rw [List.getD_eq_getElem?_getD, List.getElem?_replicate]; split <;> rfl
def arrK (N : Nat) (pos : Int → Nat) (lim : Int) (L : List Leg) (p ready : Int) : Nat → List Int
 | 0 => oneT N (pos p) ready
 | k + 1 => stepA pos lim L (arrK N pos lim L p ready k)
theorem arrK_len {N : Nat} {pos : Int → Nat} {lim : Int} {L : List Leg} {p ready : Int} : ∀ {k : Nat}, (arrK N pos lim L p ready k).length = N
 | 0 => oneT_len
 | k + 1 => by rw [arrK, stepA_len, arrK_len]
theorem arrK_min {N : Nat} {P : List Int} {L : List Leg} {pos : Int → Nat} {lim p ready : Int} (hn : NetOk N P L pos) (hp : p ∈ P) (hr : 0 ≤ ready) (hlim : ready ≤ lim) : ∀ (k : Nat) (q : Int), q ∈ P →
  IsMin (fun u => (∃ j, j ≤ k ∧ Way L j p ready q u) ∧ u ≤ lim) ((arrK N pos lim L p ready k).getD (pos q) (-1))
 | 0, q, hq => by
  rw [arrK, oneT_get (hn.lt p hp)]
  by_cases h : pos p = pos q
  · rw [if_pos h]
   have := hn.inj p hp q hq h
   subst this
   refine .inr ⟨⟨⟨0, Nat.le_refl _, .nil _ _⟩, hlim⟩, fun u ⟨⟨j, hj, hw⟩, _⟩ => hw.later hn.fine⟩
  · rw [if_neg h]
   refine .inl ⟨rfl, fun u ⟨⟨j, hj, hw⟩, _⟩ => ?_⟩
   obtain rfl : j = 0 := by omega
   cases hw
   exact h rfl
 | k + 1, q, hq => by
  have ih := arrK_min hn hp hr hlim k
  have h0 : ∀ q u, ((∃ j, j ≤ k ∧ Way L j p ready q u) ∧ u ≤ lim) → 0 ≤ u := fun q u ⟨⟨j, _, hw⟩, _⟩ => by have := hw.later hn.fine; omega
  rw [arrK, stepA]
  refine (foldA_min (L := L) (fun l hl => ⟨hn.fine l hl, by rw [arrK_len]; exact hn.lt _ (hn.dst l hl)⟩) (h0 q) (ih q hq)).dom (fun u hu => ?_) (fun u hu => ?_)
  · rcases hu with ⟨⟨j, hj, hw⟩, hl⟩ | ⟨l, hl, hd, hs, a, ha, rfl, hlim'⟩
   · exact ⟨⟨j, by omega, hw⟩, hl⟩
   · obtain ⟨⟨j, hj, hw⟩, hsl⟩ := (ih l.frm (hn.frm l hl)).mem hs
    obtain ⟨g1, g2, g3⟩ := nextD_some ha
    have := hn.inj _ (hn.dst l hl) q hq hd
    subst this
    exact ⟨⟨j + 1, by omega, .snoc hw hl rfl g1 g2⟩, hlim'⟩
  · obtain ⟨⟨j, hj, hw⟩, hul⟩ := hu
   by_cases hjk : j ≤ k
   · exact ⟨u, Int.le_refl _, .inl ⟨⟨j, hjk, hw⟩, hul⟩⟩
   · cases hw with
    | nil => exact absurd (Nat.zero_le _) hjk
    | @snoc j' p t m s a l hw hl hf hd hs =>
     subst hf
     have hfl := hn.fine l hl
     have hsl : s ≤ lim := by unfold Fine at hfl; omega
     have hS : (∃ j, j ≤ k ∧ Way L j p ready l.frm s) ∧ s ≤ lim := ⟨⟨j', by omega, hw⟩, hsl⟩
     have hle := (ih l.frm (hn.frm l hl)).le hS
     have hpos : 0 ≤ (arrK N pos lim L p ready k).getD (pos l.frm) (-1) := by
      apply Decidable.byContradiction; intro hc
      exact (ih l.frm (hn.frm l hl)).none (h0 _) (by omega) s hS
     cases hnx : nextD l ((arrK N pos lim L p ready k).getD (pos l.frm) (-1)) with
     | none => have := nextD_none hnx a hd; omega
     | some b =>
      obtain ⟨g1, g2, g3⟩ := nextD_some hnx
      have := g3 a hd (by omega)
      exact ⟨b + l.mins, by omega, .inr ⟨l, hl, rfl, hpos, b, hnx, rfl, by omega⟩⟩
theorem arrK_fix {N : Nat} {pos : Int → Nat} {lim : Int} {L : List Leg} {p ready : Int} {k : Nat} (h : arrK N pos lim L p ready (k + 1) = arrK N pos lim L p ready k) : ∀ j, arrK N pos lim L p ready (k + j) = arrK N pos lim L p ready k
 | 0 => rfl
 | j + 1 => by rw [← Nat.add_assoc, arrK, arrK_fix h j]; exact h
theorem arrK_all {N : Nat} {P : List Int} {L : List Leg} {pos : Int → Nat} {lim p ready : Int} (hn : NetOk N P L pos) (hp : p ∈ P) (hr : 0 ≤ ready) (hlim : ready ≤ lim) {k : Nat} (h : arrK N pos lim L p ready (k + 1) = arrK N pos lim L p ready k) (q : Int) (hq : q ∈ P) :
  IsMin (fun u => (∃ j, Way L j p ready q u) ∧ u ≤ lim) ((arrK N pos lim L p ready k).getD (pos q) (-1)) := by
 refine (arrK_min hn hp hr hlim k q hq).dom (fun u ⟨⟨j, _, hw⟩, hl⟩ => ⟨⟨j, hw⟩, hl⟩) (fun u ⟨⟨j, hw⟩, hl⟩ => ?_)
 have hm := arrK_min hn hp hr hlim (k + j) q hq
 rw [arrK_fix h] at hm
 have hle := hm.le ⟨⟨j, by omega, hw⟩, hl⟩
 have hk := arrK_min hn hp hr hlim k q hq
 have h0 : ∀ u, ((∃ j', j' ≤ k + j ∧ Way L j' p ready q u) ∧ u ≤ lim) → 0 ≤ u := fun u ⟨⟨j, _, hw⟩, _⟩ => by have := hw.later hn.fine; omega
 have hpos : 0 ≤ (arrK N pos lim L p ready k).getD (pos q) (-1) := by
  apply Decidable.byContradiction; intro hc
  exact hm.none h0 (by omega) u ⟨⟨j, by omega, hw⟩, hl⟩
 exact ⟨_, hle, hk.mem hpos⟩
end Go.Net

namespace Go.Net
set_option maxRecDepth 100000
set_option linter.unusedVariables false
set_option linter.unusedSimpArgs false
def farA (ready lim t : Int) : Nat := if t < 0 then (lim - ready).toNat + 1 else (t - ready).toNat
def muA (ready lim : Int) (T : List Int) : Nat := (T.map (farA ready lim)).sum
def Within (ready lim : Int) (T : List Int) : Prop := ∀ t ∈ T, t = -1 ∨ ready ≤ t ∧ t ≤ lim
theorem muA_le {ready lim : Int} : ∀ {T : List Int}, Within ready lim T → muA ready lim T ≤ T.length * ((lim - ready).toNat + 1)
 | [], _ => by simp [muA]
 | t :: T, h => by
  have ih := muA_le (T := T) fun x hx => h x (List.mem_cons_of_mem _ hx)
  have h1 := h t (List.mem_cons_self ..)
  unfold muA at ih ⊢
  simp only [List.map_cons, List.sum_cons, List.length_cons, Nat.succ_mul]
  have : farA ready lim t ≤ (lim - ready).toNat + 1 := by unfold farA; split <;> omega
  omega
theorem mu_set {f : Int → Nat} : ∀ {T : List Int} {i : Nat} {x : Int} (hi : i < T.length), ((T.set i x).map f).sum + f (T.getD i (-1)) = (T.map f).sum + f x
 | t :: T, 0, x, _ => by simp; omega
 | t :: T, i + 1, x, hi => by
  have := mu_set (f := f) (T := T) (i := i) (x := x) (by simpa using hi)
  simp only [List.set_cons_succ, List.map_cons, List.sum_cons, List.getD_cons_succ]
  omega
theorem useA_mu {pos : Int → Nat} {ready lim : Int} {bef aft : List Int} {l : Leg} (hb : Within ready lim bef) (ha : Within ready lim aft) (hl : Fine l) (hd : pos l.dst < aft.length) (hr : 0 ≤ ready) :
  Within ready lim (useA pos lim bef aft l) ∧ (useA pos lim bef aft l = aft ∨ muA ready lim (useA pos lim bef aft l) < muA ready lim aft) := by
 unfold useA
 by_cases hs : bef.getD (pos l.frm) (-1) < 0
 · rw [if_pos hs]; exact ⟨ha, .inl rfl⟩
 rw [if_neg hs]
 cases hn : nextD l (bef.getD (pos l.frm) (-1)) with
 | none => exact ⟨ha, .inl rfl⟩
 | some a =>
  simp only []
  split
  case isFalse => exact ⟨ha, .inl rfl⟩
  rename_i hc
  obtain ⟨g1, g2, g3⟩ := nextD_some hn
  have hbr : ready ≤ bef.getD (pos l.frm) (-1) := by
   by_cases h : pos l.frm < bef.length
   · have e : bef.getD (pos l.frm) (-1) = bef[pos l.frm] := by rw [List.getD_eq_getElem?_getD, List.getElem?_eq_getElem h]; rfl
    have := hb _ (List.getElem_mem h)
    rw [e] at hs ⊢; omega
   · rw [List.getD_eq_getElem?_getD, List.getElem?_eq_none (by omega)] at hs; exact absurd (by decide) hs
  have hfl := hl
  unfold Fine at hfl
  have hin : ready ≤ a + l.mins ∧ a + l.mins ≤ lim := ⟨by omega, hc.1⟩
  have hold : aft.getD (pos l.dst) (-1) = -1 ∨ ready ≤ aft.getD (pos l.dst) (-1) ∧ aft.getD (pos l.dst) (-1) ≤ lim := by
   have e : aft.getD (pos l.dst) (-1) = aft[pos l.dst] := by rw [List.getD_eq_getElem?_getD, List.getElem?_eq_getElem hd]; rfl
   rw [e]; exact ha _ (List.getElem_mem hd)
  refine ⟨fun t ht => ?_, .inr ?_⟩
  · rcases List.mem_or_eq_of_mem_set ht with h | h
   · exact ha t h
   · exact .inr (by omega)
  · have := mu_set (f := farA ready lim) (x := a + l.mins) hd
   unfold muA
   have e1 : farA ready lim (a + l.mins) < farA ready lim (aft.getD (pos l.dst) (-1)) := by
    unfold farA
    rw [if_neg (by omega)]
    split <;> omega
   omega
theorem foldA_mu {pos : Int → Nat} {ready lim : Int} {bef : List Int} (hb : Within ready lim bef) (hr : 0 ≤ ready) : ∀ {L : List Leg} {aft : List Int}, (∀ l ∈ L, Fine l ∧ pos l.dst < aft.length) → Within ready lim aft →
  Within ready lim (L.foldl (useA pos lim bef) aft) ∧ (L.foldl (useA pos lim bef) aft = aft ∨ muA ready lim (L.foldl (useA pos lim bef) aft) < muA ready lim aft)
 | [], aft, hL, ha => ⟨ha, .inl rfl⟩
 | l :: L, aft, hL, ha => by
  obtain ⟨h1, h2⟩ := hL l (List.mem_cons_self ..)
  obtain ⟨g1, g2⟩ := useA_mu (l := l) hb ha h1 h2 hr
  obtain ⟨k1, k2⟩ := foldA_mu hb hr (L := L) (aft := useA pos lim bef aft l) (fun x hx => by rw [useA_len]; exact hL x (List.mem_cons_of_mem _ hx)) g1
  rw [List.foldl_cons]
  refine ⟨k1, ?_⟩
  rcases k2 with k2 | k2
  · rw [k2]; exact g2
  · rcases g2 with g2 | g2
   · rw [g2] at k2 ⊢; exact .inr k2
   · exact .inr (by omega)
theorem stepA_mu {pos : Int → Nat} {ready lim : Int} {bef : List Int} {L : List Leg} (hb : Within ready lim bef) (hr : 0 ≤ ready) (hL : ∀ l ∈ L, Fine l ∧ pos l.dst < bef.length) :
  Within ready lim (stepA pos lim L bef) ∧ (stepA pos lim L bef = bef ∨ muA ready lim (stepA pos lim L bef) < muA ready lim bef) := foldA_mu hb hr hL hb
end Go.Net

namespace Go.Net
set_option maxRecDepth 100000
set_option linter.unusedVariables false
set_option linter.unusedSimpArgs false
def IsArr (L : List Leg) (p ready q v : Int) : Prop := IsMin (fun u => (∃ j, Way L j p ready q u) ∧ u ≤ ready + 86400) v
theorem IsArr.start {L : List Leg} {p ready v : Int} (h : IsArr L p ready p v) (hL : ∀ l ∈ L, Fine l) : v = ready :=
 IsMin.uniq h (.inr ⟨⟨⟨0, .nil _ _⟩, by omega⟩, fun u ⟨⟨j, hw⟩, _⟩ => hw.later hL⟩)
theorem IsArr.ge {L : List Leg} {p ready q v : Int} (h : IsArr L p ready q v) (hL : ∀ l ∈ L, Fine l) (hv : 0 ≤ v) : ready ≤ v ∧ v ≤ ready + 86400 := by
 obtain ⟨⟨j, hw⟩, hl⟩ := h.mem hv
 exact ⟨hw.later hL, hl⟩
theorem IsArr.later {L : List Leg} {p a b q x y : Int} (hx : IsArr L p a q x) (hy : IsArr L p b q y) (hab : a ≤ b) (hy0 : 0 ≤ y) : x ≤ y := by
 obtain ⟨⟨j, hw⟩, hl⟩ := hy.mem hy0
 by_cases hlim : y ≤ a + 86400
 · rcases hw.early hab with ⟨rfl, rfl, rfl⟩ | hw'
  · have := hx.le (u := a) ⟨⟨0, .nil _ _⟩, by omega⟩; omega
  · exact hx.le ⟨⟨j, hw'⟩, hlim⟩
 · rcases hx with ⟨h1, _⟩ | ⟨⟨_, h1⟩, _⟩ <;> omega
theorem IsArr.same {L M : List Leg} {p t q x y : Int} (hx : IsArr L p t q x) (hy : IsArr M p t q y) (hs : ∀ l, l ∈ M ↔ l ∈ L) : x = y :=
 hx.uniq (hy.congr fun u => ⟨fun ⟨⟨j, hw⟩, hl⟩ => ⟨⟨j, hw.mono fun l h => (hs l).1 h⟩, hl⟩, fun ⟨⟨j, hw⟩, hl⟩ => ⟨⟨j, hw.mono fun l h => (hs l).2 h⟩, hl⟩⟩)
end Go.Net

namespace Go.Net
set_option maxRecDepth 100000
set_option linter.unusedVariables false
set_option linter.unusedSimpArgs false
def IsMax (S : Int → Prop) (v : Int) : Prop := (v = -1 ∧ ∀ u, ¬ S u) ∨ (S v ∧ ∀ u, S u → u ≤ v)
theorem IsMax.uniq {S : Int → Prop} {v w : Int} (h : IsMax S v) (h' : IsMax S w) : v = w := by
 rcases h with ⟨h1, h2⟩ | ⟨h1, h2⟩ <;> rcases h' with ⟨g1, g2⟩ | ⟨g1, g2⟩
 · omega
 · exact absurd g1 (h2 _)
 · exact absurd h1 (g2 _)
 · have := h2 _ g1; have := g2 _ h1; omega
theorem IsMax.congr {S T : Int → Prop} {v : Int} (h : IsMax S v) (e : ∀ u, S u ↔ T u) : IsMax T v := by
 rcases h with ⟨h1, h2⟩ | ⟨h1, h2⟩
 · exact .inl ⟨h1, fun u hu => h2 u ((e u).2 hu)⟩
 · exact .inr ⟨(e v).1 h1, fun u hu => h2 u ((e u).2 hu)⟩
theorem IsMax.mem {S : Int → Prop} {v : Int} (h : IsMax S v) (hv : 0 ≤ v) : S v := by
 rcases h with ⟨h1, h2⟩ | ⟨h1, h2⟩
 · omega
 · exact h1
theorem IsMax.none {S : Int → Prop} {v : Int} (h : IsMax S v) (h0 : ∀ u, S u → 0 ≤ u) (hv : v < 0) : ∀ u, ¬ S u := by
 rcases h with ⟨h1, h2⟩ | ⟨h1, h2⟩
 · exact h2
 · have := h0 _ h1; omega
theorem IsMax.ge {S : Int → Prop} {v u : Int} (h : IsMax S v) (hu : S u) : u ≤ v := by
 rcases h with ⟨h1, h2⟩ | ⟨h1, h2⟩
 · exact absurd hu (h2 _)
 · exact h2 _ hu
theorem IsMax.one {S : Int → Prop} {v x : Int} (h : IsMax S v) (h0 : ∀ u, S u → 0 ≤ u) (hx : 0 ≤ x) : IsMax (fun u => S u ∨ u = x) (if v < x then x else v) := by
 by_cases hc : v < x
 · rw [if_pos hc]
  refine .inr ⟨.inr rfl, fun u hu => ?_⟩
  rcases hu with hu | hu
  · have := h.ge hu; omega
  · omega
 · rw [if_neg hc]
  have := h.mem (by omega)
  refine .inr ⟨.inl this, fun u hu => ?_⟩
  rcases hu with hu | hu
  · exact h.ge hu
  · omega
theorem IsMax.dom {S T : Int → Prop} {v : Int} (h : IsMax S v) (h1 : ∀ u, S u → T u) (h2 : ∀ u, T u → ∃ w, u ≤ w ∧ S w) : IsMax T v := by
 rcases h with ⟨g1, g2⟩ | ⟨g1, g2⟩
 · exact .inl ⟨g1, fun u hu => by obtain ⟨w, _, hw⟩ := h2 u hu; exact g2 w hw⟩
 · exact .inr ⟨h1 _ g1, fun u hu => by obtain ⟨w, hle, hw⟩ := h2 u hu; have := g2 w hw; omega⟩
def useB (pos : Int → Nat) (low : Int) (bef aft : List Int) (l : Leg) : List Int :=
 if bef.getD (pos l.dst) (-1) < 0 then aft else
 match lastD l (bef.getD (pos l.dst) (-1)) with
 | some a => if low ≤ a - l.cut ∧ aft.getD (pos l.frm) (-1) < a - l.cut then aft.set (pos l.frm) (a - l.cut) else aft
 | none => aft
theorem useB_len {pos : Int → Nat} {low : Int} {bef aft : List Int} {l : Leg} : (useB pos low bef aft l).length = aft.length := by
 unfold useB
 split
 · rfl
 · split
  · split
   · simp
   · rfl
  · rfl
def Gives (pos : Int → Nat) (low : Int) (bef : List Int) (l : Leg) (q : Nat) (u : Int) : Prop :=
 pos l.frm = q ∧ 0 ≤ bef.getD (pos l.dst) (-1) ∧ ∃ a, lastD l (bef.getD (pos l.dst) (-1)) = some a ∧ u = a - l.cut ∧ low ≤ u
theorem Dep.ready {l : Leg} {a : Int} (h : Dep l a) : 0 ≤ a - l.cut := by
 obtain ⟨d, _, hg, rfl⟩ := h
 unfold goes at hg
 simp only [Bool.and_eq_true, decide_eq_true_eq] at hg
 omega
theorem Gives.nonneg {pos : Int → Nat} {low : Int} {bef : List Int} {l : Leg} {q : Nat} {u : Int} (h : Gives pos low bef l q u) : 0 ≤ u := by
 obtain ⟨_, _, a, h1, h2, _⟩ := h
 have := (lastD_some h1).1.ready
 omega
theorem useB_max {pos : Int → Nat} {low : Int} {bef aft : List Int} {l : Leg} {q : Nat} {S : Int → Prop} (hp : pos l.frm < aft.length) (h0 : ∀ u, S u → 0 ≤ u) (h : IsMax S (aft.getD q (-1))) :
  IsMax (fun u => S u ∨ Gives pos low bef l q u) ((useB pos low bef aft l).getD q (-1)) := by
 unfold useB
 by_cases hs : bef.getD (pos l.dst) (-1) < 0
 · rw [if_pos hs]
  exact h.congr fun u => ⟨.inl, fun hu => hu.elim id fun hb => absurd hb.2.1 (by omega)⟩
 rw [if_neg hs]
 cases hn : lastD l (bef.getD (pos l.dst) (-1)) with
 | none =>
  simp only []
  exact h.congr fun u => ⟨.inl, fun hu => hu.elim id fun ⟨_, _, a, ha, _⟩ => by rw [hn] at ha; cases ha⟩
 | some a =>
  simp only []
  have ha0 : 0 ≤ a - l.cut := (lastD_some hn).1.ready
  by_cases hlim : low ≤ a - l.cut
  · by_cases hq : pos l.frm = q
   · have e : ((if low ≤ a - l.cut ∧ aft.getD (pos l.frm) (-1) < a - l.cut then aft.set (pos l.frm) (a - l.cut) else aft).getD q (-1)) = if aft.getD q (-1) < a - l.cut then a - l.cut else aft.getD q (-1) := by
     subst hq
     by_cases hc : aft.getD (pos l.frm) (-1) < a - l.cut
     · rw [if_pos ⟨hlim, hc⟩, if_pos hc, getD_set hp, if_pos rfl]
     · rw [if_neg (fun h => hc h.2), if_neg hc]
    rw [e]
    refine (h.one h0 ha0).congr fun u => ⟨fun hu => hu.elim .inl fun hu => .inr ⟨hq, by omega, a, hn, hu, by omega⟩, fun hu => hu.elim .inl fun ⟨_, _, b, hb, hu, _⟩ => ?_⟩
    rw [hn] at hb; cases hb; exact .inr hu
   · have e : ((if low ≤ a - l.cut ∧ aft.getD (pos l.frm) (-1) < a - l.cut then aft.set (pos l.frm) (a - l.cut) else aft).getD q (-1)) = aft.getD q (-1) := by
     split
     · rw [getD_set hp, if_neg hq]
     · rfl
    rw [e]
    exact h.congr fun u => ⟨.inl, fun hu => hu.elim id fun hb => absurd hb.1 hq⟩
  · rw [if_neg (fun h => hlim h.1)]
   refine h.congr fun u => ⟨.inl, fun hu => hu.elim id fun ⟨_, _, b, hb, hu, hl⟩ => ?_⟩
   rw [hn] at hb; cases hb; omega
theorem foldB_max {pos : Int → Nat} {low : Int} {bef : List Int} {q : Nat} : ∀ {L : List Leg} {aft : List Int} {S : Int → Prop}, (∀ l ∈ L, pos l.frm < aft.length) → (∀ u, S u → 0 ≤ u) → IsMax S (aft.getD q (-1)) →
  IsMax (fun u => S u ∨ ∃ l ∈ L, Gives pos low bef l q u) ((L.foldl (useB pos low bef) aft).getD q (-1))
 | [], aft, S, hL, h0, h => h.congr fun u => ⟨.inl, fun hu => hu.elim id fun ⟨l, hl, _⟩ => by cases hl⟩
 | l :: L, aft, S, hL, h0, h => by
  rw [List.foldl_cons]
  refine (foldB_max (L := L) (fun x hx => ?_) (fun u hu => ?_) (useB_max (low := low) (bef := bef) (hL l (List.mem_cons_self ..)) h0 h)).congr fun u => ?_
  · rw [useB_len]; exact hL x (List.mem_cons_of_mem _ hx)
  · rcases hu with hu | hu
   · exact h0 u hu
   · exact hu.nonneg
  · constructor
   · rintro ((h | h) | ⟨x, hx, h⟩)
    · exact .inl h
    · exact .inr ⟨l, List.mem_cons_self .., h⟩
    · exact .inr ⟨x, List.mem_cons_of_mem _ hx, h⟩
   · rintro (h | ⟨x, hx, h⟩)
    · exact .inl (.inl h)
    · rcases List.mem_cons.1 hx with rfl | hx
     · exact .inl (.inr h)
     · exact .inr ⟨x, hx, h⟩
end Go.Net

namespace Go.Net
set_option maxRecDepth 100000
set_option linter.unusedVariables false
set_option linter.unusedSimpArgs false
end Go.Net

namespace Go.Net
set_option maxRecDepth 100000
set_option linter.unusedVariables false
set_option linter.unusedSimpArgs false
end Go.Net

namespace Go.Net
set_option maxRecDepth 100000
set_option linter.unusedVariables false
set_option linter.unusedSimpArgs false
def IsLat (L : List Leg) (q dl p v : Int) : Prop := IsMax (fun u => 0 ≤ u ∧ dl - 86400 ≤ u ∧ ∃ j v, v ≤ dl ∧ Way L j p u q v) v
theorem IsLat.start {L : List Leg} {q dl v : Int} (h : IsLat L q dl q v) (hL : ∀ l ∈ L, Fine l) (h0 : 0 ≤ dl) : v = dl :=
 h.uniq (.inr ⟨⟨h0, by omega, 0, dl, Int.le_refl _, .nil _ _⟩, fun u ⟨_, _, j, v, hv, hw⟩ => by have := hw.later hL; omega⟩)
theorem IsLat.range {L : List Leg} {q dl p v : Int} (h : IsLat L q dl p v) (hL : ∀ l ∈ L, Fine l) (hv : 0 ≤ v) : dl - 86400 ≤ v ∧ v ≤ dl := by
 obtain ⟨_, h1, j, u, hu, hw⟩ := h.mem hv
 have := hw.later hL
 exact ⟨h1, by omega⟩
theorem IsLat.later {L : List Leg} {p q a b x y : Int} (hx : IsLat L q a p x) (hy : IsLat L q b p y) (hL : ∀ l ∈ L, Fine l) (hab : a ≤ b) (hx0 : 0 ≤ x) (hy0 : 0 ≤ y) : x ≤ y := by
 obtain ⟨h1, h2, j, v, hv, hw⟩ := hx.mem hx0
 by_cases h : b - 86400 ≤ x
 · exact hy.ge ⟨h1, h, j, v, by omega, hw⟩
 · have := (hy.range hL hy0).1; omega
theorem IsLat.same {L M : List Leg} {p q dl x y : Int} (hx : IsLat L q dl p x) (hy : IsLat M q dl p y) (hs : ∀ l, l ∈ M ↔ l ∈ L) : x = y :=
 hx.uniq (hy.congr fun u => ⟨fun ⟨a, b, j, v, hv, hw⟩ => ⟨a, b, j, v, hv, hw.mono fun l h => (hs l).1 h⟩, fun ⟨a, b, j, v, hv, hw⟩ => ⟨a, b, j, v, hv, hw.mono fun l h => (hs l).2 h⟩⟩)
end Go.Net

namespace Go.Net
set_option maxRecDepth 100000
set_option linter.unusedVariables false
set_option linter.unusedSimpArgs false
def useX (pos : Int → Nat) (bef aft : List Int) (l : Leg) : List Int :=
 if bef.getD (pos l.dst) (-1) < 0 then aft else
 match lastD l (bef.getD (pos l.dst) (-1)) with
 | some a => aft.set (pos l.frm) (if aft.getD (pos l.frm) (-1) < a - l.cut then a - l.cut else aft.getD (pos l.frm) (-1))
 | none => aft
def stepX (N : Nat) (pos : Int → Nat) (L : List Leg) (bef : List Int) : List Int := L.foldl (useX pos bef) (List.replicate N (-1))
theorem useX_useB {pos : Int → Nat} {bef aft : List Int} {l : Leg} : useX pos bef aft l = useB pos 0 bef aft l := by
 unfold useX useB
 split
 · rfl
 cases ha : lastD l (bef.getD (pos l.dst) (-1)) with
 | none => rfl
 | some a =>
  have := (lastD_some ha).1.ready
  by_cases h : aft.getD (pos l.frm) (-1) < a - l.cut
  · simp only [h, this, and_self, if_true]
  · simp only [h, and_false, if_false]
   apply List.ext_getElem?
   intro i
   rw [List.getElem?_set]
   split
   · rename_i e; subst e
    split
    · rename_i hl; rw [List.getD_eq_getElem?_getD, List.getElem?_eq_getElem hl]; rfl
    · rename_i hl; rw [List.getElem?_eq_none (by omega)]
   · rfl
def exaK (N : Nat) (pos : Int → Nat) (L : List Leg) (q dl : Int) : Nat → List Int
 | 0 => oneT N (pos q) dl
 | k + 1 => stepX N pos L (exaK N pos L q dl k)
theorem foldX {pos : Int → Nat} {bef : List Int} : ∀ {L : List Leg} {aft : List Int}, L.foldl (useX pos bef) aft = L.foldl (useB pos 0 bef) aft
 | [], _ => rfl
 | l :: L, aft => by rw [List.foldl_cons, List.foldl_cons, useX_useB, foldX]
theorem exaK_max {N : Nat} {P : List Int} {L : List Leg} {pos : Int → Nat} {q dl : Int} (hn : NetOk N P L pos) (hq : q ∈ P) (hr : 0 ≤ dl) : ∀ (k : Nat) (p : Int), p ∈ P →
  IsMax (fun u => 0 ≤ u ∧ ∃ v, v ≤ dl ∧ Way L k p u q v) ((exaK N pos L q dl k).getD (pos p) (-1))
 | 0, p, hp => by
  rw [exaK, oneT_get (hn.lt q hq)]
  by_cases h : pos q = pos p
  · rw [if_pos h]
   have := hn.inj q hq p hp h
   subst this
   exact .inr ⟨⟨hr, dl, Int.le_refl _, .nil _ _⟩, fun u ⟨_, v, hv, hw⟩ => by have := hw.later hn.fine; omega⟩
  · rw [if_neg h]
   refine .inl ⟨rfl, fun u ⟨_, v, hv, hw⟩ => ?_⟩
   cases hw
   exact h rfl
 | k + 1, p, hp => by
  have ih := exaK_max hn hq hr k
  rw [exaK, stepX, foldX]
  have hrep : (List.replicate N (-1 : Int)).getD (pos p) (-1) = -1 := by
   rw [List.getD_eq_getElem?_getD, List.getElem?_replicate]; split <;> rfl
  refine (foldB_max (L := L) (S := fun _ => False) (fun l hl => by rw [List.length_replicate]; exact hn.lt _ (hn.frm l hl)) (fun _ h => h.elim) (.inl ⟨hrep, fun _ h => h⟩)).dom (fun u hu => ?_) (fun u hu => ?_)
  · rcases hu with hu | ⟨l, hl, hd, hs, a, ha, rfl, hlim'⟩
   · exact hu.elim
   · obtain ⟨_, v, hv, hw⟩ := (ih l.dst (hn.dst l hl)).mem hs
    obtain ⟨g1, g2, g3⟩ := lastD_some ha
    have := hn.inj _ (hn.frm l hl) p hp hd
    subst this
    have hb : ∃ v', v' ≤ dl ∧ Way L k l.dst (a + l.mins) q v' := by
     rcases hw.early g2 with ⟨rfl, e1, e2⟩ | hw'
     · rw [e1]; exact ⟨a + l.mins, by omega, .nil _ _⟩
     · exact ⟨v, hv, hw'⟩
    obtain ⟨v', hv', hw'⟩ := hb
    exact ⟨g1.ready, v', hv', .cons hl rfl g1 (Int.le_refl _) hw'⟩
  · obtain ⟨g0, v, hv, hw⟩ := hu
   obtain ⟨l, hl, a, hf, hd, ha, hw'⟩ := hw.head
   subst hf
   have hfl := hn.fine l hl
   have hr0 := hd.ready
   have hge := (ih l.dst (hn.dst l hl)).ge (u := a + l.mins) ⟨by unfold Fine at hfl; omega, v, hv, hw'⟩
   have hpos : 0 ≤ (exaK N pos L q dl k).getD (pos l.dst) (-1) := by unfold Fine at hfl; omega
   cases hnx : lastD l ((exaK N pos L q dl k).getD (pos l.dst) (-1)) with
   | none => have := lastD_none hnx a hd; omega
   | some b =>
    obtain ⟨q1, q2, q3⟩ := lastD_some hnx
    have := q3 a hd (by omega)
    exact ⟨b - l.cut, by omega, .inr ⟨l, hl, rfl, hpos, b, hnx, rfl, by omega⟩⟩
end Go.Net

namespace Go.Net
set_option maxRecDepth 100000
set_option linter.unusedVariables false
set_option linter.unusedSimpArgs false
def IsWay (L : List Leg) : Int → Int → List (Leg × Int) → Int → Int → Prop
 | p, t, [], q, u => p = q ∧ t = u
 | p, t, (l, a) :: w, q, u => l ∈ L ∧ l.frm = p ∧ Dep l a ∧ t ≤ a - l.cut ∧ IsWay L l.dst (a + l.mins) w q u
theorem IsWay.way {L : List Leg} : ∀ {w : List (Leg × Int)} {p t q u : Int}, IsWay L p t w q u → Way L w.length p t q u
 | [], p, t, q, u, h => by obtain ⟨rfl, rfl⟩ := h; exact .nil _ _
 | (l, a) :: w, p, t, q, u, h => by
  obtain ⟨h1, h2, h3, h4, h5⟩ := h
  exact .cons h1 h2 h3 h4 h5.way
def pickOk (pos : Int → Nat) (late : List Int) (plant there : Int) (l : Leg) : Option (Leg × Int) :=
 if l.frm = plant then match nextD l there with
  | some a => if a + l.mins ≤ late.getD (pos l.dst) (-1) then some (l, a) else none
  | none => none
 else none
def pickW (pos : Int → Nat) (S : List Leg) (late : List Int) (plant there : Int) : Option (Leg × Int) := S.findSome? (pickOk pos late plant there)
def goW (pos : Int → Nat) (S : List Leg) (late : Nat → List Int) : Nat → Int → Int → List (Leg × Int)
 | 0, _, _ => []
 | k + 1, p, t => match pickW pos S (late k) p t with
  | some (l, a) => (l, a) :: goW pos S late k l.dst (a + l.mins)
  | none => goW pos S late k p t
def lexL : List Int → List Int → Prop
 | x :: a, y :: b => x < y ∨ x = y ∧ lexL a b
 | _, _ => False
def idsW (w : List (Leg × Int)) : List Int := w.map fun x => x.1.id
theorem pickOk_some {pos : Int → Nat} {late : List Int} {p t : Int} {l : Leg} {r : Leg × Int} (h : pickOk pos late p t l = some r) : l.frm = p ∧ r.1 = l ∧ nextD l t = some r.2 ∧ r.2 + l.mins ≤ late.getD (pos l.dst) (-1) := by
 unfold pickOk at h
 split at h
 case isFalse => cases h
 rename_i hf
 split at h
 case h_2 => cases h
 rename_i a ha
 split at h
 case isFalse => cases h
 rename_i hl
 cases h
 exact ⟨hf, rfl, ha, hl⟩
theorem goW_spec {N : Nat} {P : List Int} {L S : List Leg} {pos : Int → Nat} {q dl : Int} {late : Nat → List Int} (hn : NetOk N P L pos) (hq : q ∈ P) (hr : 0 ≤ dl)
  (hS : ∀ l, l ∈ S ↔ l ∈ L) (hs : S.Pairwise fun a b => a.id < b.id) (hlate : ∀ k, late k = exaK N pos L q dl k) : ∀ (k : Nat) (p t : Int), p ∈ P → 0 ≤ t → (∃ v, v ≤ dl ∧ Way L k p t q v) →
  (goW pos S late k p t).length = k ∧ (∃ v, v ≤ dl ∧ IsWay L p t (goW pos S late k p t) q v) ∧
   ∀ w' t' v', t ≤ t' → IsWay L p t' w' q v' → v' ≤ dl → w'.length = k → ¬ lexL (idsW w') (idsW (goW pos S late k p t))
 | 0, p, t, hp, ht, ⟨v, hv, hw⟩ => by
  cases hw
  exact ⟨rfl, ⟨_, hv, rfl, rfl⟩, fun w' t' v' _ _ _ hl => by cases w' with | nil => exact fun h => h | cons => simp at hl⟩
 | k + 1, p, t, hp, ht, ⟨v, hv, hw⟩ => by
  have can : ∀ l ∈ L, ∀ a t' v : Int, l.frm = p → Dep l a → t ≤ t' → t' ≤ a - l.cut → Way L k l.dst (a + l.mins) q v → v ≤ dl → ∃ b, pickOk pos (late k) p t l = some (l, b) ∧ b ≤ a := by
   intro l hl a t' v hf hd htt ha hw hv
   have hfl := hn.fine l hl
   have hr0 := hd.ready
   have hge := (exaK_max hn hq hr k l.dst (hn.dst l hl)).ge (u := a + l.mins) ⟨by unfold Fine at hfl; omega, v, hv, hw⟩
   cases hx : nextD l t with
   | none => have := nextD_none hx a hd; omega
   | some b =>
    obtain ⟨q1, q2, q3⟩ := nextD_some hx
    have := q3 a hd (by omega)
    refine ⟨b, ?_, this⟩
    simp only [pickOk, hf, if_true, hx, hlate]
    rw [if_pos (by omega)]
  obtain ⟨l0, hl0, a0, hf0, hd0, ha0, hw0⟩ := hw.head
  obtain ⟨b0, hb0, _⟩ := can l0 hl0 a0 t v hf0 hd0 (Int.le_refl _) ha0 hw0 hv
  have hne : pickW pos S (late k) p t ≠ none := by
   intro e
   unfold pickW at e
   rw [List.findSome?_eq_none_iff] at e
   rw [e l0 ((hS l0).2 hl0)] at hb0; cases hb0
  cases hp1 : pickW pos S (late k) p t with
  | none => exact absurd hp1 hne
  | some r =>
   obtain ⟨l, a⟩ := r
   have hp2 := hp1
   unfold pickW at hp2
   obtain ⟨S1, x, S2, hSe, hx, hnone⟩ := List.findSome?_eq_some_iff.1 hp2
   obtain ⟨g1, g2, g3, g4⟩ := pickOk_some hx
   simp only at g2 g3 g4
   subst g2
   have hlL : l ∈ L := (hS l).1 (by rw [hSe]; simp)
   have hfl := hn.fine l hlL
   obtain ⟨q1, q2, q3⟩ := nextD_some g3
   rw [hlate] at g4
   have hr1 := q1.ready
   obtain ⟨_, v1, hv1, hw1⟩ := (exaK_max hn hq hr k l.dst (hn.dst l hlL)).mem (by unfold Fine at hfl; omega)
   have hrest : ∃ v, v ≤ dl ∧ Way L k l.dst (a + l.mins) q v := by
    rcases hw1.early g4 with ⟨rfl, e1, e2⟩ | hw'
    · rw [e1]; exact ⟨a + l.mins, by omega, .nil _ _⟩
    · exact ⟨v1, hv1, hw'⟩
   obtain ⟨i1, ⟨v2, hv2, i2⟩, i3⟩ := goW_spec hn hq hr hS hs hlate k l.dst (a + l.mins) (hn.dst l hlL) (by unfold Fine at hfl; omega) hrest
   have hgo : goW pos S late (k + 1) p t = (l, a) :: goW pos S late k l.dst (a + l.mins) := by simp only [goW, hp1]
   rw [hgo]
   refine ⟨by simp [i1], ⟨v2, hv2, hlL, g1, q1, q2, i2⟩, fun w' t' v' htt hw' hv' hlen => ?_⟩
   cases w' with
   | nil => simp at hlen
   | cons y w' =>
    obtain ⟨l', a'⟩ := y
    obtain ⟨h1, h2, h3, h4, h5⟩ := hw'
    have hlen' : w'.length = k := by simpa using hlen
    obtain ⟨b', hb', hba⟩ := can l' h1 a' t' v' h2 h3 htt h4 (hlen' ▸ h5.way) hv'
    intro hlex
    simp only [idsW, List.map_cons, lexL] at hlex
    have hin : l' ∈ S := (hS l').2 h1
    rw [hSe] at hin hs
    rcases hlex with hlt | ⟨heq, hlt⟩
    ·
     rcases List.mem_append.1 hin with hin | hin
     · rw [hnone l' hin] at hb'; cases hb'
     · rcases List.mem_cons.1 hin with rfl | hin
      · omega
      · have := (List.pairwise_cons.1 (List.pairwise_append.1 hs).2.1).1 l' hin; omega
    · have hll : l' = l := by
      rcases List.mem_append.1 hin with hin | hin
      · have := (List.pairwise_append.1 hs).2.2 l' hin l (by simp); omega
      · rcases List.mem_cons.1 hin with h | hin
       · exact h
       · have := (List.pairwise_cons.1 (List.pairwise_append.1 hs).2.1).1 l' hin; omega
     subst hll
     have := q3 a' h3 (by omega)
     exact i3 w' (a' + l'.mins) v' (by omega) h5 hv' hlen' hlt
end Go.Net

namespace Go.Net
set_option maxRecDepth 100000
set_option linter.unusedVariables false
set_option linter.unusedSimpArgs false
theorem IsWay.later {L : List Leg} {w : List (Leg × Int)} {p t q u : Int} (h : IsWay L p t w q u) (hL : ∀ l ∈ L, Fine l) : t ≤ u := h.way.later hL
theorem IsWay.from {L : List Leg} (hL : ∀ l ∈ L, Fine l) : ∀ {w : List (Leg × Int)} {p t q u m : Int}, IsWay L p t w q u → m ∈ w.map (fun x => x.1.dst) → ∃ k s, k < w.length ∧ t ≤ s ∧ Way L k m s q u
 | [], _, _, _, _, _, _, h => by simp at h
 | (l, a) :: w, p, t, q, u, m, h, hm => by
  obtain ⟨h1, h2, h3, h4, h5⟩ := h
  have hfl := hL l h1
  unfold Fine at hfl
  rw [List.map_cons, List.mem_cons] at hm
  rcases hm with rfl | hm
  · exact ⟨w.length, a + l.mins, by simp, by omega, h5.way⟩
  · obtain ⟨k, s, g1, g2, g3⟩ := IsWay.from hL h5 hm
   exact ⟨k, s, by simp; omega, by omega, g3⟩
theorem IsWay.nodup {L : List Leg} (hL : ∀ l ∈ L, Fine l) : ∀ {w : List (Leg × Int)} {p t q v : Int}, IsWay L p t w q v → (∀ j v', Way L j p t q v' → v' ≤ v → w.length ≤ j) → (p :: w.map (fun x => x.1.dst)).Nodup
 | [], _, _, _, _, _, _ => by simp
 | (l, a) :: w, p, t, q, v, h, hmin => by
  rw [List.nodup_cons]
  constructor
  · intro hm
   obtain ⟨k, s, g1, g2, g3⟩ := IsWay.from hL h hm
   rcases g3.early g2 with ⟨rfl, rfl, e⟩ | hw
   · have := hmin 0 t (.nil _ _) (by omega); simp at this
   · have := hmin k v hw (Int.le_refl _); omega
  · obtain ⟨h1, h2, h3, h4, h5⟩ := h
   rw [List.map_cons]
   exact h5.nodup hL fun j v' hw hv => by
    have := hmin (j + 1) v' (.cons h1 h2 h3 h4 hw) hv
    simpa using this
theorem IsWay.uniq {L : List Leg} : ∀ {w : List (Leg × Int)} {p t q u q' u' : Int}, IsWay L p t w q u → IsWay L p t w q' u' → q = q' ∧ u = u'
 | [], _, _, _, _, _, _, h, h' => ⟨h.1.symm.trans h'.1, h.2.symm.trans h'.2⟩
 | (l, a) :: w, _, _, _, _, _, _, h, h' => h.2.2.2.2.uniq h'.2.2.2.2
end Go.Net

namespace Go.Net
set_option maxRecDepth 100000
set_option linter.unusedVariables false
set_option linter.unusedSimpArgs false
def Nexts : Int → List (Leg × Int) → Prop
 | _, [] => True
 | t, (l, a) :: w => nextD l t = some a ∧ Nexts (a + l.mins) w
structure BestW (L : List Leg) (p ready q v : Int) (w : List (Leg × Int)) : Prop where
 way : IsWay L p ready w q v
 few : ∀ j v', Way L j p ready q v' → v' ≤ v → w.length ≤ j
 least : ∀ w' v', IsWay L p ready w' q v' → v' ≤ v → w'.length = w.length → ¬ lexL (idsW w') (idsW w)
 next : Nexts ready w
theorem goW_nexts {pos : Int → Nat} {S : List Leg} {late : Nat → List Int} : ∀ (k : Nat) (p t : Int), Nexts t (goW pos S late k p t)
 | 0, _, _ => trivial
 | k + 1, p, t => by
  simp only [goW]
  cases hp : pickW pos S (late k) p t with
  | none => exact goW_nexts k p t
  | some r =>
   obtain ⟨l, a⟩ := r
   unfold pickW at hp
   obtain ⟨S1, x, S2, hSe, hx, hnone⟩ := List.findSome?_eq_some_iff.1 hp
   obtain ⟨g1, g2, g3, g4⟩ := pickOk_some hx
   simp only at g2 g3
   subst g2
   exact ⟨g3, goW_nexts k l.dst (a + l.mins)⟩
theorem first_at {f : Nat → Int} {v : Int} : ∀ {n : Nat}, f n = v → ∃ k, k ≤ n ∧ f k = v ∧ ∀ j, j < k → f j ≠ v
 | 0, h => ⟨0, Nat.le_refl _, h, fun j hj => by omega⟩
 | n + 1, h => by
  by_cases h1 : ∃ m, m ≤ n ∧ f m = v
  · obtain ⟨m, hm, h2⟩ := h1
   obtain ⟨k, k1, k2, k3⟩ := first_at (n := m) h2
   exact ⟨k, by omega, k2, k3⟩
  · exact ⟨n + 1, Nat.le_refl _, h, fun j hj e => h1 ⟨j, by omega, e⟩⟩
termination_by n => n
theorem lexL_total : ∀ {a b : List Int}, a.length = b.length → ¬ lexL a b → ¬ lexL b a → a = b
 | [], [], _, _, _ => rfl
 | [], _ :: _, h, _, _ => by simp at h
 | _ :: _, [], h, _, _ => by simp at h
 | x :: a, y :: b, h, h1, h2 => by
  simp only [lexL, not_or, not_and] at h1 h2
  have e : x = y := by omega
  subst e
  rw [lexL_total (by simpa using h) (h1.2 rfl) (h2.2 rfl)]
theorem same_ids {L : List Leg} (hid : ∀ a ∈ L, ∀ b ∈ L, a.id = b.id → a = b) : ∀ {w w' : List (Leg × Int)} {p q u p' t t' q' u' : Int}, IsWay L p t w q u → IsWay L p' t' w' q' u' → t = t' → Nexts t w → Nexts t' w' → idsW w = idsW w' → w = w'
 | [], [], _, _, _, _, _, _, _, _, _, _, _, _, _, _ => rfl
 | [], _ :: _, _, _, _, _, _, _, _, _, _, _, _, _, _, h => by simp [idsW] at h
 | _ :: _, [], _, _, _, _, _, _, _, _, _, _, _, _, _, h => by simp [idsW] at h
 | (l, a) :: w, (l', a') :: w', p, q, u, p', t, t', q', u', h, h', e, n, n', hi => by
  subst e
  simp only [idsW, List.map_cons, List.cons.injEq] at hi
  have := hid l h.1 l' h'.1 hi.1
  subst this
  have ha := n.1.symm.trans n'.1
  cases ha
  rw [same_ids hid h.2.2.2.2 h'.2.2.2.2 rfl n.2 n'.2 hi.2]
theorem BestW.uniq {L M : List Leg} {p t q v : Int} {w w' : List (Leg × Int)} (hs : ∀ l, l ∈ M ↔ l ∈ L) (hid : ∀ a ∈ L, ∀ b ∈ L, a.id = b.id → a = b) (h : BestW L p t q v w) (h' : BestW M p t q v w') : w = w' := by
 have mono : ∀ {A B : List Leg}, (∀ l ∈ A, l ∈ B) → ∀ {w : List (Leg × Int)} {p t q u : Int}, IsWay A p t w q u → IsWay B p t w q u := by
  intro A B hAB w
  induction w with
  | nil => intro p t q u h; exact h
  | cons x w ih => intro p t q u h; exact ⟨hAB _ h.1, h.2.1, h.2.2.1, h.2.2.2.1, ih h.2.2.2.2⟩
 have hw' : IsWay L p t w' q v := mono (fun l hl => (hs l).1 hl) h'.way
 have hw : IsWay M p t w q v := mono (fun l hl => (hs l).2 hl) h.way
 have l1 := h.few _ _ hw'.way (Int.le_refl _)
 have l2 := h'.few _ _ hw.way (Int.le_refl _)
 have hl : w.length = w'.length := by omega
 have e : idsW w = idsW w' := lexL_total (by simp [idsW, hl]) (h'.least _ _ hw (Int.le_refl _) hl) (h.least _ _ hw' (Int.le_refl _) hl.symm)
 exact same_ids hid h.way hw' rfl h.next h'.next e
theorem goW_best {N : Nat} {P : List Int} {L S : List Leg} {pos : Int → Nat} {p q ready v : Int} {late : Nat → List Int} {k : Nat} (hn : NetOk N P L pos) (hp : p ∈ P) (hq : q ∈ P) (hr : 0 ≤ ready) (hv0 : 0 ≤ v)
  (hS : ∀ l, l ∈ S ↔ l ∈ L) (hs : S.Pairwise fun a b => a.id < b.id) (hlate : ∀ k, late k = exaK N pos L q v k) (hv : IsArr L p ready q v)
  (hk : (arrK N pos (ready + 86400) L p ready k).getD (pos q) (-1) = v) (hno : ∀ j, j < k → (arrK N pos (ready + 86400) L p ready j).getD (pos q) (-1) ≠ v) :
  BestW L p ready q v (goW pos S late k p ready) ∧ (goW pos S late k p ready).length = k := by
 obtain ⟨_, hvl⟩ := hv.mem hv0
 have few : ∀ j v', Way L j p ready q v' → v' ≤ v → k ≤ j := by
  intro j v' hw hv'
  apply Decidable.byContradiction; intro hc
  have hm := arrK_min hn hp hr (by omega : ready ≤ ready + 86400) j q hq
  have h1 := hm.le (u := v') ⟨⟨j, Nat.le_refl _, hw⟩, by omega⟩
  have h2 : 0 ≤ (arrK N pos (ready + 86400) L p ready j).getD (pos q) (-1) := by
   apply Decidable.byContradiction; intro hc2
   exact hm.none (fun u ⟨⟨i, _, hw⟩, _⟩ => by have := hw.later hn.fine; omega) (by omega) v' ⟨⟨j, Nat.le_refl _, hw⟩, by omega⟩
  obtain ⟨⟨i, hi, hw2⟩, hl2⟩ := hm.mem h2
  have h3 := hv.le (u := (arrK N pos (ready + 86400) L p ready j).getD (pos q) (-1)) ⟨⟨i, hw2⟩, hl2⟩
  exact hno j (by omega) (by omega)
 have hm := arrK_min hn hp hr (by omega : ready ≤ ready + 86400) k q hq
 rw [hk] at hm
 obtain ⟨⟨i, hi, hw⟩, _⟩ := hm.mem hv0
 have hik : i = k := by have := few i v hw (Int.le_refl _); omega
 subst hik
 obtain ⟨g1, ⟨v', g2, g3⟩, g4⟩ := goW_spec hn hq hv0 hS hs hlate i p ready hp hr ⟨v, Int.le_refl _, hw⟩
 have e : v' = v := by
  have := hv.le (u := v') ⟨⟨_, g3.way⟩, by omega⟩
  omega
 subst e
 exact ⟨⟨g3, fun j v' hw hv' => by rw [g1]; exact few j v' hw hv', fun w' v' hw' hv' hl => g4 w' ready v' (Int.le_refl _) hw' hv' (by omega), goW_nexts _ _ _⟩, g1⟩
end Go.Net

namespace Go.Net
set_option maxRecDepth 100000
set_option linter.unusedVariables false
set_option linter.unusedSimpArgs false
theorem IsWay.sub {L M : List Leg} : ∀ {w : List (Leg × Int)} {p t q u : Int}, IsWay L p t w q u → (∀ x ∈ w, x.1 ∈ M) → IsWay M p t w q u
 | [], _, _, _, _, h, _ => h
 | (l, a) :: w, _, _, _, _, h, hm => ⟨hm (l, a) (List.mem_cons_self ..), h.2.1, h.2.2.1, h.2.2.2.1, h.2.2.2.2.sub fun x hx => hm x (List.mem_cons_of_mem _ hx)⟩
theorem IsWay.mem {L : List Leg} : ∀ {w : List (Leg × Int)} {p t q u : Int}, IsWay L p t w q u → ∀ x ∈ w, x.1 ∈ L
 | (l, a) :: w, _, _, _, _, h, x, hx => by
  rcases List.mem_cons.1 hx with rfl | hx
  · exact h.1
  · exact h.2.2.2.2.mem x hx
theorem IsArr.nonneg {L : List Leg} {p t q u v : Int} {j : Nat} (h : IsArr L p t q v) (hL : ∀ l ∈ L, Fine l) (ht : 0 ≤ t) (hw : Way L j p t q u) (hu : u ≤ t + 86400) : 0 ≤ v := by
 apply Decidable.byContradiction; intro hc
 exact h.none (fun u ⟨⟨j, hw⟩, _⟩ => by have := hw.later hL; omega) (by omega) u ⟨⟨j, hw⟩, hu⟩
end Go.Net

