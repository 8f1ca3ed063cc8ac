/-
  The abstract machine, part 8: '=='.
-/
import Derived.Test.YtlmoijifgbkapaaAm7
import Derived.ChangeKeysEq
set_option linter.unusedVariables false
set_option linter.unusedSimpArgs false
namespace Go.AM

theorem cellsEq_length : ∀ {l : List KK} {a c : List Value} {r : Bool}, cellsEq l a c = some r → a.length = l.length ∧ c.length = l.length
  | [], [], [], _, _ => ⟨rfl, rfl⟩
  | _ :: l, _ :: a, _ :: c, r, h => by
    simp only [cellsEq] at h
    split at h
    · rename_i h2
      have := cellsEq_length h2
      simp [this.1, this.2]
    · cases h
  | [], _ :: _, _, _, h => by simp [cellsEq] at h
  | [], [], _ :: _, _, h => by simp [cellsEq] at h
  | _ :: _, [], _, _, h => by simp [cellsEq] at h
  | _ :: _, _ :: _, [], _, h => by simp [cellsEq] at h
theorem cellsEq_append : ∀ {l m : List KK} {a c : List Value} {r : Bool}, cellsEq (l ++ m) a c = some r →
    ∃ r1 r2, cellsEq l (a.take l.length) (c.take l.length) = some r1 ∧ cellsEq m (a.drop l.length) (c.drop l.length) = some r2 ∧ r = (r1 && r2)
  | [], m, a, c, r, h => ⟨true, r, by simp [cellsEq], by simpa using h, by simp⟩
  | k :: l, m, x :: a, y :: c, r, h => by
    simp only [List.cons_append, cellsEq] at h
    split at h
    · rename_i p q h1 h2
      cases h
      obtain ⟨r1, r2, g1, g2, rfl⟩ := cellsEq_append h2
      exact ⟨p && r1, r2, by simp [cellsEq, h1, g1], by simpa using g2, by rw [Bool.and_assoc]⟩
    · cases h
  | k :: l, m, [], c, r, h => by simp [cellsEq] at h
  | k :: l, m, _ :: _, [], r, h => by simp [cellsEq] at h
theorem cellsEq_one {k : KK} {a c : List Value} {r : Bool} (h : cellsEq [k] a c = some r) : ∃ x y, a = [x] ∧ c = [y] ∧ cellEq k x y = some r := by
  match a, c, h with
  | [x], [y], h =>
    refine ⟨x, y, rfl, rfl, ?_⟩
    simp only [cellsEq] at h
    split at h
    · rename_i h1 h2
      cases h2
      cases h
      simpa using h1
    · cases h
  | [], _, h => simp [cellsEq] at h
  | [_], [], h => simp [cellsEq] at h
  | [_], _ :: _ :: _, h => simp [cellsEq] at h
  | _ :: _ :: _, [], h => simp [cellsEq] at h
  | _ :: _ :: _, [_], h => simp [cellsEq] at h
  | _ :: _ :: _, _ :: _ :: _, h => simp [cellsEq] at h

section
variable {P : Program} (w : World)

theorem run_cellEq (d : Nat) (t : TypeId) {k : KK} {x y : Value} {r : Bool} (h : cellEq k x y = some r) (ht : keyKind P t = some k) : (Op.equalIn (d + 1) t x y).run P w = .ok r w := by
  unfold keyKind at ht
  unfold cellEq at h
  split at h
  · split at h
    · rename_i hk
      cases h
      obtain ⟨rfl, rfl⟩ := hk
      split at ht <;> simp at ht
      rename_i q hq
      exact run_equalIn_int w d t _ _ _ _ hq
    · cases h
  · cases h
    split at ht <;> simp at ht
    rename_i hq
    exact run_equalIn_bool w d t _ _ hq
  · cases h
    split at ht <;> simp at ht
    rename_i hq
    exact run_equalIn_string w d t _ _ hq
  · cases h

/-- '==' at a type of simple cells. 'seg': the cells of a value. -/
def EqOk (P : Program) (w : World) (d : Nat) (t : TypeId) (l : List KK) : Prop :=
  ∀ (x y : Value) (r : Bool), (isAggT P t = some true → (∃ xs, x = .agg xs) ∧ ∃ ys, y = .agg ys) → (isAggT P t = some false → x.cells = #[x] ∧ y.cells = #[y]) →
    cellsEq l x.cells.toList y.cells.toList = some r → (Op.equalIn d t x y).run P w = .ok r w

theorem run_part_seg (t : TypeId) {b : Bool} (hb : isAggT P t = some b) {n : Nat} (hn : sizeOfT P t = some n) (cs : Array Value) (off : Nat) (hoff : off + n ≤ cs.size) (h1 : b = false → n = 1) :
    ∃ v, (part t cs off).run P w = .ok v w ∧ (isAggT P t = some true → ∃ xs, v = .agg xs) ∧ (b = false → cs[off]? = some v) ∧ (b = true → v.cells.toList = (cs.toList.drop off).take n) := by
  cases b with
  | true => exact ⟨_, run_partN hb hn, fun _ => ⟨_, rfl⟩, (fun h => by cases h), fun _ => extract_toList cs off n⟩
  | false =>
    have := h1 rfl
    subst this
    exact ⟨cs[off]'(by omega), run_part1 hb (Array.getElem?_eq_getElem (by omega)), (fun h => by rw [hb] at h; cases h), fun _ => Array.getElem?_eq_getElem (by omega), (fun h => by cases h)⟩

theorem step_seg {d : Nat} {t : TypeId} {l : List KK} (IH : EqOk P w d t l) {b : Bool} (hb : isAggT P t = some b) (hn : sizeOfT P t = some l.length) (h1 : b = false → l.length = 1) (xs ys : Array Value) (off : Nat)
    {r : Bool} (h : cellsEq l ((xs.toList.drop off).take l.length) ((ys.toList.drop off).take l.length) = some r) (hx : off + l.length ≤ xs.size) (hy : off + l.length ≤ ys.size) :
    ∃ a c, (part t xs off).run P w = .ok a w ∧ (part t ys off).run P w = .ok c w ∧ (Op.equalIn d t a c).run P w = .ok r w := by
  obtain ⟨a, a1, a2, a3, a4⟩ := run_part_seg w t hb hn xs off hx h1
  obtain ⟨c, c1, c2, c3, c4⟩ := run_part_seg w t hb hn ys off hy h1
  refine ⟨a, c, a1, c1, IH a c r (fun h => ⟨a2 h, c2 h⟩) (fun hf => ?_) ?_⟩
  · rw [hb] at hf; cases hf
    have hl := h1 rfl
    rw [hl] at h
    have one : ∀ {zs : Array Value} {z : Value}, zs[off]? = some z → (zs.toList.drop off).take 1 = [z] := fun {zs z} hz => by
      have := (Array.getElem?_eq_some_iff.1 hz)
      obtain ⟨h1, h2⟩ := this
      rw [List.drop_eq_getElem_cons (by simpa using h1)]
      simp [h2]
    rw [one (a3 rfl), one (c3 rfl)] at h
    have hk : ∃ k, l = [k] := by
      match l, hl with
      | [k], _ => exact ⟨k, rfl⟩
    obtain ⟨k, rfl⟩ := hk
    obtain ⟨x, y, e1, e2, e3⟩ := cellsEq_one h
    simp only [List.cons.injEq, and_true] at e1 e2
    subst e1 e2
    unfold cellEq at e3
    split at e3 <;> first | exact ⟨rfl, rfl⟩ | (cases e3; done)
  · cases b with
    | true => rw [a4 rfl, c4 rfl]; exact h
    | false =>
      have hl := h1 rfl
      rw [hl] at h
      have one : ∀ {zs : Array Value} {z : Value}, zs[off]? = some z → (zs.toList.drop off).take 1 = [z] := fun {zs z} hz => by
        obtain ⟨h1, h2⟩ := (Array.getElem?_eq_some_iff.1 hz)
        rw [List.drop_eq_getElem_cons (by simpa using h1)]
        simp [h2]
      rw [one (a3 rfl), one (c3 rfl)] at h
      have hk : ∃ k, l = [k] := by
        match l, hl with
        | [k], _ => exact ⟨k, rfl⟩
      obtain ⟨k, rfl⟩ := hk
      obtain ⟨x, y, e1, e2, e3⟩ := cellsEq_one h
      simp only [List.cons.injEq, and_true] at e1 e2
      subst e1 e2
      have cellsOf1 : a.cells = #[a] ∧ c.cells = #[c] := by
        unfold cellEq at e3
        split at e3 <;> first | exact ⟨rfl, rfl⟩ | (cases e3; done)
      rw [cellsOf1.1, cellsOf1.2]
      exact h

theorem items_sound {d : Nat} {e : TypeId} {l : List KK} (IH : EqOk P w d e l) {b : Bool} (hb : isAggT P e = some b) (hn : sizeOfT P e = some l.length) (h1 : b = false → l.length = 1) (xs ys : Array Value) :
    ∀ (m s : Nat) (r : Bool), cellsEq (List.replicate m l).flatten (xs.toList.drop (s * l.length)) (ys.toList.drop (s * l.length)) = some r →
      (Op.eqItems d e l.length xs ys (List.range' s m)).run P w = .ok r w
  | 0, s, r, h => by
    simp only [List.replicate_zero, List.flatten_nil] at h
    have : r = true := by
      generalize xs.toList.drop (s * l.length) = u at h
      generalize ys.toList.drop (s * l.length) = v at h
      cases u <;> cases v <;> simp [cellsEq] at h
      exact h
    subst this
    simp [Op.eqItems]
  | m + 1, s, r, h => by
    simp only [List.replicate_succ, List.flatten_cons] at h
    have hlen := cellsEq_length h
    simp only [List.length_append, List.length_drop, Array.length_toList] at hlen
    obtain ⟨r1, r2, g1, g2, rfl⟩ := cellsEq_append h
    have hs : xs.size ≥ s * l.length ∨ l.length = 0 := by
      by_cases h0 : l.length = 0
      · exact .inr h0
      · left; omega
    have hs' : ys.size ≥ s * l.length ∨ l.length = 0 := by
      by_cases h0 : l.length = 0
      · exact .inr h0
      · left; omega
    have hx : s * l.length + l.length ≤ xs.size := by
      rcases hs with h | h
      · omega
      · rw [h]; omega
    have hy : s * l.length + l.length ≤ ys.size := by
      rcases hs' with h | h
      · omega
      · rw [h]; omega
    obtain ⟨a, c, p1, p2, p3⟩ := step_seg w IH hb hn h1 xs ys (s * l.length) g1 hx hy
    have ih := items_sound IH hb hn h1 xs ys m (s + 1) r2 (by
      rw [show (s + 1) * l.length = s * l.length + l.length by rw [Nat.add_mul]; omega, ← List.drop_drop, ← List.drop_drop]; exact g2)
    rw [List.range'_succ]
    simp only [Op.eqItems, Sem.run_bind, p1, p2, p3, Result.andThen_ok]
    cases r1
    · simp
    · simpa using ih

theorem fields_sound (n d : Nat) (IH : ∀ t l, simpleKinds P n t = some l → EqOk P w d t l) (xs ys : Array Value) :
    ∀ (fs : List Field) (off : Nat) (l : List KK) (r : Bool), kindsGo P (simpleKinds P n) fs off = some l → cellsEq l (xs.toList.drop off) (ys.toList.drop off) = some r → (l ≠ [] → off ≤ xs.size ∧ off ≤ ys.size) →
      (Op.eqFields d xs ys fs).run P w = .ok r w
  | [], off, l, r, hl, h, _ => by
    simp [kindsGo] at hl; subst hl
    have : r = true := by
      generalize xs.toList.drop off = u at h
      generalize ys.toList.drop off = v at h
      cases u <;> cases v <;> simp [cellsEq] at h
      exact h
    subst this
    simp [Op.eqFields]
  | f :: fs, off, l, r, hl, h, ho => by
    simp only [kindsGo] at hl
    split at hl
    · cases hl
    rename_i hf
    split at hl
    case h_2 => cases hl
    rename_i l1 hl1
    split at hl
    case isFalse => cases hl
    rename_i hc
    simp only [Option.map_eq_some_iff] at hl
    obtain ⟨l2, hl2, rfl⟩ := hl
    obtain ⟨hc, hne⟩ := hc
    have hname : f.name ≠ "_" := fun e => hf (.inl e)
    have hoff : f.offset = off := Decidable.byContradiction fun e => hf (.inr e)
    have hlen := cellsEq_length h
    simp only [List.length_append, List.length_drop, Array.length_toList] at hlen
    obtain ⟨r1, r2, g1, g2, rfl⟩ := cellsEq_append h
    -- the field's type is known
    have hu : ∃ dsc, P.underlying f.type = some dsc := by
      cases hd : P.underlying f.type with
      | some x => exact ⟨x, rfl⟩
      | none => cases n <;> simp [simpleKinds, hd] at hl1
    obtain ⟨dsc, hu⟩ := hu
    obtain ⟨i, hi⟩ := info_of_underlying hu
    have hsz : sizeOfT P f.type = some l1.length := by
      rw [hc]; simp [sizeOfT, Program.cellsOf, hi]
    have hagg : ∃ b, isAggT P f.type = some b ∧ (b = false → l1.length = 1) := by
      cases n with
      | zero => simp [simpleKinds] at hl1
      | succ n =>
        unfold simpleKinds at hl1
        unfold isAggT
        rw [hu] at hl1 ⊢
        cases dsc <;> simp at hl1 <;> first
          | (subst hl1; exact ⟨false, rfl, fun _ => rfl⟩)
          | exact ⟨true, rfl, fun h => by cases h⟩
    obtain ⟨b, hb, hb1⟩ := hagg
    have hx : off + l1.length ≤ xs.size ∧ off + l1.length ≤ ys.size := by
      have := ho (fun e => hne (by rw [(List.append_eq_nil_iff.1 e).1]; rfl)); omega
    obtain ⟨a, c, p1, p2, p3⟩ := step_seg w (IH _ _ hl1) hb hsz hb1 xs ys off g1 hx.1 hx.2
    have ih := fields_sound n d IH xs ys fs (off + l1.length) l2 r2 hl2 (by rw [← List.drop_drop, ← List.drop_drop]; exact g2) (fun _ => hx)
    simp only [Op.eqFields, hname, ne_eq, not_false_eq_true, if_true, Sem.run_bind, hoff, p1, p2, p3, Result.andThen_ok]
    cases r1
    · simp
    · simpa using ih

theorem simple_sound : ∀ (n : Nat) (t : TypeId) (l : List KK), simpleKinds P n t = some l → ∀ d, EqOk P w (d + n) t l
  | 0, t, l, h, _ => by simp [simpleKinds] at h
  | n + 1, t, l, h, d => by
    intro x y r hagg hcell hr
    unfold simpleKinds at h
    have cell : ∀ k, keyKind P t = some k → l = [k] → isAggT P t = some false → (Op.equalIn (d + (n + 1)) t x y).run P w = .ok r w := by
      intro k hk hl hf
      subst hl
      obtain ⟨h1, h2⟩ := hcell hf
      rw [h1, h2] at hr
      obtain ⟨a, c, e1, e2, e3⟩ := cellsEq_one hr
      simp at e1 e2
      subst e1 e2
      exact run_cellEq w (d + n) t e3 hk
    split at h
    · rename_i hu; cases h
      exact cell .bool (by simp [keyKind, hu]) rfl (by simp [isAggT, hu])
    · rename_i k hu; cases h
      exact cell (.int k) (by simp [keyKind, hu]) rfl (by simp [isAggT, hu])
    · rename_i hu; cases h
      exact cell .str (by simp [keyKind, hu]) rfl (by simp [isAggT, hu])
    · rename_i len e hu
      split at h
      case h_2 => cases h
      rename_i l1 hl1
      split at h
      case isFalse => cases h
      rename_i hc
      cases h
      obtain ⟨⟨xs, rfl⟩, ⟨ys, rfl⟩⟩ := hagg (by simp [isAggT, hu])
      have hue : ∃ dsc, P.underlying e = some dsc := by
        cases hd : P.underlying e with
        | some x => exact ⟨x, rfl⟩
        | none => cases n <;> simp [simpleKinds, hd] at hl1
      obtain ⟨dsc, hue⟩ := hue
      obtain ⟨i, hi⟩ := info_of_underlying hue
      have hsz : sizeOfT P e = some l1.length := by
        rw [hc]; simp [sizeOfT, Program.cellsOf, hi]
      have hb : ∃ b, isAggT P e = some b ∧ (b = false → l1.length = 1) := by
        cases n with
        | zero => simp [simpleKinds] at hl1
        | succ n =>
          unfold simpleKinds at hl1
          unfold isAggT
          rw [hue] at hl1 ⊢
          cases dsc <;> simp at hl1 <;> first
            | (subst hl1; exact ⟨false, rfl, fun _ => rfl⟩)
            | exact ⟨true, rfl, fun h => by cases h⟩
      obtain ⟨b, hb, hb1⟩ := hb
      rw [show d + (n + 1) = (d + n) + 1 from rfl, run_equalIn_array w (d + n) xs ys hu hi, ← hc, List.range_eq_range']
      exact items_sound w (simple_sound n e l1 hl1 d) hb hsz hb1 xs ys len 0 r (by simpa [Value.cells] using hr)
    · rename_i fs hu
      split at h
      · cases h
      rename_i hst
      obtain ⟨⟨xs, rfl⟩, ⟨ys, rfl⟩⟩ := hagg (by simp [isAggT, hu])
      have hfs : P.fieldsOf t = fs := by simp [Program.fieldsOf, hu]
      rw [show d + (n + 1) = (d + n) + 1 from rfl, run_equalIn_struct w (d + n) t xs ys (by rw [hfs]; exact hu) (by simpa using hst), hfs]
      exact fields_sound w n (d + n) (fun t l hl => simple_sound n t l hl d) xs ys fs.toList 0 l r h (by simpa [Value.cells] using hr) (fun _ => ⟨Nat.zero_le _, Nat.zero_le _⟩)
    · cases h

theorem run_eqGuard_agg (op : BinOp) (t : TypeId) (x y : Operand) (xs ys : Array Value) (h : P.eqGuardType P.depth t = false) : (eqGuard op t x y (.agg xs) (.agg ys)).run P w = .ok () w := by
  cases op <;> simp [eqGuard, h]

theorem eqn_ptr1 (d : Nat) (t e : TypeId) (q : Option Addr) (h : P.underlying t = some (.pointer e)) : (Op.equalIn (d + 1) t (.pointer none) (.pointer q)).run P w = .ok q.isNone w := by simp [Op.equalIn, run_underlying h]
theorem eqn_ptr2 (d : Nat) (t e : TypeId) (q : Addr) (h : P.underlying t = some (.pointer e)) : (Op.equalIn (d + 1) t (.pointer (some q)) (.pointer none)).run P w = .ok false w := by simp [Op.equalIn, run_underlying h]
theorem eqn_sl1 (d : Nat) (t e : TypeId) (q : Option Addr) (a b c f : Nat) (h : P.underlying t = some (.slice e)) : (Op.equalIn (d + 1) t (.slice none a b) (.slice q c f)).run P w = .ok q.isNone w := by simp [Op.equalIn, run_underlying h]
theorem eqn_sl2 (d : Nat) (t e : TypeId) (q : Addr) (a b c f : Nat) (h : P.underlying t = some (.slice e)) : (Op.equalIn (d + 1) t (.slice (some q) a b) (.slice none c f)).run P w = .ok false w := by simp [Op.equalIn, run_underlying h]
theorem eqn_map1 (d : Nat) (t e f : TypeId) (q : Option Nat) (h : P.underlying t = some (.map e f)) : (Op.equalIn (d + 1) t (.map none) (.map q)).run P w = .ok q.isNone w := by simp [Op.equalIn, run_underlying h]
theorem eqn_map2 (d : Nat) (t e f : TypeId) (q : Nat) (h : P.underlying t = some (.map e f)) : (Op.equalIn (d + 1) t (.map (some q)) (.map none)).run P w = .ok false w := by simp [Op.equalIn, run_underlying h]
theorem eqn_fn0 (d : Nat) (t : TypeId) {e f : Array TypeId} {g : Bool} (h : P.underlying t = some (.func e f g)) : (Op.equalIn (d + 1) t .nilFunc .nilFunc).run P w = .ok true w := by simp [Op.equalIn, run_underlying h]
theorem eqn_fn1 (d : Nat) (t : TypeId) {e f : Array TypeId} {g : Bool} (q : Fn) (i j : Array Value) (h : P.underlying t = some (.func e f g)) : (Op.equalIn (d + 1) t .nilFunc (.func q i j)).run P w = .ok false w := by simp [Op.equalIn, run_underlying h]
theorem eqn_fn2 (d : Nat) (t : TypeId) {e f : Array TypeId} {g : Bool} (q : Fn) (i j : Array Value) (h : P.underlying t = some (.func e f g)) : (Op.equalIn (d + 1) t (.func q i j) .nilFunc).run P w = .ok false w := by simp [Op.equalIn, run_underlying h]

theorem aEq_sound {σ : Sig} (neg : Bool) {k : EqKind} {t : TypeId} (hk : eqKind P t = some k) (x y : Operand) {a b a' b' : Value} (ha : VRel σ a a') (hb : VRel σ b b') {r : Bool} (h : aEq k a b = some r) :
    (do eqGuard (if neg then .neq else .eql) t x y a' b'; binOp (if neg then .neq else .eql) t a' b' : Sem Value).run P w = .ok (.bool (if neg then !r else r)) w := by
  have fin : (eqGuard (if neg then .neq else .eql) t x y a' b').run P w = .ok () w → (Op.equal t a' b').run P w = .ok r w →
      (∀ (op : BinOp), op = .eql ∨ op = .neq → binOp op t a' b' = (if op = .eql then (do pure (.bool (← Op.equal t a' b'))) else (do pure (.bool (!(← Op.equal t a' b')))))) →
      (do eqGuard (if neg then .neq else .eql) t x y a' b'; binOp (if neg then .neq else .eql) t a' b' : Sem Value).run P w = .ok (.bool (if neg then !r else r)) w := by
    intro h1 h2 h3
    cases neg
    · simp only [Bool.false_eq_true, if_false] at h1 ⊢
      rw [Sem.run_bind, h1, h3 .eql (.inl rfl)]; simp [h2]
    · simp only [if_true] at h1 ⊢
      rw [Sem.run_bind, h1, h3 .neq (.inr rfl)]; simp [h2]
  unfold aEq at h
  split at h
  · -- bool
    cases h
    rw [ha.bool_left, hb.bool_left] at *
    have hu : P.underlying t = some .bool := by unfold eqKind at hk; split at hk <;> simp_all
    exact fin (run_eqGuard_other _ _ _ _ (by simp) (by simp)) (run_equalIn_bool w 9999 t _ _ hu) (by rintro op (rfl | rfl) <;> simp [binOp])
  · cases h
    rename_i q
    rw [ha.nilptr_left] at *
    have hu : ∃ e, P.underlying t = some (.pointer e) := by unfold eqKind at hk; split at hk <;> simp_all
    obtain ⟨e, hu⟩ := hu
    have hb' : ∃ q', b' = .pointer q' ∧ q'.isNone = q.isNone := by
      cases hb with
      | atom hb => exact ⟨_, rfl, rfl⟩
      | ptr hb => exact ⟨_, rfl, rfl⟩
    obtain ⟨q', rfl, hq⟩ := hb'
    refine fin (run_eqGuard_other _ _ _ _ (by simp) (by simp)) ?_ (by rintro op (rfl | rfl) <;> cases q' <;> simp [binOp])
    rw [← hq]
    exact eqn_ptr1 w 9999 t _ _ hu
  · cases h
    obtain ⟨L, h1, h2, rfl⟩ := ha.ptr_left
    rw [hb.nilptr_left] at *
    have hu : ∃ e, P.underlying t = some (.pointer e) := by unfold eqKind at hk; split at hk <;> simp_all
    obtain ⟨e, hu⟩ := hu
    refine fin (run_eqGuard_other _ _ _ _ (by simp) (by simp)) ?_ (by rintro op (rfl | rfl) <;> simp [binOp])
    exact eqn_ptr2 w 9999 t _ _ hu
  · cases h
    rename_i n c q m cc
    obtain ⟨rfl, rfl, rfl⟩ := ha.nilslice_left
    have hu : ∃ e, P.underlying t = some (.slice e) := by unfold eqKind at hk; split at hk <;> simp_all
    obtain ⟨e, hu⟩ := hu
    have hb' : ∃ q' m' c', b' = .slice q' m' c' ∧ q'.isNone = q.isNone := by
      cases hb <;> exact ⟨_, _, _, rfl, rfl⟩
    obtain ⟨q', m', c', rfl, hq⟩ := hb'
    refine fin (run_eqGuard_other _ _ _ _ (by simp) (by simp)) ?_ (by rintro op (rfl | rfl) <;> simp [binOp])
    rw [← hq]
    exact eqn_sl1 w 9999 t _ _ _ _ _ _ hu
  · cases h
    rename_i q n c m cc
    obtain ⟨rfl, rfl, rfl⟩ := hb.nilslice_left
    have hu : ∃ e, P.underlying t = some (.slice e) := by unfold eqKind at hk; split at hk <;> simp_all
    obtain ⟨e, hu⟩ := hu
    have ha' : ∃ q' m' c', a' = .slice (some q') m' c' := by
      obtain ⟨_, L, _, h | ⟨_, _, _, _, _, h⟩ | ⟨_, _, _, h⟩⟩ := ha.slice_left
      · exact ⟨_, _, _, h.2⟩
      · exact ⟨_, _, _, h⟩
      · exact ⟨_, _, _, h⟩
    obtain ⟨q', m', c', rfl⟩ := ha'
    refine fin (run_eqGuard_other _ _ _ _ (by simp) (by simp)) ?_ (by rintro op (rfl | rfl) <;> simp [binOp])
    exact eqn_sl2 w 9999 t _ _ _ _ _ _ hu
  · cases h
    rename_i q
    rw [ha.nilmap_left] at *
    have hu : ∃ e f, P.underlying t = some (.map e f) := by unfold eqKind at hk; split at hk <;> simp_all
    obtain ⟨e, f, hu⟩ := hu
    have hb' : ∃ q', b' = .map q' ∧ q'.isNone = q.isNone := by
      cases hb with
      | atom hb => exact ⟨_, rfl, rfl⟩
      | map hb => exact ⟨_, rfl, rfl⟩
    obtain ⟨q', rfl, hq⟩ := hb'
    refine fin (run_eqGuard_other _ _ _ _ (by simp) (by simp)) ?_ (by rintro op (rfl | rfl) <;> simp [binOp])
    rw [← hq]
    exact eqn_map1 w 9999 t _ _ _ hu
  · cases h
    obtain ⟨L, h1, rfl⟩ := ha.map_left
    rw [hb.nilmap_left] at *
    have hu : ∃ e f, P.underlying t = some (.map e f) := by unfold eqKind at hk; split at hk <;> simp_all
    obtain ⟨e, f, hu⟩ := hu
    refine fin (run_eqGuard_other _ _ _ _ (by simp) (by simp)) ?_ (by rintro op (rfl | rfl) <;> simp [binOp])
    exact eqn_map2 w 9999 t _ _ _ hu
  · cases h
    rw [ha.nilfunc_left, hb.nilfunc_left] at *
    have hu : ∃ e f g, P.underlying t = some (.func e f g) := by unfold eqKind at hk; split at hk <;> simp_all
    obtain ⟨e, f, g, hu⟩ := hu
    refine fin (run_eqGuard_other _ _ _ _ (by simp) (by simp)) ?_ (by rintro op (rfl | rfl) <;> simp [binOp])
    exact eqn_fn0 w 9999 t hu
  · cases h
    rw [ha.nilfunc_left] at *
    have hu : ∃ e f g, P.underlying t = some (.func e f g) := by unfold eqKind at hk; split at hk <;> simp_all
    obtain ⟨e, f, g, hu⟩ := hu
    have hb' : ∃ q i j, b' = .func q i j := by cases hb <;> exact ⟨_, _, _, rfl⟩
    obtain ⟨q, i, j, rfl⟩ := hb'
    refine fin (run_eqGuard_other _ _ _ _ (by simp) (by simp)) ?_ (by rintro op (rfl | rfl) <;> simp [binOp])
    exact eqn_fn1 w 9999 t _ _ _ hu
  · cases h
    rw [hb.nilfunc_left] at *
    have hu : ∃ e f g, P.underlying t = some (.func e f g) := by unfold eqKind at hk; split at hk <;> simp_all
    obtain ⟨e, f, g, hu⟩ := hu
    have ha' : ∃ q i j, a' = .func q i j := by cases ha <;> exact ⟨_, _, _, rfl⟩
    obtain ⟨q, i, j, rfl⟩ := ha'
    refine fin (run_eqGuard_other _ _ _ _ (by simp) (by simp)) ?_ (by rintro op (rfl | rfl) <;> simp [binOp])
    exact eqn_fn2 w 9999 t _ _ _ hu
  · rename_i l xs ys
    obtain ⟨xs', rfl, hxl, _⟩ := ha.agg_left
    obtain ⟨ys', rfl, hyl, _⟩ := hb.agg_left
    have hg : P.eqGuardType P.depth t = false ∧ simpleKinds P 20 t = some l ∧ isAggT P t = some true := by
      unfold eqKind at hk
      split at hk <;> simp_all [isAggT]
    -- cells that are compared are the same on both sides
    have same : ∀ {l : List KK} {a b c d : List Value} {r : Bool}, LRel σ a c → LRel σ b d → cellsEq l a b = some r → cellsEq l c d = some r := by
      intro l
      induction l with
      | nil =>
        intro a b c d r h1 h2 h
        cases a <;> cases b <;> simp [cellsEq] at h
        have := h1.1; have := h2.1
        cases c <;> cases d <;> simp_all [cellsEq]
      | cons k l ih =>
        intro a b c d r h1 h2 h
        cases a with
        | nil => simp [cellsEq] at h
        | cons x a =>
          cases b with
          | nil => simp [cellsEq] at h
          | cons y b =>
            cases c with
            | nil => have := h1.1; simp at this
            | cons x' c =>
              cases d with
              | nil => have := h2.1; simp at this
              | cons y' d =>
                simp only [cellsEq] at h ⊢
                have hx : cellEq k x y = cellEq k x' y' ∨ cellEq k x y = none := by
                  cases k <;> cases hxx : x <;> cases hyy : y <;> first
                    | (right; rfl)
                    | (left; subst hxx hyy; first | rw [h1.head.int_left, h2.head.int_left] | rw [h1.head.bool_left, h2.head.bool_left] | rw [h1.head.string_left, h2.head.string_left])
                split at h
                · rename_i p q e1 e2
                  cases h
                  rcases hx with hx | hx
                  · rw [← hx, e1, ih h1.tail h2.tail e2]
                  · rw [hx] at e1; cases e1
                · cases h
    refine fin (run_eqGuard_agg w _ t x y xs' ys' hg.1) ?_ (by rintro op (rfl | rfl) <;> simp [binOp])
    exact simple_sound w 20 t l hg.2.1 9980 (.agg xs') (.agg ys') r (fun _ => ⟨⟨_, rfl⟩, ⟨_, rfl⟩⟩) (fun h => by rw [hg.2.2] at h; cases h) (same hxl hyl h)
  · cases h
end
end Go.AM
