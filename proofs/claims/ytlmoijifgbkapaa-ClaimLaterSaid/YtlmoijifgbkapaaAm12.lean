/-
  The abstract machine, part 12: maps, copies, and the rest.
-/
import Derived.Test.YtlmoijifgbkapaaAm11
set_option linter.unusedVariables false
set_option linter.unusedSimpArgs false
namespace Go.AM
open Go.MapKept

section
variable {P : Program} {W : Nat → Prop} {lim : Nat} {σ : Sig} {H H' : Heap} {w : World} {dest : Option Nat} {ρ ρ' : Operand → Value} {v : Value}

/-! ### Maps -/
theorem keyKind_desc {t : TypeId} {kk : KK} (h : keyKind P t = some kk) {x : Value} (hx : keyOk kk x = true) : ∃ d, P.underlying t = some d ∧ IsKey d x ∧
    ∀ y r, keyEq x y = some r → Instr.sameNow d x y = some r := by
  unfold keyKind at h
  cases hu : P.underlying t with
  | none => simp [hu] at h
  | some d =>
    rw [hu] at h
    refine ⟨d, rfl, ?_, ?_⟩
    · cases d <;> simp at h <;> subst h <;> cases x <;> simp_all [keyOk, IsKey]
    · intro y r hr
      cases d <;> simp at h <;> subst h <;> cases x <;> simp [keyOk] at hx <;> cases y <;> simp_all [keyEq, Instr.sameNow]

theorem keyEq_rel {x : Value} {kk : KK} (hx : keyOk kk x = true) {y : Value} (h : VRel σ x y) : y = x := by
  cases kk <;> cases x <;> simp [keyOk] at hx <;> first
    | exact h.int_left
    | exact h.string_left
    | exact h.bool_left

theorem keyEq_true {a b : Value} (h : keyEq a b = some true) : b = a := by
  unfold keyEq at h
  split at h
  · split at h
    · rename_i hk; subst hk
      simp at h; rw [h]
    · cases h
  · rename_i a b
    have h2 : (a == b) = true := by simpa using h
    rw [beq_toListBytes, ByteArray.toList_eq, ByteArray.toList_eq] at h2
    have h3 : a.data.toList = b.data.toList := by simpa using h2
    obtain ⟨⟨x⟩⟩ := a
    obtain ⟨⟨y⟩⟩ := b
    simp at h3
    rw [h3]
  · simp at h; rw [h]
  · cases h

/-- The place of a key among the entries, as the model finds it. -/
theorem findKey_sound {t : TypeId} {kk : KK} (hk : keyKind P t = some kk) {x : Value} (hx : keyOk kk x = true) {es : List (Value × Value)} {ents : Array MapEntry} (hlen : ents.size = es.length)
    (hrel : ∀ (j : Nat) e e', es[j]? = some e → ents[j]? = some e' → e.1 = e'.key ∧ VRel σ e.2 e'.val) {r : Option (Nat × Value)} (h : findKey x es 0 = some r) :
    (Instr.findKey t x ents.toList).run P w = .ok (r.map fun p => (p.1, (ents.getD p.1 default).val)) w ∧
      (∀ p, r = some p → ∃ e e', es[p.1]? = some e ∧ ents[p.1]? = some e' ∧ e.2 = p.2 ∧ keyEq x e.1 = some true) := by
  obtain ⟨d, hd, _, hsame⟩ := keyKind_desc hk hx
  have key : ∀ (es : List (Value × Value)) (l : List MapEntry) (i : Nat), l.length = es.length → (∀ (j : Nat) e e', es[j]? = some e → l[j]? = some e' → e.1 = e'.key) → ∀ r, findKey x es i = some r →
      (Instr.findNow d x l i = some (r.map fun p => (p.1, (l.getD (p.1 - i) default).val))) ∧ (∀ p, r = some p → i ≤ p.1 ∧ ∃ e e', es[p.1 - i]? = some e ∧ l[p.1 - i]? = some e' ∧ e.2 = p.2 ∧ keyEq x e.1 = some true) := by
    intro es
    induction es with
    | nil =>
      intro l i hl _ r hr
      have : l = [] := by simpa using hl
      subst this
      simp [findKey] at hr; subst hr
      exact ⟨rfl, fun p hp => by cases hp⟩
    | cons a es ih =>
      intro l i hl hj r hr
      cases l with
      | nil => simp at hl
      | cons b l =>
        obtain ⟨k', v'⟩ := a
        have hkb : k' = b.key := hj 0 (k', v') b rfl rfl
        simp only [findKey] at hr
        split at hr
        · rename_i he
          cases hr
          have := hsame _ _ he
          rw [hkb] at this
          refine ⟨by simp [Instr.findNow, this], fun p hp => ?_⟩
          cases hp
          exact ⟨Nat.le_refl _, (k', v'), b, by simp, by simp, rfl, he⟩
        · rename_i he
          have hs := hsame _ _ he
          rw [hkb] at hs
          obtain ⟨g1, g2⟩ := ih l (i + 1) (by simpa using hl) (fun j e e' h1 h2 => hj (j + 1) e e' (by simpa using h1) (by simpa using h2)) r hr
          refine ⟨?_, fun p hp => ?_⟩
          · simp only [Instr.findNow, hs, g1]
            cases r with
            | none => rfl
            | some p =>
              obtain ⟨h1, _⟩ := g2 p rfl
              simp only [Option.map_some]
              rw [show p.1 - i = (p.1 - (i + 1)) + 1 by omega]
              rfl
          · obtain ⟨h1, e, e', h2, h3, h4, h5⟩ := g2 p hp
            refine ⟨by omega, e, e', ?_, ?_, h4, h5⟩
            · rw [show p.1 - i = (p.1 - (i + 1)) + 1 by omega]; simpa using h2
            · rw [show p.1 - i = (p.1 - (i + 1)) + 1 by omega]; simpa using h3
        · cases hr
  obtain ⟨g1, g2⟩ := key es ents.toList 0 (by simpa using hlen) (fun j e e' h1 h2 => (hrel j e e' h1 (by simpa using h2)).1) r h
  refine ⟨?_, fun p hp => ?_⟩
  · have := run_findKey (w := w) (kt := t) hd g1
    rw [this]
    cases r with
    | none => rfl
    | some p => simp
  · obtain ⟨_, e, e', h2, h3, h4, h5⟩ := g2 p hp
    exact ⟨e, e', by simpa using h2, by simpa using h3, h4, h5⟩

/-- The entries of a map. -/
theorem Inv.entries (h : Inv W lim σ H w) {m m' : Value} (hm : VRel σ m m') {es : List (Value × Value)} (he : mapEntries H m = some es) :
    (m' = .map none ∧ es = []) ∨ ∃ (r : Nat) (L : Loc) (ents : Array MapEntry) (clock : Nat), m = .map (some r) ∧ hget H r = .map es ∧ σ r = some L ∧ m' = .map (some L.blk) ∧ w.heap[L.blk]? = some (.map ents clock) ∧ ents.size = es.length ∧
      ∀ (j : Nat) e e', es[j]? = some e → ents[j]? = some e' → e.1 = e'.key ∧ VRel σ e.2 e'.val := by
  unfold mapEntries at he
  split at he
  · cases he; exact .inl ⟨hm.nilmap_left, rfl⟩
  · rename_i r
    split at he
    · rename_i es' hb
      cases he
      obtain ⟨L, hL, rfl⟩ := hm.map_left
      obtain ⟨L', h1, ents, clock, h2, h3, h4⟩ := h.blk r _ (hget_some hb rfl) rfl
      rw [hL] at h1; cases h1
      exact .inr ⟨r, L, ents, clock, rfl, hb, hL, rfl, h2, h3, h4⟩
    · cases he
  · cases he

theorem zeroVal_info {t : TypeId} {z : Value} (h : zeroVal P t = some z) : ∃ i, P.info? t = some i ∧ i.zero = some z ∧ ∀ τ, VRel τ z z := by
  unfold zeroVal at h
  split at h
  · rename_i i hi
    split at h
    · rename_i zv hz
      split at h
      · rename_i ha
        cases h
        refine ⟨i, hi, hz, fun τ => ?_⟩
        have hc : ∀ x ∈ z.cells.toList, atom x = true ∧ x.oneCell' = true := fun x hx => by
          have := List.all_eq_true.1 ha x hx
          simpa using this
        by_cases hag : ∃ cs, z = .agg cs
        · obtain ⟨cs, rfl⟩ := hag
          exact VRel.agg_iff.2 ⟨LRel.refl_of fun x hx => .atom (hc x hx).1, fun y hy => (hc y hy).2⟩
        · refine .atom (hc z ?_).1
          cases z <;> first | (exact absurd ⟨_, rfl⟩ hag) | simp [Value.cells]
      · cases h
    · cases h
  · cases h

theorem lookup_sound (hinv : Inv W lim σ H w) {t kt e : TypeId} (hu : P.underlying t = some (.map kt e)) {kk : KK} (hk : keyKind P kt = some kk) {z : Value} (hz : zeroVal P e = some z)
    {ok : Bool} {m key : Operand} (hm : VRel σ (ρ m) (ρ' m)) (hkey : VRel σ (ρ key) (ρ' key))
    (hx : aOp lim dest (.lookup kk z ok m key) ρ H = some (v, H')) (o : Oper) (ho : o.op = .lookup t m key ok) : OpSound W lim σ dest H w ((execOp ρ' o).run P w) v H' := by
  obtain ⟨i, hi, hzv, hzr⟩ := zeroVal_info hz
  simp only [aOp] at hx
  split at hx
  case h_2 => cases hx
  rename_i es hes
  split at hx
  case isFalse => cases hx
  rename_i hko
  obtain ⟨d, hd, hik, _⟩ := keyKind_desc hk hko
  have hke := keyEq_rel hko hkey
  have zrun : (zeroValue e).run P w = .ok z w := by simp [zeroValue, typeInfo, hi, hzv]
  have pack : ∀ {a b : Value} {c : Bool}, VRel σ a b → VRel σ (if ok then .tuple #[a, .bool c] else a) (if ok then .tuple #[b, .bool c] else b) := by
    intro a b c h
    cases ok
    · exact h
    · exact VRel.tuple_iff.2 (LRel.cons h (LRel.cons (.atom rfl) LRel.nil))
  rcases hinv.entries hm hes with ⟨hm', rfl⟩ | ⟨r, L, ents, clock, hm0, hb, hL, hm', hh, hlen, hrel⟩
  · simp [findKey] at hx
    obtain ⟨rfl, rfl⟩ := hx
    refine OpSound.plain hinv (v' := if ok then .tuple #[z, .bool false] else z) ?_ (pack (hzr σ))
    simp only [execOp, ho]
    refine run_value P w _ ?_
    rw [hm', hke]
    simp [Instr.lookup, run_underlying hu, run_checkKey hd hik, Instr.findKey, run_underlying hd, Instr.findNow, zrun]
  · have hf0 : ∃ res, findKey (ρ key) es 0 = some res := by
      cases hf : findKey (ρ key) es 0 with
      | none => simp [hf] at hx
      | some res => exact ⟨res, rfl⟩
    obtain ⟨res, hf⟩ := hf0
    obtain ⟨g1, g2⟩ := findKey_sound (P := P) (w := w) (σ := σ) hk hko hlen hrel hf
    cases res with
    | none =>
      simp [hf] at hx
      obtain ⟨rfl, rfl⟩ := hx
      refine OpSound.plain hinv (v' := if ok then .tuple #[z, .bool false] else z) ?_ (pack (hzr σ))
      simp only [execOp, ho]
      refine run_value P w _ ?_
      rw [hm', hke]
      simp only [Option.map_none] at g1
      simp [Instr.lookup, run_underlying hu, MapKept.run_getObj_map hh, run_checkKey hd hik, g1, zrun]
    | some p =>
      obtain ⟨e1, e2, q1, q2, q3, q4⟩ := g2 p rfl
      obtain ⟨p1, p2⟩ := p
      simp [hf] at hx
      obtain ⟨rfl, rfl⟩ := hx
      simp only at q1 q2 q3
      have hval : (ents.getD p1 default).val = e2.val := by rw [Array.getD_eq_getD_getElem?, q2]; rfl
      refine OpSound.plain hinv (v' := if ok then .tuple #[e2.val, .bool true] else e2.val) ?_ (pack (by rw [← q3]; exact (hrel _ _ _ q1 q2).2))
      simp only [execOp, ho]
      refine run_value P w _ ?_
      rw [hm', hke]
      simp only [Option.map_some, hval] at g1
      simp [Instr.lookup, run_underlying hu, MapKept.run_getObj_map hh, run_checkKey hd hik, g1]

/-- A map of one's own has other entries. -/
theorem Inv.setMap (h : Inv W lim σ H w) {r : Nat} {L : Loc} {es es' : List (Value × Value)} (hb : hget H r = .map es) (hL : σ r = some L) (hlim : lim ≤ r) {ents : Array MapEntry} {clock : Nat} (hlt : L.blk < w.heap.size) (hlen : ents.size = es'.length)
    (hrel : ∀ (j : Nat) e e', es'[j]? = some e → ents[j]? = some e' → e.1 = e'.key ∧ VRel σ e.2 e'.val) :
    Inv W lim σ (H.set r (.map es')) { w with heap := w.heap.setIfInBounds L.blk (.map ents clock) } ∧ Stp W w { w with heap := w.heap.setIfInBounds L.blk (.map ents clock) } := by
  have hbs := hget_some hb rfl
  have hs : ({ w with heap := w.heap.setIfInBounds L.blk (.map ents clock) } : World).heap.size = w.heap.size := by simp
  have hh : ∀ k, k ≠ L.blk → ({ w with heap := w.heap.setIfInBounds L.blk (.map ents clock) } : World).heap[k]? = w.heap[k]? := fun k hk => by
    simp [Array.getElem?_setIfInBounds, Ne.symm hk]
  refine ⟨h.rewrite hbs rfl hL hs hh ⟨ents, clock, ?_, hlen, hrel⟩ (fun _ => rfl), Stp.one (h.wr _ _ _ hbs rfl hlim hL) hh hs rfl rfl rfl⟩
  simp [hlt]

theorem mapUpdate_run (hinv : Inv W lim σ H w) {t kt e : TypeId} (hu : P.underlying t = some (.map kt e)) {kk : KK} (hk : keyKind P kt = some kk) {m key x : Operand} (hm : VRel σ (ρ m) (ρ' m)) (hkey : VRel σ (ρ key) (ρ' key)) (hval : VRel σ (ρ x) (ρ' x))
    (hx : aOp lim dest (.mapUpdate kk m key x) ρ H = some (v, H')) : ∃ w', (Instr.mapUpdate t (ρ' m) (ρ' key) (ρ' x)).run P w = .ok () w' ∧ Inv W lim σ H' w' ∧ Stp W w w' ∧ H'.length = H.length ∧ v = undef := by
  simp only [aOp] at hx
  split at hx
  case h_2 => cases hx
  rename_i r hr
  split at hx
  case h_2 => cases hx
  rename_i es hb
  split at hx
  case isFalse => cases hx
  rename_i hcond
  obtain ⟨hko, hlim⟩ := hcond
  obtain ⟨d, hd, hik, _⟩ := keyKind_desc hk hko
  have hke := keyEq_rel hko hkey
  have hes : mapEntries H (ρ m) = some es := by rw [hr]; simp [mapEntries, hb]
  rcases hinv.entries hm hes with ⟨hm', rfl⟩ | ⟨r', L, ents, clock, hm0, hb', hL, hm', hh, hlen, hrel⟩
  · rw [hr] at hm; obtain ⟨L, _, h2⟩ := hm.map_left; rw [hm'] at h2; cases h2
  rw [hr] at hm0; cases hm0
  have hlt : L.blk < w.heap.size := (Array.getElem?_eq_some_iff.1 hh).1
  have hf0 : ∃ res, findKey (ρ key) es 0 = some res := by
    cases hf : findKey (ρ key) es 0 with
    | none => simp [hf] at hx
    | some res => exact ⟨res, rfl⟩
  obtain ⟨res, hf⟩ := hf0
  obtain ⟨g1, g2⟩ := findKey_sound (P := P) (w := w) (σ := σ) hk hko hlen hrel hf
  rw [hm', hke]
  cases res with
  | none =>
    simp [hf] at hx
    obtain ⟨rfl, rfl⟩ := hx
    obtain ⟨i1, i2⟩ := hinv.setMap (es' := es ++ [(ρ key, ρ x)]) hb hL hlim (ents := ents.push { key := ρ key, val := ρ' x, born := clock }) (clock := clock + 1) hlt (by simp [hlen]) (fun j a b ha hb2 => by
      by_cases hj : j < es.length
      · rw [List.getElem?_append_left hj] at ha
        rw [Array.getElem?_push, if_neg (by omega)] at hb2
        exact hrel j a b ha hb2
      · have hj2 : j = es.length := by
          have := (List.getElem?_eq_some_iff.1 ha).1
          simp at this; omega
        subst hj2
        simp at ha
        rw [← hlen] at hb2
        simp at hb2
        subst ha hb2
        exact ⟨rfl, hval⟩)
    simp only [Option.map_none] at g1
    exact ⟨_, by simp [Instr.mapUpdate, run_underlying hu, MapKept.run_getObj_map hh, run_checkKey hd hik, g1, MapKept.run_setObj_map _ hh], i1, i2, by simp, rfl⟩
  | some p =>
    obtain ⟨p1, p2⟩ := p
    obtain ⟨e1, e2, q1, q2, q3, q4⟩ := g2 _ rfl
    simp only at q1 q2 q3
    simp [hf] at hx
    obtain ⟨rfl, rfl⟩ := hx
    have hkk : e2.key = ρ key := by
      rw [← (hrel _ _ _ q1 q2).1]
      exact keyEq_true q4
    have hp1 : p1 < ents.size := (Array.getElem?_eq_some_iff.1 q2).1
    obtain ⟨i1, i2⟩ := hinv.setMap (es' := es.set p1 (ρ key, ρ x)) hb hL hlim (ents := ents.modify p1 fun e => { e with key := ρ key, val := ρ' x }) (clock := clock) hlt (by simp [hlen]) (fun j a b ha hb2 => by
      rw [List.getElem?_set] at ha
      rw [Array.getElem?_modify] at hb2
      by_cases hj : p1 = j
      · subst hj
        rw [if_pos rfl, if_pos (by rw [← hlen]; exact hp1)] at ha
        rw [if_pos rfl, q2] at hb2
        simp at ha hb2
        subst ha hb2
        exact ⟨rfl, hval⟩
      · rw [if_neg hj] at ha
        rw [if_neg hj] at hb2
        exact hrel j a b ha hb2)
    simp only [Option.map_some] at g1
    have hq : ((ents[p1]?).map (·.key)).getD (ρ key) = ρ key := by rw [q2]; simp [hkk]
    refine ⟨_, ?_, i1, i2, by simp, rfl⟩
    simp only [Instr.mapUpdate, Sem.run_bind, run_underlying hu, Result.andThen_ok, MapKept.run_getObj_map hh, run_checkKey hd hik, g1, hq]
    rw [run_keyThatStays hik]
    simp [MapKept.run_setObj_map _ hh]
end
end Go.AM
