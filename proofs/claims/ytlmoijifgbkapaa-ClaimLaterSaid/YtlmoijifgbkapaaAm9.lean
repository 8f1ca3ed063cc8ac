/-
  The abstract machine, part 9: every operation but calls.
-/
import Derived.Test.YtlmoijifgbkapaaAm8
set_option linter.unusedVariables false
set_option linter.unusedSimpArgs false
namespace Go.AM
open Go.MapKept

section
variable {P : Program} {pureF : FuncId → Bool} {W : Nat → Prop} {lim : Nat} {σ : Sig} {H H' : Heap} {w : World} {dest : Option Nat} {ρ ρ' : Operand → Value} {v : Value}

theorem zero_info {t : TypeId} {z : List Value} (h : zeroOf P t = some z) : ∃ i zv, P.info? t = some i ∧ i.zero = some zv ∧ z = zv.cells.toList ∧ (∀ x ∈ z, atom x = true ∧ x.oneCell' = true) := by
  unfold zeroOf at h
  split at h
  · rename_i i hi
    split at h
    · rename_i zv hz
      split at h
      · rename_i ha
        cases h
        refine ⟨i, zv, hi, hz, rfl, fun x hx => ?_⟩
        have := List.all_eq_true.1 ha x hx
        simpa using this
      · cases h
    · cases h
  · cases h
theorem size_info {t : TypeId} {n : Nat} (h : sizeOfT P t = some n) : ∃ i, P.info? t = some i ∧ i.size = n := by
  simpa [sizeOfT] using h
theorem bytes_info {t : TypeId} {n : Nat} (h : bytesOfT P t = some n) : ∃ i, P.info? t = some i ∧ i.bytes = n := by
  simpa [bytesOfT] using h

theorem alloc_sound (hinv : Inv W lim σ H w) (hd : ∀ d, dest = some d → d < H.length ∧ σ d = none) {e : TypeId} {z : List Value} (hz : zeroOf P e = some z)
    (hx : aOp lim dest (.alloc z) ρ H = some (v, H')) (o : Oper) (ho : o.op = .alloc e) : OpSound W lim σ dest H w ((execOp ρ' o).run P w) v H' := by
  obtain ⟨i, zv, hi, hzv, rfl, hat⟩ := zero_info hz
  simp only [aOp] at hx
  cases hp : place dest (.cells false zv.cells.toList) H with
  | mk k K =>
  rw [hp] at hx
  cases hx
  refine OpSound.made hinv hd hp (cs := zv.cells) (el := e) (fun j x hj => ⟨x, by simpa using hj, .atom (hat x (List.mem_of_getElem? hj)).1, (hat x (List.mem_of_getElem? hj)).2⟩) (by simp) hinv (Stp.refl _ _)
    (v' := .pointer (some ⟨w.heap.size, 0, none⟩)) ?_ (by simpa using VRel.ptr (σ := σ.put k ⟨w.heap.size, 0, zv.cells.size⟩) (i := k) (k := 0) Sig.put_same)
  simp [execOp, ho, Instr.alloc, zeroValue, typeInfo, hi, hzv, newVar, newRow]

theorem box_sound (hinv : Inv W lim σ H w) (hd : ∀ d, dest = some d → d < H.length ∧ σ d = none) {e : TypeId} {x : Operand} (hv : VRel σ (ρ x) (ρ' x))
    (hx : aOp lim dest (.box x) ρ H = some (v, H')) (o : Oper) (ho : o.op = .box e x) : OpSound W lim σ dest H w ((execOp ρ' o).run P w) v H' := by
  simp only [aOp] at hx
  split at hx
  case isFalse => cases hx
  rename_i ht
  cases hp : place dest (.cells false (ρ x).cells.toList) H with
  | mk k K =>
  rw [hp] at hx
  cases hx
  refine OpSound.made hinv hd hp (cs := (ρ' x).cells) (el := e) (fun j y hj => ?_) (by have := hv.cells.1; simp at this; simp; omega) hinv (Stp.refl _ _)
    (v' := .pointer (some ⟨w.heap.size, 0, none⟩)) ?_ (by simpa using VRel.ptr (σ := σ.put k ⟨w.heap.size, 0, (ρ' x).cells.size⟩) (i := k) (k := 0) Sig.put_same)
  · obtain ⟨y', h1, h2⟩ := hv.cells.get hj
    exact ⟨y', by simpa using h1, h2, hv.cells_one ht y' (List.mem_of_getElem? h1)⟩
  · simp [execOp, ho, Instr.box, newVar, newRow]

theorem mapM_fields (P : Program) (w : World) : ∀ (fs : List Field), (fs.all fun f => (P.info? f.type).isSome) = true →
    (fs.mapM fun f => (do pure (f.offset, ← sizeOf f.type) : Sem (Nat × Nat))).run P w = .ok (fs.map fun f => (f.offset, P.cellsOf f.type)) w
  | [], _ => rfl
  | f :: fs, h => by
    simp only [List.all_cons, Bool.and_eq_true] at h
    obtain ⟨i, hi⟩ := Option.isSome_iff_exists.1 h.1
    have ih := mapM_fields P w fs h.2
    have h1 : (do pure (f.offset, ← sizeOf f.type) : Sem (Nat × Nat)).run P w = .ok (f.offset, P.cellsOf f.type) w := by simp [sizeOf, typeInfo, hi, Program.cellsOf]
    rw [List.mapM_cons, Sem.run_bind, h1]
    simp only [Result.andThen_ok, Sem.run_bind, ih, Sem.run_pure, List.map_cons]

theorem zero_rel {z : List Value} (h : ∀ x ∈ z, atom x = true ∧ x.oneCell' = true) : LRel σ z z := LRel.refl_of fun x hx => .atom (h x hx).1

theorem run_mapM_array (P : Program) (w : World) (fs : Array Field) (h : (fs.toList.all fun f => (P.info? f.type).isSome) = true) :
    (fs.mapM fun f => (do pure (f.offset, ← sizeOf f.type) : Sem (Nat × Nat))).run P w = .ok (fs.map fun f => (f.offset, P.cellsOf f.type)) w := by
  rw [Array.mapM_eq_mapM_toList]
  rw [Sem.run_map, mapM_fields P w fs.toList h]
  simp only [Result.andThen_ok]
  congr 1
  apply Array.ext'
  simp

theorem build_struct_sound (hinv : Inv W lim σ H w) {t : TypeId} {fs : Array Field} (hu : P.underlying t = some (.struct fs)) {z : List Value} (hz : zeroOf P t = some z) {parts : Array (Nat × Operand)} {ps : List (Nat × Nat × Operand)}
    (hps : parts.toList.mapM (trPart P fs) = some ps) (hall : (fs.toList.all fun f => (P.info? f.type).isSome) = true) (hρ : ∀ x, okOperand x = true → VRel σ (ρ x) (ρ' x))
    (hx : aOp lim dest (.build z ps) ρ H = some (v, H')) (o : Oper) (ho : o.op = .build t parts) : OpSound W lim σ dest H w ((execOp ρ' o).run P w) v H' := by
  obtain ⟨i, zv, hi, hzv, rfl, hat⟩ := zero_info hz
  simp only [aOp, Option.map_eq_some_iff, Prod.mk.injEq] at hx
  obtain ⟨c, hc, rfl, rfl⟩ := hx
  have key : parts.toList.length = ps.length ∧ ∀ (j : Nat) s p, parts.toList[j]? = some s → ps[j]? = some p → ((fs.map fun f => (f.offset, P.cellsOf f.type))[s.1]? = some (p.1, p.2.1)) ∧ p.2.2 = s.2 ∧ VRel σ (ρ s.2) (ρ' s.2) := by
    generalize parts.toList = l at hps
    clear hc ho hz
    induction l generalizing ps with
    | nil => simp at hps; subst hps; exact ⟨rfl, fun j s p h => by simp at h⟩
    | cons a l ih =>
      rw [List.mapM_cons] at hps
      simp only [bind, Option.bind_eq_some_iff, pure, Option.some.injEq] at hps
      obtain ⟨q, hq, qs, hqs, rfl⟩ := hps
      obtain ⟨g1, g2⟩ := ih hqs
      refine ⟨by simp [g1], fun j s p hs hp => ?_⟩
      cases j with
      | zero =>
        simp at hs hp; subst hs hp
        simp only [trPart, bind, Option.bind_eq_some_iff] at hq
        obtain ⟨f, hf, n, hn, hq⟩ := hq
        split at hq
        case isFalse => cases hq
        rename_i hok
        cases hq
        obtain ⟨i2, hi2, hin⟩ := size_info hn
        refine ⟨by simp [hf, Program.cellsOf, hi2, hin], rfl, hρ _ hok⟩
      | succ j => exact g2 j s p (by simpa using hs) (by simpa using hp)
  obtain ⟨c', h1, h2, h3⟩ := fillParts_sound (σ := σ) ρ ρ' (fun j => (fs.map fun f => (f.offset, P.cellsOf f.type))[j]?) parts.toList ps zv.cells.toList c zv.cells.toList key.1 key.2 hc (zero_rel hat) (fun y hy => (hat y hy).2)
  refine OpSound.plain hinv (v' := .agg c'.toArray) ?_ (VRel.agg_iff.2 ⟨by simpa using h2, by simpa using h3⟩)
  simp only [execOp, ho]
  refine run_value P w _ ?_
  simp only [Instr.build, Sem.run_bind, zeroValue, typeInfo, run_program, Result.andThen_ok, hi, hzv, Sem.run_pure, run_underlying hu, run_mapM_array P w fs hall]
  have e : ((parts.map fun x => (x.1, ρ' x.2)).toList) = parts.toList.map fun x => (x.1, ρ' x.2) := by simp
  rw [e]
  have e2 : (zv.cells.toList).toArray = zv.cells := by simp
  rw [e2] at h1
  rw [h1]
  simp

theorem build_array_sound (hinv : Inv W lim σ H w) {t e : TypeId} {n : Nat} (hu : P.underlying t = some (.array n e)) {z : List Value} (hz : zeroOf P t = some z) {s : Nat} (hs : sizeOfT P e = some s) {parts : Array (Nat × Operand)}
    (hok : ∀ x ∈ parts.toList, VRel σ (ρ x.2) (ρ' x.2))
    (hx : aOp lim dest (.build z (parts.toList.map fun x => (x.1 * s, s, x.2))) ρ H = some (v, H')) (o : Oper) (ho : o.op = .build t parts) : OpSound W lim σ dest H w ((execOp ρ' o).run P w) v H' := by
  obtain ⟨i, zv, hi, hzv, rfl, hat⟩ := zero_info hz
  simp only [aOp, Option.map_eq_some_iff, Prod.mk.injEq] at hx
  obtain ⟨c, hc, rfl, rfl⟩ := hx
  obtain ⟨c', h1, h2, h3⟩ := fillParts_sound (σ := σ) ρ ρ' (fun j => some (j * s, s)) parts.toList _ zv.cells.toList c zv.cells.toList (by simp) (fun j a p ha hp => by
    rw [List.getElem?_map, ha] at hp
    simp at hp; subst hp
    exact ⟨rfl, rfl, hok a (List.mem_of_getElem? ha)⟩) hc (zero_rel hat) (fun y hy => (hat y hy).2)
  refine OpSound.plain hinv (v' := .agg c'.toArray) ?_ (VRel.agg_iff.2 ⟨by simpa using h2, by simpa using h3⟩)
  simp only [execOp, ho]
  refine run_value P w _ ?_
  simp only [Instr.build, Sem.run_bind, zeroValue, typeInfo, run_program, Result.andThen_ok, hi, hzv, Sem.run_pure, run_underlying hu, run_size hs]
  have e : ((parts.map fun x => (x.1, ρ' x.2)).toList) = parts.toList.map fun x => (x.1, ρ' x.2) := by simp
  rw [e]
  have e2 : (zv.cells.toList).toArray = zv.cells := by simp
  rw [e2] at h1
  rw [h1]
  simp

theorem buildSlice_sound (hinv : Inv W lim σ H w) (hd : ∀ d, dest = some d → d < H.length ∧ σ d = none) {t e : TypeId} {len : Nat} (hu : P.underlying t = some (.slice e)) {z : List Value} (hz : zeroOf P e = some z) {s : Nat} (hs : sizeOfT P e = some s)
    (hzs : z.length = s) (hs0 : s ≠ 0) (hlen : len * s ≤ 2 ^ 20) {parts : Array (Nat × Operand)} (hok : ∀ x ∈ parts.toList, VRel σ (ρ x.2) (ρ' x.2))
    (hx : aOp lim dest (.buildSlice len ((List.range (len * s)).map fun j => z.getD (j % z.length) undef) (parts.toList.map fun x => (x.1 * s, s, x.2))) ρ H = some (v, H')) (o : Oper) (ho : o.op = .buildSlice t len parts) :
    OpSound W lim σ dest H w ((execOp ρ' o).run P w) v H' := by
  obtain ⟨i, zv, hi, hzv, rfl, hat⟩ := zero_info hz
  simp only [aOp] at hx
  split at hx
  case h_2 => cases hx
  rename_i c hc
  have hzget : ∀ j, atom (zv.cells.toList.getD (j % zv.cells.toList.length) undef) = true ∧ (zv.cells.toList.getD (j % zv.cells.toList.length) undef).oneCell' = true := fun j => by
    have hj : j % zv.cells.toList.length < zv.cells.toList.length := Nat.mod_lt _ (by omega)
    rw [List.getD_eq_getElem?_getD, List.getElem?_eq_getElem hj]
    exact hat _ (List.getElem_mem hj)
  have hzr : ∀ x ∈ ((List.range (len * s)).map fun j => zv.cells.toList.getD (j % zv.cells.toList.length) undef), atom x = true ∧ x.oneCell' = true := fun x hx => by
    obtain ⟨j, _, rfl⟩ := List.mem_map.1 hx
    exact hzget j
  obtain ⟨c', h1, h2, h3⟩ := fillParts_sound (σ := σ) ρ ρ' (fun j => some (j * s, s)) parts.toList _ _ c _ (by simp) (fun j a p ha hp => by
    rw [List.getElem?_map, ha] at hp
    simp at hp; subst hp
    exact ⟨rfl, rfl, hok a (List.mem_of_getElem? ha)⟩) hc (zero_rel hzr) (fun y hy => (hzr y hy).2)
  cases hp : place dest (.cells false c) H with
  | mk k K =>
  rw [hp] at hx
  cases hx
  refine OpSound.made hinv hd hp (cs := c'.toArray) (el := e) (fun j y hj => ?_) (by have := h2.1; simp; omega) hinv (Stp.refl _ _)
    (v' := .slice (some ⟨w.heap.size, 0, none⟩) len len) ?_ ?_
  · obtain ⟨y', g1, g2⟩ := h2.get hj
    exact ⟨y', by simpa using g1, g2, h3 y' (List.mem_of_getElem? g1)⟩
  · simp only [execOp, ho]
    refine run_value P w _ ?_
    have hbig : ¬ (len * s > 2 ^ 24) := by omega
    have e : ((parts.map fun x => (x.1, ρ' x.2)).toList) = parts.toList.map fun x => (x.1, ρ' x.2) := by simp
    have e3 : ∀ m, (Array.map (fun x => zv.cells[x % zv.cells.size]!) (Array.range m)) = ((List.range m).map fun j => zv.cells.toList.getD (j % zv.cells.toList.length) undef).toArray := fun m => by
      apply Array.ext'
      simp only [Array.toList_map, Array.toList_range, Array.length_toList]
      refine List.map_congr_left fun j _ => ?_
      have hj : j % zv.cells.size < zv.cells.size := Nat.mod_lt _ (by simp at hzs; omega)
      rw [List.getD_eq_getElem?_getD, Array.getElem?_toList, Array.getElem?_eq_getElem hj]
      simp [hj]
    by_cases h0 : len * s = 0
    · have hl0 : len = 0 := by
        rcases Nat.mul_eq_zero.1 h0 with h | h
        · exact h
        · exact absurd h hs0
      subst hl0
      simp only [Instr.buildSlice, Sem.run_bind, run_underlying hu, Result.andThen_ok, run_size hs, Nat.zero_mul, e]
      simp only [Nat.zero_mul, List.range_zero, List.map_nil] at h1
      have : ¬ (0 > 2 ^ 24) := by omega
      have e0 : ∀ f : Nat → Value, Array.map f (Array.range 0) = #[] := fun f => by apply Array.ext'; simp
      simp [e0, h1, newRow]
    · simp only [Instr.buildSlice, Sem.run_bind, run_underlying hu, Result.andThen_ok, run_size hs, if_neg hbig, if_neg h0, e, zeroValue, typeInfo, run_program, hi, hzv, Sem.run_pure, e3, h1]
      simp [newRow]
  · have h62 : len < 2 ^ 62 := by
      have : len * 1 ≤ len * s := Nat.mul_le_mul_left _ (by omega)
      omega
    simpa using VRel.slice (σ := σ.put k ⟨w.heap.size, 0, c'.toArray.size⟩) (i := k) (k := 0) (n := len) Sig.put_same h62
end
end Go.AM
