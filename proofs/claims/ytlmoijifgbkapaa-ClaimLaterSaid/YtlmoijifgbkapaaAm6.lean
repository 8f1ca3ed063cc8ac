/-
  The abstract machine, part 6: each operation does in the model's memory what it does on the abstract heap.
-/
import Derived.Test.YtlmoijifgbkapaaAm5
import Derived.MapKept
import Derived.Laws.StructEq
import Derived.Laws.BytesString
import Derived.Laws.MakeOwn
import Derived.Laws.Pointers
import Derived.Laws.Cover3
set_option linter.unusedVariables false
set_option linter.unusedSimpArgs false
namespace Go.AM
open Go.MapKept

def nextVal : Next → Option Value
  | .value v => some v
  | .skip => some undef
  | _ => none

/-- What an operation has come to. -/
def OpSound (W : Nat → Prop) (lim : Nat) (σ : Sig) (dest : Option Nat) (H : Heap) (w : World) (run : Result Next) (v : Value) (H' : Heap) : Prop :=
  ∃ nx w' σ' v', run = .ok nx w' ∧ nextVal nx = some v' ∧ VRel σ' v v' ∧ Inv W lim σ' H' w' ∧ Stp W w w' ∧ Sig.le σ σ' ∧
    (∀ j, σ' j ≠ σ j → dest = some j ∨ (dest = none ∧ H.length ≤ j)) ∧ H.length ≤ H'.length ∧ (dest ≠ none → H'.length = H.length)

section
variable {P : Program} {W : Nat → Prop} {lim : Nat} {σ : Sig} {H : Heap} {w : World} {dest : Option Nat}

theorem OpSound.plain (h : Inv W lim σ H w) {run : Result Next} {v v' : Value} (hr : run = .ok (.value v') w) (hv : VRel σ v v') : OpSound W lim σ dest H w run v H :=
  ⟨.value v', w, σ, v', hr, rfl, hv, h, Stp.refl W w, Sig.le_refl σ, fun j hj => absurd rfl hj, Nat.le_refl _, fun _ => rfl⟩

theorem OpSound.made (h : Inv W lim σ H w) (hd : ∀ d, dest = some d → d < H.length ∧ σ d = none) {c : List Value} {H' : Heap} {i : Nat} (hp : place dest (.cells false c) H = (i, H'))
    {cs : Array Value} {el : TypeId} (hc : ∀ (j : Nat) v, c[j]? = some v → ∃ v', cs[j]? = some v' ∧ VRel σ v v' ∧ v'.oneCell' = true) (hn : c.length ≤ cs.size)
    {w0 : World} (hw0 : Inv W lim σ H w0) (hs0 : Stp W w w0) {run : Result Next} {v v' : Value} (hr : run = .ok (.value v') (w0.alloc (.cells cs el)))
    (hv : VRel (σ.put i ⟨w0.heap.size, 0, cs.size⟩) v v') : OpSound W lim σ dest H w run v H' := by
  obtain ⟨hi, hσ⟩ := hw0.alloc (el := el) hp hd hc hn
  obtain ⟨g1, g2, g3, g4, g5, g6, g7⟩ := place_get hp fun d e => (hd d e).1
  refine ⟨_, _, _, v', hr, rfl, hv, hi, hs0.trans (Stp.alloc hw0.fresh _), Sig.le_put hσ, fun j hj => ?_, g3, fun hdn => ?_⟩
  · by_cases e : j = i
    · subst e
      cases dest with
      | none => exact .inr ⟨rfl, by rw [g5 rfl]; exact Nat.le_refl _⟩
      | some d => exact .inl (by rw [(g6 d rfl).1])
    · simp [Sig.put, e] at hj
  · cases dest with
    | none => exact absurd rfl hdn
    | some d => exact (g6 d rfl).2

theorem okOps {o : Oper} (h : o.op.operands.toList.all okOperand = true) {x : Operand} (hx : x ∈ o.op.operands) : okOperand x = true :=
  List.all_eq_true.1 h x (Array.mem_toList_iff.2 hx)

theorem fill_eq (place : Nat → Option (Nat × Nat)) (off : Nat) : ∀ (vs : List Value) (k : Nat) (cs : Array Value), (vs.zipIdx k).foldl (fun cs (x : Value × Nat) => cs.setIfInBounds (off + x.2) x.1) cs = (setAll cs.toList (off + k) vs).toArray
  | [], k, cs => by simp [setAll]
  | v :: vs, k, cs => by
    rw [List.zipIdx_cons, List.foldl_cons, fill_eq place off vs (k + 1), setAll]
    simp [Nat.add_assoc]

/-- The parts of a composite literal. -/
theorem fillParts_sound (ρ ρ' : Operand → Value) (place : Nat → Option (Nat × Nat)) :
    ∀ (src : List (Nat × Operand)) (ps : List (Nat × Nat × Operand)) (z c z' : List Value), (src.length = ps.length) →
      (∀ (j : Nat) s p, src[j]? = some s → ps[j]? = some p → place s.1 = some (p.1, p.2.1) ∧ p.2.2 = s.2 ∧ VRel σ (ρ s.2) (ρ' s.2)) →
      fillParts ρ ps z = some c → LRel σ z z' → (∀ y ∈ z', y.oneCell' = true) →
      ∃ c', Instr.fill place z'.toArray (src.map fun x => (x.1, ρ' x.2)) = some c'.toArray ∧ LRel σ c c' ∧ (∀ y ∈ c', y.oneCell' = true)
  | [], [], z, c, z', _, _, hf, hz, h1 => by
    simp [fillParts] at hf; subst hf
    exact ⟨z', by simp [Instr.fill], hz, h1⟩
  | s :: src, p :: ps, z, c, z', hl, hp, hf, hz, h1 => by
    obtain ⟨off, size, x⟩ := p
    obtain ⟨i, x'⟩ := s
    obtain ⟨e1, e2, e3⟩ := hp 0 _ _ rfl rfl
    simp only at e1 e2 e3
    subst e2
    simp only [fillParts] at hf
    split at hf
    case isFalse => cases hf
    rename_i hc
    obtain ⟨q1, q2, q3⟩ := hc
    have hcl := e3.cells
    have hone := e3.cells_one q3
    have q1' : (ρ x).cells.size = size := by simpa using q1
    have hlen : (ρ' x).cells.size = size := by have := hcl.1; simp at this; omega
    have hz1 := hz.1
    have hset : ∀ (vs vs' : List Value) (o : Nat) (a b : List Value), LRel σ vs vs' → LRel σ a b → LRel σ (setAll a o vs) (setAll b o vs') := by
      intro vs
      induction vs with
      | nil => intro vs' o a b h k; have : vs' = [] := by have := h.1; simpa using this.symm
               subst this; exact k
      | cons v vs ih => intro vs' o a b h k
                        cases vs' with
                        | nil => have := h.1; simp at this
                        | cons v' vs' => exact ih vs' _ _ _ h.tail (k.set h.head o)
    have hone2 : ∀ (vs : List Value) (o : Nat) (b : List Value), (∀ y ∈ vs, y.oneCell' = true) → (∀ y ∈ b, y.oneCell' = true) → ∀ y ∈ setAll b o vs, y.oneCell' = true := by
      intro vs
      induction vs with
      | nil => intro o b _ hb; exact hb
      | cons v vs ih => intro o b hv hb
                        refine ih _ _ (fun y hy => hv y (List.mem_cons_of_mem _ hy)) fun y hy => ?_
                        rcases List.mem_or_eq_of_mem_set hy with h | h
                        · exact hb y h
                        · subst h; exact hv _ (List.mem_cons_self)
    obtain ⟨c', g1, g2, g3⟩ := fillParts_sound ρ ρ' place src ps _ c (setAll z' off (ρ' x).cells.toList) (by simpa using hl) (fun j s p hs hp' => hp (j + 1) s p (by simpa using hs) (by simpa using hp')) hf (hset _ _ off _ _ hcl hz) (hone2 _ off _ hone h1)
    refine ⟨c', ?_, g2, g3⟩
    simp only [List.map_cons, Instr.fill, e1]
    have : ¬ ((ρ' x).cells.size ≠ size || off + (ρ' x).cells.size > z'.toArray.size) = true := by simp [hlen]; omega
    rw [if_neg this]
    rw [← g1]
    congr 1
    rw [← Array.foldl_toList]
    simp only [Array.toList_zipIdx]
    rw [fill_eq (fun _ => none) off (ρ' x).cells.toList 0 z'.toArray]
    simp
end
end Go.AM
