/-
  The abstract machine, part 21: a region that draws its order comes to what the order of the text comes to.
-/
import Derived.Test.YtlmoijifgbkapaaAm20
set_option linter.unusedVariables false
set_option linter.unusedSimpArgs false
namespace Go.AM

section
variable {P : Program} {pureF : FuncId → Bool} {C : CallF}

/-- The operations that are still to come, in the order of the text. -/
structure Todo (ops : Array Oper) (listed : Array Bool) (τ : List Nat) : Prop where
  mem : ∀ i, i ∈ τ ↔ i < ops.size ∧ listed.getD i true = false
  sorted : τ.Pairwise (· < ·)
  size : listed.size = ops.size
  closed : ∀ (i : Nat) o, ops[i]? = some o → listed.getD i false = true → ∀ e ∈ o.after.toList, Region.binds .any e = true → listed.getD e.on false = true

theorem getD_both {listed : Array Bool} {i n : Nat} (hs : listed.size = n) (hi : i < n) : listed.getD i false = listed.getD i true := by
  rw [Array.getD_eq_getD_getElem?, Array.getD_eq_getD_getElem?, Array.getElem?_eq_getElem (by omega)]
  rfl

theorem drawn_any (hC : CallOk P C) {ops : Array Oper} {n : Nat} {L : List AIns} (pl : Plan P pureF ops n L) {N base : Nat} {Q : Exit → Act → World → Prop} (fr' : Nat → Value) (H' : Heap) (W : Nat → Prop) (lim : Nat) (hlb : lim ≤ base) (σ0 : Sig) (H0 : Heap) (w0 : World)
    (hQ : ∀ a w σ, State W lim σ N fr' H' a w → Stp W w0 w → Sig.le σ0 σ → Grow lim H0 H' → (∀ j, σ j ≠ σ0 j → base ≤ j) → H0.length ≤ H'.length → Q .normal a w) :
    ∀ (fuel : Nat) (listed : Array Bool) (τ : List Nat) (fr : Nat → Value) (H : Heap) (a : Act) (w : World) (σ : Sig), τ.length = fuel → Todo ops listed τ → State W lim σ N fr H a w → Stp W w0 w → Sig.le σ0 σ → Grow lim H0 H → (∀ j, σ j ≠ σ0 j → base ≤ j) → H0.length ≤ H.length →
      Kept σ H base n (τ.filterMap fun i => (L.getD i default).dest) → dOps C N lim (some base) (τ.map fun i => L.getD i default) fr H = some (fr', H') → wpAny P .any ops Q fuel listed a w
  | 0, listed, τ, fr, H, a, w, σ, hf, ht, hst, h1, h2, h3, h4, h5, hk, hx => by
    have hτ : τ = [] := List.length_eq_zero_iff.1 hf
    subst hτ
    simp [dOps] at hx
    obtain ⟨rfl, rfl⟩ := hx
    refine ⟨?_, hQ a w σ hst h1 h2 h3 h4 h5⟩
    rw [List.eq_nil_iff_forall_not_mem]
    intro i hi
    have := ready_iff.1 hi
    have := (ht.mem i).2 ⟨this.1, this.2.1⟩
    cases this
  | fuel + 1, listed, τ, fr, H, a, w, σ, hf, ht, hst, h1, h2, h3, h4, h5, hk, hx => by
    refine ⟨fun hr => ?_, fun i hi => ?_⟩
    · -- the first one is ready
      exfalso
      cases τ with
      | nil => simp at hf
      | cons t τ =>
        have htm := (ht.mem t).1 List.mem_cons_self
        have : t ∈ Region.ready .any ops listed := ready_iff.2 ⟨htm.1, htm.2, fun o ho e he hb => by
          have hbx := List.all_eq_true.1 pl.back t (by simpa using htm.1)
          rw [ho] at hbx
          have hlt := List.all_eq_true.1 hbx e he
          rw [hb] at hlt
          simp at hlt
          -- what is ahead of the first one is listed
          rw [getD_both ht.size (by omega)]
          cases hc : listed.getD e.on true with
          | true => rfl
          | false =>
            have hm := (ht.mem e.on).2 ⟨by omega, hc⟩
            rcases List.mem_cons.1 hm with h | h
            · omega
            · have := List.rel_of_pairwise_cons ht.sorted h
              omega⟩
        rw [hr] at this
        cases this
    · obtain ⟨r1, r2, r3⟩ := ready_iff.1 hi
      have him := (ht.mem i).2 ⟨r1, r2⟩
      obtain ⟨A, B, rfl⟩ := List.append_of_mem him
      have hiL : i < L.length := by rw [pl.len]; exact r1
      have hLi : L[i]? = some (L.getD i default) := by rw [List.getD_eq_getElem?_getD, List.getElem?_eq_getElem hiL]; rfl
      have hAlt : ∀ b ∈ A, b < i := fun b hb => by
        have := List.pairwise_append.1 ht.sorted
        exact this.2.2 b hb i List.mem_cons_self
      have hA : ∀ b ∈ A, Planned (L.getD b default) ∧ Sep (L.getD b default) (L.getD i default) := fun b hb => by
        have hbm := (ht.mem b).1 (List.mem_append_left _ hb)
        have hbL : b < L.length := by rw [pl.len]; exact hbm.1
        have hLb : L[b]? = some (L.getD b default) := by rw [List.getD_eq_getElem?_getD, List.getElem?_eq_getElem hbL]; rfl
        have hbi := hAlt b hb
        refine ⟨pl.planned b _ hLb, pl.sep b i _ _ hLb hLi (by omega) ?_ ?_⟩
        · cases hw : waits ops ops.size b i with
          | false => rfl
          | true => have := waits_back pl.back _ _ _ hw; omega
        · cases hw : waits ops ops.size i b with
          | false => rfl
          | true =>
            exfalso
            have key : ∀ m, waits ops m i b = true → listed.getD b false = true := by
              intro m hm
              cases m with
              | zero => simp [waits] at hm
              | succ m =>
                unfold waits at hm
                split at hm
                · rename_i o ho
                  obtain ⟨e, he, h2⟩ := List.any_eq_true.1 hm
                  simp only [Bool.and_eq_true, Bool.or_eq_true, beq_iff_eq] at h2
                  have he' := r3 o ho e he h2.1
                  rcases h2.2 with h3 | h3
                  · rw [← h3]; exact he'
                  · exact waits_listed ht.closed m e.on b he' h3
                · cases hm
            have := key _ hw
            rw [getD_both ht.size hbm.1, hbm.2] at this
            cases this
      have hbub := bubble hC.toCallOk0 (pl.planned i _ hLi) (B.map fun i => L.getD i default) (A.map fun i => L.getD i default) fr H _ (fun x hx => by
        obtain ⟨b, hb, rfl⟩ := List.mem_map.1 hx
        exact hA b hb) (by simpa using hx)
      obtain ⟨fr1, H1, hx1, hx2⟩ := dOps_cons hbub
      have hops : ops[i]? = some ops[i] := Array.getElem?_eq_getElem r1
      obtain ⟨i0, ht0, e1, e2, e3⟩ := pl.ins i _ _ hops hLi
      refine dins_wp hC hops ht0 ⟨e1, e2, e3⟩ hst hlb hk (fun r hr => ⟨List.mem_filterMap.2 ⟨i, him, hr⟩, pl.dest i _ r hLi hr⟩) (fun r hr => pl.mask i _ r hLi hr) hx1 fun σ' a' w' q1 q2 q3 q4 q5 q6 q7 => ?_
      have hnotA : i ∉ A := fun h => by have := hAlt i h; omega
      have hnotB : i ∉ B := fun h => by
        have := (List.pairwise_append.1 ht.sorted).2.1
        have := List.rel_of_pairwise_cons this h
        omega
      have hset : ∀ j, (listed.setIfInBounds i true).getD j true = if j = i then true else listed.getD j true := fun j => by
        rw [Array.getD_eq_getD_getElem?, Array.getD_eq_getD_getElem?]
        by_cases hj : j = i
        · subst hj
          rw [if_pos rfl, Array.getElem?_setIfInBounds_self_of_lt (by rw [ht.size]; exact r1)]; rfl
        · rw [if_neg hj, Array.getElem?_setIfInBounds_ne (fun h => hj h.symm)]
      have hset' : ∀ j, (listed.setIfInBounds i true).getD j false = if j = i then true else listed.getD j false := fun j => by
        rw [Array.getD_eq_getD_getElem?, Array.getD_eq_getD_getElem?]
        by_cases hj : j = i
        · subst hj
          rw [if_pos rfl, Array.getElem?_setIfInBounds_self_of_lt (by rw [ht.size]; exact r1)]; rfl
        · rw [if_neg hj, Array.getElem?_setIfInBounds_ne (fun h => hj h.symm)]
      have ht' : Todo ops (listed.setIfInBounds i true) (A ++ B) := by
        refine ⟨fun j => ?_, ?_, by simpa using ht.size, fun j o ho hl e he hb => ?_⟩
        · have hm := ht.mem j
          rw [hset]
          constructor
          · intro hj
            have hj2 : j ∈ A ++ i :: B := by
              rcases List.mem_append.1 hj with h | h
              · exact List.mem_append_left _ h
              · exact List.mem_append_right _ (List.mem_cons_of_mem _ h)
            obtain ⟨g1, g2⟩ := hm.1 hj2
            have hne : j ≠ i := fun e => by
              subst e
              rcases List.mem_append.1 hj with h | h
              · exact hnotA h
              · exact hnotB h
            exact ⟨g1, by rw [if_neg hne]; exact g2⟩
          · rintro ⟨g1, g2⟩
            by_cases hne : j = i
            · rw [if_pos hne] at g2; cases g2
            · rw [if_neg hne] at g2
              have := hm.2 ⟨g1, g2⟩
              rcases List.mem_append.1 this with h | h
              · exact List.mem_append_left _ h
              · rcases List.mem_cons.1 h with h | h
                · exact absurd h hne
                · exact List.mem_append_right _ h
        · have h1 := List.pairwise_append.1 ht.sorted
          refine List.pairwise_append.2 ⟨h1.1, (List.pairwise_cons.1 h1.2.1).2, fun x hx y hy => h1.2.2 x hx y (List.mem_cons_of_mem _ hy)⟩
        · rw [hset'] at hl ⊢
          by_cases hj : j = i
          · subst hj
            have := r3 o ho e he hb
            split
            · rfl
            · exact this
          · rw [if_neg hj] at hl
            have := ht.closed j o ho hl e he hb
            split
            · rfl
            · exact this
      refine drawn_any hC pl fr' H' W lim hlb σ0 H0 w0 hQ fuel _ (A ++ B) fr1 H1 a' w' σ' (by simp at hf ⊢; omega) ht' q1 (h1.trans q2) (Sig.le_trans h2 q3) (h3.trans q4) (fun j hj => ?_) (by omega) ⟨q5.len, q5.own, fun r hr => q5.free r ?_, fun r hr => ?_⟩ (by simpa using hx2)
      · apply Classical.byContradiction
        intro hc
        have e1 : σ j = σ0 j := Classical.byContradiction fun e => hc (h4 j e)
        rcases q6 j (fun e => hj (e.trans e1)) with ⟨r, _, h⟩ | h
        · omega
        · have := hk.len; omega
      · obtain ⟨b, hb, hbr⟩ := List.mem_filterMap.1 hr
        refine List.mem_filter.2 ⟨List.mem_filterMap.2 ⟨b, ?_, hbr⟩, ?_⟩
        · rcases List.mem_append.1 hb with h | h
          · exact List.mem_append_left _ h
          · exact List.mem_append_right _ (List.mem_cons_of_mem _ h)
        · simp only [ne_eq, decide_not, Bool.not_eq_true', decide_eq_false_iff_not]
          intro hir
          have hbm : b ∈ A ++ i :: B := by
            rcases List.mem_append.1 hb with h | h
            · exact List.mem_append_left _ h
            · exact List.mem_append_right _ (List.mem_cons_of_mem _ h)
          have hbL : b < L.length := by rw [pl.len]; exact ((ht.mem b).1 hbm).1
          have hLb : L[b]? = some (L.getD b default) := by rw [List.getD_eq_getElem?_getD, List.getElem?_eq_getElem hbL]; rfl
          have := pl.inj b i _ _ r hLb hLi hbr hir
          subst this
          rcases List.mem_append.1 hb with h | h
          · exact hnotA h
          · exact hnotB h
      · obtain ⟨b, hb, hbr⟩ := List.mem_filterMap.1 hr
        have hbm : b ∈ A ++ i :: B := by
          rcases List.mem_append.1 hb with h | h
          · exact List.mem_append_left _ h
          · exact List.mem_append_right _ (List.mem_cons_of_mem _ h)
        have hbL : b < L.length := by rw [pl.len]; exact ((ht.mem b).1 hbm).1
        have hLb : L[b]? = some (L.getD b default) := by rw [List.getD_eq_getElem?_getD, List.getElem?_eq_getElem hbL]; rfl
        exact pl.dest b _ r hLb hbr
end
end Go.AM
