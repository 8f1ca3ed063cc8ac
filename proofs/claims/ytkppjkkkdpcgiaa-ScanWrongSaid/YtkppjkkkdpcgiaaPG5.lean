/-
  Joined texts, 5 of 9. A part of the claim that the last text states.
-/
import Derived.Test.YtkppjkkkdpcgiaaPG4
namespace Go.Scan
set_option maxRecDepth 100000
set_option linter.unusedVariables false
set_option linter.unusedSimpArgs false
structure AtOnce (S : List Ev) (c : Int → Int) (t : Ev → Int) : Prop where
  at_ : ∀ s ∈ S, s.at' = t s - c s.scanner
  late : ∀ s ∈ S, t s ≤ s.seen
  once : ∀ s ∈ S, ∃ x ∈ S, keyM x = keyM s ∧ x.seen = t x
def insR (m : Mk) : List Mk → List Mk
  | [] => [m]
  | y :: l => if ltM y m then y :: insR m l else if sameM y m then (if m.off < y.off then { y with off := m.off } else y) :: l else m :: y :: l
theorem insR_lt {m : Mk} : ∀ {l : List Mk}, l.Pairwise ltM → (insR m l).Pairwise ltM ∧ ∀ x ∈ insR m l, sameM x m ∨ ∃ y ∈ l, sameM x y
  | [], _ => by
    unfold insR
    exact ⟨List.pairwise_singleton _ _, fun x hx => by rw [List.mem_singleton] at hx; subst hx; exact .inl ⟨rfl, rfl⟩⟩
  | y :: l, h => by
    obtain ⟨h1, h2⟩ := List.pairwise_cons.mp h
    obtain ⟨i1, i2⟩ := insR_lt (m := m) h2
    unfold insR
    split
    · rename_i hlt
      refine ⟨List.pairwise_cons.mpr ⟨fun x hx => ?_, i1⟩, fun x hx => ?_⟩
      · rcases i2 x hx with q | ⟨z, hz, q⟩
        · exact ltM_same hlt q
        · exact ltM_same (h1 z hz) q
      · rcases List.mem_cons.mp hx with rfl | hx
        · exact .inr ⟨x, List.mem_cons_self, rfl, rfl⟩
        · rcases i2 x hx with q | ⟨z, hz, q⟩
          · exact .inl q
          · exact .inr ⟨z, List.mem_cons_of_mem _ hz, q⟩
    · split
      · rename_i hn hs
        have hy : ∀ z, ltM y z → ltM (if m.off < y.off then { y with off := m.off } else y) z := by
          intro z hz; split
          · exact hz
          · exact hz
        have hy2 : sameM (if m.off < y.off then { y with off := m.off } else y) y := by split <;> exact ⟨rfl, rfl⟩
        refine ⟨List.pairwise_cons.mpr ⟨fun x hx => hy x (h1 x hx), h2⟩, fun x hx => ?_⟩
        rcases List.mem_cons.mp hx with rfl | hx
        · exact .inr ⟨y, List.mem_cons_self, hy2⟩
        · exact .inr ⟨x, List.mem_cons_of_mem _ hx, rfl, rfl⟩
      · rename_i hn hs
        have hmy : ltM m y := by unfold ltM sameM at *; omega
        refine ⟨List.pairwise_cons.mpr ⟨fun x hx => ?_, h⟩, fun x hx => ?_⟩
        · rcases List.mem_cons.mp hx with rfl | hx
          · exact hmy
          · exact ltM_trans hmy (h1 x hx)
        · rcases List.mem_cons.mp hx with rfl | hx
          · exact .inl ⟨rfl, rfl⟩
          · exact .inr ⟨x, hx, rfl, rfl⟩
structure RefOf (V : List Mk) (out : List Mk) : Prop where
  lt : out.Pairwise ltM
  from' : ∀ m ∈ out, m ∈ V
  all : ∀ m ∈ V, ∃ y ∈ out, sameM m y ∧ y.off ≤ m.off
theorem insR_of {m : Mk} : ∀ {l : List Mk}, (∀ x ∈ insR m l, x = m ∨ x ∈ l) ∧ ∀ x, x = m ∨ x ∈ l → ∃ y ∈ insR m l, sameM x y ∧ y.off ≤ x.off
  | [] => by
    unfold insR
    refine ⟨fun x hx => .inl (by simpa using hx), fun x hx => ?_⟩
    rcases hx with rfl | hx
    · exact ⟨x, by simp, ⟨rfl, rfl⟩, Int.le_refl _⟩
    · cases hx
  | y :: l => by
    obtain ⟨i1, i2⟩ := insR_of (m := m) (l := l)
    unfold insR
    split
    · refine ⟨fun x hx => ?_, fun x hx => ?_⟩
      · rcases List.mem_cons.mp hx with rfl | hx
        · exact .inr List.mem_cons_self
        · rcases i1 x hx with q | q
          · exact .inl q
          · exact .inr (List.mem_cons_of_mem _ q)
      · have out : x = m ∨ x ∈ l → ∃ z ∈ y :: insR m l, sameM x z ∧ z.off ≤ x.off := fun q => by
          obtain ⟨z, hz, w⟩ := i2 x q
          exact ⟨z, List.mem_cons_of_mem _ hz, w⟩
        rcases hx with rfl | hx
        · exact out (.inl rfl)
        · rcases List.mem_cons.mp hx with rfl | hx
          · exact ⟨x, List.mem_cons_self, ⟨rfl, rfl⟩, Int.le_refl _⟩
          · exact out (.inr hx)
    · split
      · rename_i hn hs
        refine ⟨fun x hx => ?_, fun x hx => ?_⟩
        · rcases List.mem_cons.mp hx with h | hx
          · split at h
            · left
              subst h
              obtain ⟨a, b, c⟩ := m
              unfold sameM at hs
              simp only at hs ⊢
              rw [hs.1, hs.2]
            · right; rw [h]; exact List.mem_cons_self
          · exact .inr (List.mem_cons_of_mem _ hx)
        · have hd : sameM m (if m.off < y.off then { y with off := m.off } else y) ∧ (if m.off < y.off then { y with off := m.off } else y).off ≤ m.off ∧ sameM y (if m.off < y.off then { y with off := m.off } else y) ∧ (if m.off < y.off then { y with off := m.off } else y).off ≤ y.off := by
            unfold sameM at hs ⊢
            split
            · rename_i hq; exact ⟨⟨hs.1.symm, hs.2.symm⟩, Int.le_refl _, ⟨rfl, rfl⟩, Int.le_of_lt hq⟩
            · exact ⟨⟨hs.1.symm, hs.2.symm⟩, by omega, ⟨rfl, rfl⟩, Int.le_refl _⟩
          rcases hx with rfl | hx
          · exact ⟨_, List.mem_cons_self, hd.1, hd.2.1⟩
          · rcases List.mem_cons.mp hx with rfl | hx
            · exact ⟨_, List.mem_cons_self, hd.2.2.1, hd.2.2.2⟩
            · exact ⟨x, List.mem_cons_of_mem _ hx, ⟨rfl, rfl⟩, Int.le_refl _⟩
      · refine ⟨fun x hx => ?_, fun x hx => ?_⟩
        · rcases List.mem_cons.mp hx with rfl | hx
          · exact .inl rfl
          · exact .inr hx
        · rcases hx with rfl | hx
          · exact ⟨x, List.mem_cons_self, ⟨rfl, rfl⟩, Int.le_refl _⟩
          · exact ⟨x, List.mem_cons_of_mem _ hx, ⟨rfl, rfl⟩, Int.le_refl _⟩
theorem RefOf.add {V out : List Mk} (h : RefOf V out) (m : Mk) : RefOf (V ++ [m]) (insR m out) := by
  obtain ⟨i1, i2⟩ := insR_of (m := m) (l := out)
  refine ⟨(insR_lt h.lt).1, fun x hx => ?_, fun x hx => ?_⟩
  · rcases i1 x hx with rfl | q
    · simp
    · exact List.mem_append_left _ (h.from' x q)
  · rcases List.mem_append.mp hx with hx | hx
    · obtain ⟨y, hy, q1, q2⟩ := h.all x hx
      obtain ⟨z, hz, q3, q4⟩ := i2 y (.inr hy)
      exact ⟨z, hz, by unfold sameM at *; omega, by omega⟩
    · rw [List.mem_singleton] at hx; subst hx
      exact i2 x (.inl rfl)
def befE (a b : Ev) : Prop := lexC (keysE a) (keysE b) < 0
instance (a b : Ev) : Decidable (befE a b) := by unfold befE; infer_instance
def bare (e : Ev) : Ev := { e with time := 0 }
theorem time_in {M : List Mk} {s : Ev} (h : FineE s) : 0 ≤ timeN M s ∧ timeN M s ≤ s.seen := by
  unfold FineE at h; unfold timeN; omega
theorem events_perm (M : List Mk) (S : List Ev) : ((eventsN M S).map bare).Perm (S.map bare) := by
  have h := (sortB_perm keysE (S.map fun s => { s with time := timeN M s })).map bare
  rw [List.map_map] at h
  exact h
theorem events_len (M : List Mk) (S : List Ev) : (eventsN M S).length = S.length := by
  have := (events_perm M S).length_eq
  simpa using this
structure Two (at' w f o : Int) : Prop where
  a1 : 40000 ≤ at'
  a2 : at' ≤ 105535
  w1 : 1 ≤ w
  w2 : w ≤ 65536
  f1 : -32768 ≤ f
  f2 : f ≤ 32767
  o1 : -32768 ≤ o
  o2 : o ≤ 32767
  dr : -w ≤ o - f
end Go.Scan

