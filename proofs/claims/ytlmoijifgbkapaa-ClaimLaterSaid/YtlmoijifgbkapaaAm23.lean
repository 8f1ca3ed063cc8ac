/-
  The abstract machine, part 23: what a run on the abstract heap comes to, the model's call comes to.
-/
import Derived.Test.YtlmoijifgbkapaaAm22
import Derived.Below
set_option linter.unusedVariables false
set_option linter.unusedSimpArgs false
namespace Go.AM
open Go.RowKit

/-- A flat value that holds no tuple inside stands for itself. -/
def flat' : Nat → Value → Bool
  | n + 1, .agg cs => cs.toList.all fun v => flat' n v && v.oneCell'
  | n + 1, .tuple cs => cs.toList.all (flat' n)
  | _, v => AM.atom v

theorem VRel.of_flat' {σ : Sig} : ∀ (n : Nat) {v : Value}, flat' n v = true → VRel σ v v
  | 0, v, hf => .atom (by cases v <;> simpa [flat'] using hf)
  | n + 1, v, hf => by
    cases v with
    | agg cs =>
      simp only [flat', List.all_eq_true, Bool.and_eq_true] at hf
      exact .agg rfl (fun i h1 h2 => VRel.of_flat' n (hf _ (by simp)).1) (fun i h1 => (hf _ (by simp)).2)
    | tuple cs =>
      simp only [flat', List.all_eq_true] at hf
      exact .tuple rfl (fun i h1 h2 => VRel.of_flat' n (hf _ (by simp)))
    | _ => exact .atom (by simpa [flat'] using hf)

/-- What ties the names that the abstract machine calls to the program. -/
structure EnvOk (P : Program) (E : Env) : Prop where
  tr : ∀ g af, E.tr g = some af → trFunc P E.pure g = some af
  orcFn : ∀ g as v, E.orc g as = some v → ∃ fn, P.funcs[g]? = some fn ∧ fn.body.isSome = true ∧ (fn.name == "runtime.NumGoroutine") = false
  orc : ∀ g as v, E.orc g as = some v → ∀ w, Calls P g as.toArray w fun e w' => e = .returned v ∧ Below w.heap.size w w'
  orcFlat : ∀ g as v, E.orc g as = some v → ∀ σ, VRel σ v v
  mixed : P.follows .mixedOrders = true

theorem VRel.eq_of_atom {σ : Sig} {v v' : Value} (h : VRel σ v v') (ha : AM.atom v = true) : v' = v := by
  cases h with
  | atom _ => rfl
  | func h1 h2 k1 k2 =>
    simp [AM.atom] at ha
    obtain ⟨rfl, rfl⟩ := ha
    simp at h1 h2
    rw [Array.size_eq_zero_iff.1 h1.symm, Array.size_eq_zero_iff.1 h2.symm]
  | tuple h k =>
    simp [AM.atom] at ha
    subst ha
    rw [Array.size_eq_zero_iff.1 h.symm]
  | _ => simp [AM.atom] at ha

theorem VRel.eq_of_flat {σ : Sig} : ∀ (n : Nat) {v v' : Value}, VRel σ v v' → flat n v = true → v' = v
  | 0, v, v', h, hf => h.eq_of_atom (by cases v <;> simpa [flat] using hf)
  | n + 1, v, v', h, hf => by
    have key : ∀ {xs ys : Array Value}, (∀ x ∈ xs, flat n x = true) → xs.size = ys.size → (∀ i (h : i < xs.size) (h' : i < ys.size), VRel σ xs[i] ys[i]) → ys = xs := by
      intro xs ys hall hs k
      apply Array.ext hs.symm
      intro i h1 h2
      exact VRel.eq_of_flat n (k i h2 h1) (hall _ (Array.getElem_mem h2))
    cases h with
    | agg h k o => simp only [flat, List.all_eq_true] at hf; rw [key (fun x hx => hf x (by simpa using hx)) h k]
    | tuple h k => simp only [flat, List.all_eq_true] at hf; rw [key (fun x hx => hf x (by simpa using hx)) h k]
    | atom h => rfl
    | func h1 h2 k1 k2 => exact (VRel.func h1 h2 k1 k2).eq_of_atom (by simpa [flat] using hf)
    | _ => simp [flat, AM.atom] at hf

theorem VRel.flat_self {τ : Sig} : ∀ (n : Nat) {σ : Sig} {v v' : Value}, VRel σ v v' → flat n v = true → VRel τ v v'
  | 0, σ, v, v', h, hf => by
    have ha : AM.atom v = true := by cases v <;> simpa [flat] using hf
    rw [h.eq_of_atom ha]; exact .atom ha
  | n + 1, σ, v, v', h, hf => by
    have at' : AM.atom v = true → VRel τ v v' := fun ha => by rw [h.eq_of_atom ha]; exact .atom ha
    cases h with
    | agg h k o =>
      simp only [flat, List.all_eq_true] at hf
      exact .agg h (fun i h1 h2 => VRel.flat_self n (k i h1 h2) (hf _ (by simp))) o
    | tuple h k =>
      simp only [flat, List.all_eq_true] at hf
      exact .tuple h (fun i h1 h2 => VRel.flat_self n (k i h1 h2) (hf _ (by simp)))
    | atom h => exact .atom h
    | func h1 h2 k1 k2 => exact at' (by simpa [flat] using hf)
    | _ => simp [flat, AM.atom] at hf

section
variable {P : Program} {pf : FuncId → Bool} {W : Nat → Prop} {lim : Nat} {σ : Sig} {H H' : Heap} {w : World}

inductive KRel (P : Program) (pf : FuncId → Bool) : List AItem → List Item → Prop
  | nil : KRel P pf [] []
  | code {c C k K} (h : trCode P pf C = some c) (t : KRel P pf k K) : KRel P pf (.code c :: k) (.code C :: K)
  | inBlock {id k K} (t : KRel P pf k K) : KRel P pf (.inBlock id :: k) (.inBlock id :: K)
  | inLoop {c C k K} (h : trCode P pf C = some c) (t : KRel P pf k K) : KRel P pf (.inLoop c :: k) (.inLoop C :: K)

theorem KRel.exit {id : Nat} {k k' : List AItem} {K : List Item} (h : KRel P pf k K) (he : aExit id k = some k') : ∃ K', exitTo id K = some K' ∧ KRel P pf k' K' := by
  induction h with
  | nil => simp [aExit] at he
  | code h t ih => simp only [aExit] at he; simp only [exitTo]; exact ih he
  | inLoop h t ih => simp only [aExit] at he; simp only [exitTo]; exact ih he
  | inBlock t ih =>
    simp only [aExit] at he
    simp only [exitTo, beq_iff_eq]
    split at he
    · rename_i e; rw [if_pos e]; cases he; exact ⟨_, rfl, t⟩
    · rename_i e; rw [if_neg e]; exact ih he

theorem Inv.pad (h : Inv W lim σ H w) (n : Nat) : Inv W lim σ (H ++ List.replicate n .dead) w := by
  have get : ∀ (j : Nat) b, (H ++ List.replicate n Blk.dead)[j]? = some b → alive b = true → H[j]? = some b := fun j b hb ha => by
    by_cases hj : j < H.length
    · rw [List.getElem?_append_left hj] at hb; exact hb
    · rw [List.getElem?_append_right (by omega), List.getElem?_replicate] at hb
      split at hb
      · cases hb; simp [alive] at ha
      · cases hb
  exact ⟨fun i b hb ha => h.blk i b (get i b hb ha) ha, fun i j bi bj Li Lj hi hj hne ho ha => h.inj i j bi bj Li Lj (get i bi hi (alive_of_owned ho)) (get j bj hj ha) hne ho ha,
    fun i b L hb ho => h.wr i b L (get i b hb (alive_of_owned ho)) ho, h.fresh, fun i hi => h.dom i (by simp at hi; omega)⟩

theorem resVal_sound {fr : Nat → Value} {N : Nat} {a : Act} (hs : State W lim σ N fr H a w) {r : ResultVar} {ar : ARes} (ht : trRes P r = some ar) {v : Value} (hv : resVal fr H ar = some v) :
    ∃ v', (match r with | .tmp t => pure (a.tmps.getD t undef) | .cell b t => do loadVar t (← asAddr (a.tmps.getD b undef)) : Sem Value).run P w = .ok v' w ∧ VRel σ v v' := by
  cases r with
  | tmp t =>
    simp only [trRes] at ht; cases ht
    simp only [resVal] at hv; cases hv
    exact ⟨_, rfl, hs.fr.val t⟩
  | cell b t =>
    simp only [trRes] at ht
    obtain ⟨n, hn, ht⟩ := opt_bind ht
    obtain ⟨ag, hag, ht⟩ := opt_bind ht
    have hb := hs.fr.val b
    cases ag with
    | true =>
      simp at ht; subst ht
      simp only [resVal] at hv
      split at hv
      case h_2 => cases hv
      rename_i p hp
      simp only [Option.map_eq_some_iff] at hv
      obtain ⟨c, hc, rfl⟩ := hv
      rw [hp] at hb
      obtain ⟨L, hL, hsp, h2⟩ := hb.ptr_left
      obtain ⟨v', h3, h4⟩ := loadN_sound (P := P) hs.inv hag hn hL hc
      exact ⟨v', by simp only [h2]; simp [asAddr, h3], h4⟩
    | false =>
      simp at ht; subst ht
      simp only [resVal] at hv
      split at hv
      case h_2 => cases hv
      rename_i p hp
      rw [hp] at hb
      obtain ⟨L, hL, hsp, h2⟩ := hb.ptr_left
      obtain ⟨v', h3, h4⟩ := load1_sound (P := P) hs.inv hag hL hv
      exact ⟨v', by simp only [h2]; simp [asAddr, h3], h4⟩

theorem resAll_sound {fr : Nat → Value} {N : Nat} {a : Act} (hs : State W lim σ N fr H a w) : ∀ {rs : List ResultVar} {ars : List ARes} {vs : List Value}, rs.mapM (trRes P) = some ars → resAll fr H ars = some vs →
    ∃ vs', (rs.mapM (fun r => (match r with | .tmp t => pure (a.tmps.getD t undef) | .cell b t => do loadVar t (← asAddr (a.tmps.getD b undef)) : Sem Value))).run P w = .ok vs' w ∧ LRel σ vs vs'
  | [], ars, vs, h, hv => by
    simp at h; subst h
    simp [resAll] at hv; subst hv
    exact ⟨[], by simp, LRel.nil⟩
  | r :: rs, ars, vs, h, hv => by
    rw [List.mapM_cons] at h
    obtain ⟨b, hb, h⟩ := opt_bind h
    obtain ⟨r', hr', h⟩ := opt_bind h
    cases h
    simp only [resAll] at hv
    split at hv
    case h_2 => cases hv
    rename_i v vs1 h1 h2
    cases hv
    obtain ⟨v', k1, k2⟩ := resVal_sound hs hb h1
    obtain ⟨vs', k3, k4⟩ := resAll_sound hs hr' h2
    refine ⟨v' :: vs', ?_, LRel.cons k2 k4⟩
    rw [List.mapM_cons]
    simp only [Sem.run_bind, k1, k3, Result.andThen_ok, Sem.run_pure]

theorem results_sound {fr : Nat → Value} {N : Nat} {a : Act} (hs : State W lim σ N fr H a w) {fn : Func} {ars : List ARes} (ht : fn.results.toList.mapM (trRes P) = some ars) {v : Value} (hv : result fr H ars = some v) :
    ∃ v', (results fn a.tmps).run P w = .ok v' w ∧ VRel σ v v' := by
  unfold result at hv
  cases hr : resAll fr H ars with
  | none => rw [hr] at hv; cases hv
  | some vs =>
    obtain ⟨vs', k1, k2⟩ := resAll_sound hs ht hr
    rw [hr] at hv
    unfold results
    rw [Array.mapM_eq_mapM_toList]
    simp only [Sem.run_bind, Sem.run_map]
    erw [k1]
    simp only [Result.andThen_ok, Sem.run_pure]
    refine ⟨_, rfl, ?_⟩
    match vs, vs', k2 with
    | [], vs', k2 =>
      have : vs' = [] := by have := k2.1; simp at this; exact List.length_eq_zero_iff.1 this.symm
      subst this
      simp at hv; subst hv
      exact .atom rfl
    | [x], vs', k2 =>
      have hl := k2.1
      match vs', hl, k2 with
      | [y], _, k2 => simp at hv; subst hv; exact k2.head
    | x :: y :: zs, vs', k2 =>
      have hl := k2.1
      match vs', hl, k2 with
      | x' :: y' :: zs', _, k2 =>
        simp at hv; subst hv
        have : ¬ ((x' :: y' :: zs').toArray.size = 1) := by simp
        rw [dif_neg this]
        exact VRel.tuple_iff.2 k2
end
end Go.AM
