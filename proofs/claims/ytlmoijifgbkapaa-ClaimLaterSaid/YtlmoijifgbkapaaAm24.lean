/-
  The abstract machine, part 24: whole functions: a run on the abstract heap that ends tells what the model's call comes to.
-/
import Derived.Test.YtlmoijifgbkapaaAm23
set_option linter.unusedVariables false
set_option linter.unusedSimpArgs false
namespace Go.AM
open Go.RowKit

section
variable {P : Program} {E : Env} {W : Nat → Prop} {lim : Nat} {σ : Sig} {H H' : Heap} {w : World}

theorem region_plain {C : CallF} (hC : CallOk P C) {pf : FuncId → Bool} {id : Nat} {ops : Array Oper} {l : List AIns} (hl : ops.toList.mapM (trIns P pf false ops) = some l) {N : Nat} {fr fr' : Nat → Value} {a : Act}
    (hs : State W lim σ N fr H a w) (hx : dOps C N lim none l fr H = some (fr', H')) : (Code.region id ops false).wp P (RegPost W lim σ N fr' H H' w) a w := by
  refine wp_region ?_
  rw [List.range_eq_range']
  exact plain_region hC fr' H' W lim σ H w (fun a w1 σ1 q1 q2 q3 q4 q5 q6 => ⟨rfl, σ1, q1, q2, q3, q4, q5, q6⟩) hl ops.size 0 fr H a w σ (by simp) hs (Stp.refl _ _) (Sig.le_refl _) (Grow.refl _ _) (fun j hj => absurd rfl hj) (Nat.le_refl _) (by simpa using hx)

theorem Todo.start (ops : Array Oper) : Todo ops (Array.replicate ops.size false) (List.range ops.size) := by
  refine ⟨fun i => ?_, List.pairwise_lt_range, by simp, fun i o ho hl => ?_⟩
  · rw [List.mem_range]
    constructor
    · intro hi
      refine ⟨hi, ?_⟩
      rw [Array.getD_eq_getD_getElem?, Array.getElem?_eq_getElem (by simpa using hi)]
      simp
    · exact fun h => h.1
  · exfalso
    rw [Array.getD_eq_getD_getElem?, Array.getElem?_replicate] at hl
    split at hl <;> simp at hl

theorem region_drawn {C : CallF} (hC : CallOk P C) {pf : FuncId → Bool} (hm : P.follows .mixedOrders = true) {id : Nat} {ops : Array Oper} {n : Nat} {L : List AIns} (hl : trDrawn P pf ops = some (.drawn n L)) {N : Nat} {fr fr' : Nat → Value} {a : Act}
    (hs : State W lim σ N fr H a w) (hx : dOps C N lim (some H.length) L fr (H ++ List.replicate n .dead) = some (fr', H')) : (Code.region id ops true).wp P (fun e a' w' => e = .normal ∧ ∃ σ', State W lim σ' N fr' H' a' w' ∧ Stp W w w' ∧ Sig.le σ σ' ∧ (∀ j, σ' j ≠ σ j → H.length ≤ j)) a w := by
  refine wp_region_any hm ?_
  have pl := drawn_plan hl
  have hs' : State W lim σ N fr (H ++ List.replicate n .dead) a w.drew := ⟨hs.fr, (hs.inv.pad n).drew, by have := hs.lim; simp; omega⟩
  refine drawn_any hC pl fr' H' W lim hs.lim σ (H ++ List.replicate n .dead) w.drew (fun a w1 σ1 q1 q2 q3 q4 q5 q6 => ⟨rfl, σ1, q1, Stp.drew.trans q2, q3, q5⟩) ops.size _ (List.range ops.size) fr _ a w.drew σ (by simp) (Todo.start ops) hs' (Stp.refl _ _) (Sig.le_refl _) (Grow.refl _ _)
    (fun j hj => absurd rfl hj) (Nat.le_refl _) ⟨by simp, fun r hr b hb ha => ?_, fun r hr => hs.inv.dom _ (by omega), fun r hr => ?_⟩ ?_
  · rw [List.getElem?_append_right (by omega), List.getElem?_replicate] at hb
    split at hb
    · cases hb; simp [alive] at ha
    · cases hb
  · obtain ⟨b, hb, hbr⟩ := List.mem_filterMap.1 hr
    have hbL : b < L.length := by rw [pl.len]; exact List.mem_range.1 hb
    exact pl.dest b _ r (by rw [List.getD_eq_getElem?_getD, List.getElem?_eq_getElem hbL]; rfl) hbr
  · have : (List.range ops.size).map (fun i => L.getD i default) = L := by
      apply List.ext_getElem
      · simp [pl.len]
      · intro i h1 h2
        simp [List.getD_eq_getElem?_getD, List.getElem?_eq_getElem h2]
    rw [this]
    exact hx

/-- What a run has come to. -/
def RunPost (P : Program) (W : Nat → Prop) (lim : Nat) (σ : Sig) (af : AFunc) (v : Value) (H H' : Heap) (w : World) (b : Frame) (K : List Item) (cs : List Frame) (a : Act) : Prop :=
  ∃ a' w' σ' fr' todo, Steps P (lone (b.at a K) cs w) (lone { b.at a' todo with mode := .returning } cs w') ∧ State W lim σ' af.ntmps fr' H' a' w' ∧ result fr' H' af.results = some v ∧ Stp W w w' ∧ Sig.le σ σ' ∧ ∀ j, σ' j ≠ σ j → H.length ≤ j

theorem RunPost.step {af : AFunc} {v : Value} {b : Frame} {K K1 : List Item} {cs : List Frame} {a : Act} (h : step P (lone (b.at a K) cs w) = .next (lone (b.at a K1) cs w)) (k : RunPost P W lim σ af v H H' w b K1 cs a) : RunPost P W lim σ af v H H' w b K cs a := by
  obtain ⟨a', w', σ', fr', todo, h1, h2⟩ := k
  exact ⟨a', w', σ', fr', todo, Steps.head h h1, h2⟩
theorem RunPost.steps {af : AFunc} {v : Value} {b : Frame} {K K1 : List Item} {cs : List Frame} {a a1 : Act} {w1 : World} {σ1 : Sig} {H1 : Heap} (h : Steps P (lone (b.at a K) cs w) (lone (b.at a1 K1) cs w1)) (hst : Stp W w w1) (hle : Sig.le σ σ1) (hd : ∀ j, σ1 j ≠ σ j → H.length ≤ j) (hH : H.length ≤ H1.length)
    (k : RunPost P W lim σ1 af v H1 H' w1 b K1 cs a1) : RunPost P W lim σ af v H H' w b K cs a := by
  obtain ⟨a', w', σ', fr', todo, h1, h2, h3, h4, h5, h6⟩ := k
  refine ⟨a', w', σ', fr', todo, Steps.trans h h1, h2, h3, hst.trans h4, Sig.le_trans hle h5, fun j hj => ?_⟩
  apply Classical.byContradiction
  intro hc
  have e1 : σ1 j = σ j := Classical.byContradiction fun e => hc (hd j e)
  have := h6 j (fun e => hj (e.trans e1))
  omega

theorem run_sound (hE : EnvOk P E) (n : Nat) (hC : ∀ m, m < n → CallOk P (aCall E m)) : ∀ (m : Nat), m ≤ n → ∀ {af : AFunc} {k : List AItem} {fr : Nat → Value} {σ : Sig} {H H' : Heap} {w : World} {v : Value} {K : List Item} {a : Act} (b : Frame) (cs : List Frame), aRun E m af lim k fr H = some (v, H') → KRel P E.pure k K → State W lim σ af.ntmps fr H a w →
      RunPost P W lim σ af v H H' w b K cs a := by
  intro m
  induction m using Nat.strongRecOn with
  | ind m ih =>
  intro hm af k fr σ H H' w v K a b cs hx hK hs
  cases m with
  | zero => simp [aRun] at hx
  | succ m =>
  have ih' : ∀ {k : List AItem} {K : List Item}, aRun E m af lim k fr H = some (v, H') → KRel P E.pure k K → RunPost P W lim σ af v H H' w b K cs a := fun hx hK => ih m (by omega) (by omega) b cs hx hK hs
  have fin : ∀ {todo : List Item}, Steps P (lone (b.at a K) cs w) (lone { b.at a todo with mode := .returning } cs w) → (result fr H af.results).map (·, H) = some (v, H') → RunPost P W lim σ af v H H' w b K cs a := fun hst h => by
    simp only [Option.map_eq_some_iff, Prod.mk.injEq] at h
    obtain ⟨_, h1, rfl, rfl⟩ := h
    exact ⟨a, w, σ, fr, _, hst, hs, h1, Stp.refl _ _, Sig.le_refl _, fun j hj => absurd rfl hj⟩
  rw [aRun.eq_def] at hx
  simp only at hx
  cases hK with
  | nil => exact fin (.one step_end) hx
  | inBlock t => exact RunPost.step step_inBlock (ih' hx t)
  | inLoop h t => exact RunPost.step step_inLoop (ih' hx (.code h (.inLoop h t)))
  | @code c C k K h t =>
    cases C <;> simp only [trCode] at h <;> try (cases h; done)
    case skip => cases h; exact RunPost.step step_skip (ih' hx t)
    case region id ops draw =>
      cases draw with
      | false =>
        simp only [Bool.false_eq_true, if_false] at h
        obtain ⟨l, hl, h⟩ := opt_bind h
        cases h
        simp only at hx
        obtain ⟨m1, fr1, H1, h1, h2, h3⟩ := ops_split E l m af lim none k fr H _ hx
        have hCm := hC (m - 1) (by omega)
        obtain ⟨e, a1, w1, hq, harr⟩ := region_plain hCm (id := id) hl hs h2 b K cs
        obtain ⟨rfl, σ1, q1, q2, q3, q4, q5, q6⟩ := hq
        exact RunPost.steps harr q2 q3 q5 q6 (ih m1 (by omega) (by omega) b cs h3 t q1)
      | true =>
        simp only [if_true] at h
        have hc : ∃ n L, c = .drawn n L := by
          unfold trDrawn at h
          obtain ⟨l, hl, h⟩ := opt_bind h
          simp only at h
          split at h
          · cases h; exact ⟨_, _, rfl⟩
          · cases h
        obtain ⟨nn, L, rfl⟩ := hc
        simp only at hx
        obtain ⟨m1, fr1, H1, h1, h2, h3⟩ := ops_split E L m af lim (some H.length) k fr _ _ hx
        have hCm := hC (m - 1) (by omega)
        obtain ⟨e, a1, w1, hq, harr⟩ := region_drawn hCm hE.mixed (id := id) h hs h2 b K cs
        obtain ⟨rfl, σ1, q1, q2, q3, q5⟩ := hq
        have hlen : H.length ≤ H1.length := by
          have key : ∀ (l : List AIns) (fr fr1 : Nat → Value) (H0 H1 : Heap), lim ≤ H0.length → dOps (aCall E (m - 1)) af.ntmps lim (some H.length) l fr H0 = some (fr1, H1) → H0.length ≤ H1.length := by
            intro l
            induction l with
            | nil => intro fr fr1 H0 H1 _ hx; simp [dOps] at hx; rw [hx.2]; exact Nat.le_refl _
            | cons i l ih =>
              intro fr fr1 H0 H1 hl hx
              obtain ⟨f2, H2, g1, g2⟩ := dOps_cons hx
              have hg : CallGrow (aCall E (m - 1)) := fun mp lim g as H v H' hc hl => ⟨hCm.len _ _ _ _ _ _ _ hc hl, hCm.grow _ _ _ _ _ _ _ hc hl⟩
              obtain ⟨g3, _⟩ := insOp_grow hg g1 (fun b e => by cases e; exact hs.lim) hl
              have := ih _ _ _ _ (by omega) g2
              omega
          have := key L fr fr1 _ H1 (by have := hs.lim; simp; omega) h2
          simp at this
          omega
        exact RunPost.steps harr q2 q3 q5 hlen (ih m1 (by omega) (by omega) b cs h3 t q1)
    case seq x y =>
      obtain ⟨x', hx', h⟩ := opt_bind h
      obtain ⟨y', hy', h⟩ := opt_bind h
      cases h
      exact RunPost.step step_seq (ih' hx (.code hx' (.code hy' t)))
    case cond o x y =>
      split at h
      case isFalse => cases h
      rename_i hok
      obtain ⟨x', hx', h⟩ := opt_bind h
      obtain ⟨y', hy', h⟩ := opt_bind h
      cases h
      have hev := hs.fr.ev hok
      simp only at hx
      cases he : ev fr o <;> rw [he] at hx hev <;> (try (cases hx; done))
      rename_i t'
      have hb := hev.bool_left
      cases t' with
      | true => exact RunPost.step (step_cond hb) (ih' hx (.code hx' t))
      | false => exact RunPost.step (step_cond hb) (ih' hx (.code hy' t))
    case block id x =>
      obtain ⟨x', hx', h⟩ := opt_bind h
      cases h
      exact RunPost.step step_block (ih' hx (.code hx' (.inBlock t)))
    case loop x =>
      obtain ⟨x', hx', h⟩ := opt_bind h
      cases h
      exact RunPost.step step_loop (ih' hx (.code hx' (.inLoop hx' t)))
    case exit id =>
      cases h
      simp only at hx
      split at hx
      case h_2 => cases hx
      rename_i k' hk'
      obtain ⟨K', h1, h2⟩ := t.exit hk'
      exact RunPost.step (step_exit h1) (ih' hx h2)
    case ret => cases h; exact fin (.one step_ret) hx

theorem frame0_rel {as as' : List Value} (h : LRel σ as as') (fn : Func) : FrRel σ fn.ntmps (frame0 as) { tmps := as'.toArray ++ Array.replicate (fn.ntmps - as'.toArray.size) undef, defers := [] } := by
  refine ⟨by simp; omega, rfl, fun t => ?_⟩
  unfold frame0
  rw [Array.getD_eq_getD_getElem?, List.getD_eq_getElem?_getD]
  by_cases ht : t < as.length
  · have ht' : t < as'.length := by rw [← h.1]; exact ht
    rw [Array.getElem?_append_left (by simpa using ht'), List.getElem?_eq_getElem ht]
    simp only [List.getElem?_toArray, List.getElem?_eq_getElem ht', Option.getD_some]
    exact h.2 t _ _ (List.getElem?_eq_getElem ht) (List.getElem?_eq_getElem ht')
  · have ht' : as'.toArray.size ≤ t := by simp [← h.1]; omega
    rw [List.getElem?_eq_none (by omega), Array.getElem?_append_right ht', Array.getElem?_replicate]
    have hu : VRel σ undef undef := .atom rfl
    split <;> exact hu

theorem call_sound (hE : EnvOk P E) (n : Nat) (hC : ∀ m, m < n → CallOk P (aCall E m)) {g : FuncId} {af : AFunc} (ht : trFunc P E.pure g = some af) {as as' : List Value} {v : Value} (hx : aRun E n af lim [.code af.body] (frame0 as) H = some (v, H')) (hl : lim ≤ H.length)
    (hinv : Inv W lim σ H w) (ha : LRel σ as as') : Calls P g as'.toArray w (CallPost W lim σ H v H' w) := by
  unfold trFunc at ht
  obtain ⟨fn, hfn, ht⟩ := opt_bind ht
  obtain ⟨body, hb, ht⟩ := opt_bind ht
  obtain ⟨c, hc, ht⟩ := opt_bind ht
  obtain ⟨rs, hrs, ht⟩ := opt_bind ht
  split at ht
  · cases ht
  cases ht
  intro cs
  let b : Frame := { (default : Frame) with fn := g, kind := .normal }
  have henter : Frame.enter P g as'.toArray .normal = b.at { tmps := as'.toArray ++ Array.replicate (fn.ntmps - as'.toArray.size) undef, defers := [] } [.code body] := by
    simp [Frame.enter, Frame.at, hfn, hb, b]
  have hst : State W lim σ fn.ntmps (frame0 as) H { tmps := as'.toArray ++ Array.replicate (fn.ntmps - as'.toArray.size) undef, defers := [] } w := ⟨frame0_rel ha fn, hinv, hl⟩
  obtain ⟨a', w', σ', fr', todo, h1, h2, h3, h4, h5, h6⟩ := run_sound (W := W) hE n hC n (Nat.le_refl _) b cs hx (.code hc .nil) hst
  obtain ⟨v', h7, h8⟩ := results_sound h2 hrs h3
  rw [← henter] at h1
  exact ⟨.returned v', w', _, ⟨v', σ', rfl, h8, h2.inv, h4, h5, h6⟩, h1, rfl, rfl, h2.fr.defers, rfl, fn, hfn, h7⟩

theorem callOk (hE : EnvOk P E) : ∀ n, CallOk P (aCall E n) := by
  intro n
  induction n using Nat.strongRecOn with
  | ind n ih =>
  have hgrow : CallGrow (aCall E n) := callWith_grow fun af lim as H v H' hx hl => aRun_grow E n af lim _ _ _ _ _ (fun x hx b l e => by simp at hx; subst hx; cases e) hx hl
  have inv : ∀ {mp lim g as H v H'}, aCall E n mp lim g as H = some (v, H') →
      (E.orc g as = some v ∧ H' = H ∧ as.all atom = true ∧ flat 4 v = true) ∨
      (∃ af, E.tr g = some af ∧ ((E.pure g = true ∧ H' = H ∧ flat 4 v = true ∧ ∃ H1, aRun E n af H.length [.code af.body] (frame0 as) H = some (v, H1)) ∨ (mp = false ∧ aRun E n af lim [.code af.body] (frame0 as) H = some (v, H')))) := by
    intro mp lim g as H v H' h
    unfold aCall callWith at h
    split at h
    · rename_i u hu
      split at h
      · rename_i hf
        cases h
        simp only [Bool.and_eq_true] at hf
        exact .inl ⟨hu, rfl, hf.1, hf.2⟩
      · cases h
    · split at h
      · cases h
      · rename_i af haf
        right
        refine ⟨af, haf, ?_⟩
        split at h
        · rename_i hp
          split at h
          · rename_i u H1 h1
            split at h
            · rename_i hf
              cases h
              exact .inl ⟨hp, rfl, hf, H1, h1⟩
            · cases h
          · cases h
        · split at h
          · cases h
          · rename_i hmp
            exact .inr ⟨by simpa using hmp, h⟩
  have trOk : ∀ {g af}, E.tr g = some af → ∃ fn, P.funcs[g]? = some fn ∧ fn.body.isSome = true ∧ (fn.name == "runtime.NumGoroutine") = false := by
    intro g af h
    have ht := hE.tr g af h
    unfold trFunc at ht
    obtain ⟨fn, hfn, ht⟩ := opt_bind ht
    obtain ⟨body, hb, ht⟩ := opt_bind ht
    obtain ⟨c, hc, ht⟩ := opt_bind ht
    obtain ⟨rs, hrs, ht⟩ := opt_bind ht
    split at ht
    · cases ht
    · rename_i hn
      exact ⟨fn, hfn, by rw [hb]; rfl, by simpa using hn⟩
  refine { pure := ?_, len := ?_, fn := ?_, calls := ?_, grow := ?_ }
  · intro lim g as H v H' h
    rcases inv h with ⟨_, e, _⟩ | ⟨af, _, ⟨_, e, _⟩ | ⟨e, _⟩⟩
    · exact e
    · exact e
    · cases e
  · exact fun mp lim g as H v H' h hl => (hgrow mp lim g as H v H' h hl).1
  · intro mp lim g as H v H' h
    rcases inv h with ⟨e, _⟩ | ⟨af, e, _⟩
    · exact hE.orcFn _ _ _ e
    · exact trOk e
  · intro mp lim g as H v H' h hl W σ w as' hinv ha
    rcases inv h with ⟨e, rfl, hat, hfl⟩ | ⟨af, e, ⟨hp, rfl, hfl, H1, hx⟩ | ⟨_, hx⟩⟩
    · have heq : as' = as := by
        apply List.ext_getElem ha.1.symm
        intro i h1 h2
        exact (ha.2 i _ _ (List.getElem?_eq_getElem h2) (List.getElem?_eq_getElem h1)).eq_of_atom (List.all_eq_true.1 hat _ (by simp))
      subst heq
      refine (hE.orc _ _ _ e w).mono fun en w' hp => ?_
      obtain ⟨rfl, hb⟩ := hp
      refine ⟨v, σ, rfl, ?_, hinv.world hb.size (fun k hk => hb.block k hk), ⟨hb.os, hb.tape, hb.output, hb.size, fun k hk => hb.block k ?_⟩, Sig.le_refl _, fun j hj => absurd rfl hj⟩
      · exact hE.orcFlat _ _ _ e σ
      · rcases Nat.lt_or_ge k w.heap.size with h | h
        · exact h
        · exact absurd (hinv.fresh k h) hk
    · have hinv' : Inv (fun k => w.heap.size ≤ k) H'.length σ H' w := ⟨hinv.blk, hinv.inj, fun i b L hb ho hli hL => by
        have := (List.getElem?_eq_some_iff.1 hb).1
        omega, fun b hb => hb, hinv.dom⟩
      refine (call_sound hE n ih (hE.tr _ _ e) hx (Nat.le_refl _) hinv' ha).mono fun en w' hp => ?_
      obtain ⟨v', σ', rfl, h1, h2, h3, h4, h5⟩ := hp
      have hsm : ∀ k, k < w.heap.size → w'.heap[k]? = w.heap[k]? := fun k hk => h3.block k (by omega)
      refine ⟨v', σ, rfl, h1.flat_self 4 hfl, hinv.world h3.size hsm, ⟨h3.os, h3.tape, h3.output, h3.size, fun k hk => hsm k ?_⟩, Sig.le_refl _, fun j hj => absurd rfl hj⟩
      rcases Nat.lt_or_ge k w.heap.size with h | h
      · exact h
      · exact absurd (hinv.fresh k h) hk
    · exact call_sound hE n ih (hE.tr _ _ e) hx hl hinv ha
  · exact fun mp lim g as H v H' h hl => (hgrow mp lim g as H v H' h hl).2

/-- THE END: a run of a function that is not called from elsewhere. -/
theorem calls_of_run (hE : EnvOk P E) {g : FuncId} {af : AFunc} (ht : trFunc P E.pure g = some af) {n : Nat} {as as' : List Value} {v : Value} (hx : aRun E n af lim [.code af.body] (frame0 as) H = some (v, H')) (hl : lim ≤ H.length)
    (hinv : Inv W lim σ H w) (ha : LRel σ as as') : Calls P g as'.toArray w (CallPost W lim σ H v H' w) :=
  call_sound hE n (fun m _ => callOk hE m) ht hx hl hinv ha

theorem Inv.nil (w : World) : Inv (fun k => w.heap.size ≤ k) 0 (fun _ => none) [] w :=
  ⟨fun i b hb => by simp at hb, fun i j bi bj Li Lj hb => by simp at hb, fun i b L hb => by simp at hb, fun b hb => hb, fun _ _ => rfl⟩
end
end Go.AM
