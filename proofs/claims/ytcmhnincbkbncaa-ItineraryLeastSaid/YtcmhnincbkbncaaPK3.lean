/-
  Joined texts, 3 of 7. A part of the claim that the last text states.
-/
import Derived.Sort.AssemblyPlain
import Derived.Test.YtcmhnincbkbncaaPK2
set_option linter.unusedVariables false
set_option linter.unusedSimpArgs false
namespace Go.AM
open Go.RowKit
section
variable {P : Program} {E : Env} {W : Nat → Prop} {lim : Nat} {σ : Sig} {H H' : Heap} {w : World} {ds : List Deferred} {ro : Option Nat}
theorem region_plain {C : CallF} (hC : CallOk (Prg.mk P (Env.pure E)) C) {pf : FuncId → Bool} {id : Nat} {ops : Array Oper} {l : List AIns} (hl : ops.toList.mapM (trIns P pf false ops) = some l) {N : Nat} {fr fr' : Nat → Value} {a : Act}
    (hs : State (Prg.mk P (Env.pure E)) ds W lim σ N fr H a w) (hx : dOps C N lim none l fr H = some (fr', H')) : (Code.region id ops false).wpIn (WF ro) 0 P (RegPost (Prg.mk P (Env.pure E)) ds W lim σ N fr' H H' w) a w := by
  refine wpIn_region ?_
  rw [List.range_eq_range']
  exact plain_region hC fr' H' W lim σ H w (fun a w1 σ1 q1 q2 q3 q4 q5 q6 => ⟨rfl, σ1, q1, q2, q3, q4, q5, q6⟩) hl ops.size 0 fr H a w σ (by simp) hs (Stp.refl _ _) (Sig.le_refl _) (Grow.refl _ _) (fun j hj => absurd rfl hj) (Nat.le_refl _) (by simpa using hx)
theorem Todo.start {ops : Array Oper} {ord : List Nat} (hm : ∀ i, i ∈ ord ↔ i < ops.size) : Todo ops ord (Array.replicate ops.size false) ord := by
  refine ⟨fun i => ?_, List.Sublist.refl _, by simp, fun i o ho hl => ?_⟩
  · rw [hm]
    constructor
    · intro hi
      refine ⟨hi, ?_⟩
      rw [Array.getD_eq_getD_getElem?, Array.getElem?_eq_getElem (by simpa using hi)]
      simp
    · exact fun h => h.1
  · exfalso
    rw [Array.getD_eq_getD_getElem?, Array.getElem?_replicate] at hl
    split at hl <;> simp at hl
theorem region_drawn {C : CallF} (hC : CallOk (Prg.mk P (Env.pure E)) C) {pf : FuncId → Bool} (hm : P.follows .mixedOrders = true) {id : Nat} {ops : Array Oper} {n : Nat} {L : List AIns} (hl : trDrawn P pf ops = some (.drawn n L)) {N : Nat} {fr fr' : Nat → Value} {a : Act}
    (hs : State (Prg.mk P (Env.pure E)) ds W lim σ N fr H a w) (hx : dOps C N lim (some H.length) L fr (H ++ List.replicate n .dead) = some (fr', H')) : (Code.region id ops true).wpIn (WF ro) 0 P (fun e a' w' => e = .normal ∧ ∃ σ', State (Prg.mk P (Env.pure E)) ds W lim σ' N fr' H' a' w' ∧ Stp W w w' ∧ Sig.le σ σ' ∧ (∀ j, σ' j ≠ σ j → H.length ≤ j)) a w := by
  refine wpIn_region_any hm ?_
  obtain ⟨ord, L0, pl, rfl⟩ := drawn_plan hl
  have hlen : ord.length = ops.size := by
    have h1 : ord.Perm (List.range ops.size) := (List.perm_ext_iff_of_nodup pl.nodup List.nodup_range).2 fun i => by rw [pl.mem, List.mem_range]
    rw [h1.length_eq, List.length_range]
  have hs' : State (Prg.mk P (Env.pure E)) ds W lim σ N fr (H ++ List.replicate n .dead) a w.drew := ⟨hs.fr, (hs.inv.pad n).drew, by have := hs.lim; simp; omega⟩
  refine drawn_any hC pl fr' H' W lim hs.lim σ (H ++ List.replicate n .dead) w.drew (fun a w1 σ1 q1 q2 q3 q4 q5 q6 => ⟨rfl, σ1, q1, Stp.drew.trans q2, q3, q5⟩) ops.size _ ord fr _ a w.drew σ hlen (Todo.start pl.mem) hs' (Stp.refl _ _) (Sig.le_refl _) (Grow.refl _ _)
    (fun j hj => absurd rfl hj) (Nat.le_refl _) ⟨by simp, fun r hr b hb ha => ?_, fun r hr => hs.inv.dom _ (by omega), fun r hr => ?_⟩ ?_
  · rw [List.getElem?_append_right (by omega), List.getElem?_replicate] at hb
    split at hb
    · cases hb; simp [alive] at ha
    · cases hb
  · obtain ⟨b, hb, hbr⟩ := List.mem_filterMap.1 hr
    have hbL : b < L0.length := by rw [pl.len]; exact (pl.mem b).1 hb
    exact pl.dest b _ r (by rw [List.getD_eq_getElem?_getD, List.getElem?_eq_getElem hbL]; rfl) hbr
  · exact hx
def Fin (P : Program) (md : Md) (b : Frame) (cs : List Frame) (m : Machine) (v' : Value) (w' : World) : Prop :=
  match md with
  | .r _ => ∃ c cs', cs = c :: cs' ∧ m = lone (c.finish v') cs' w'
  | _ => ∃ fr, m = lone fr cs w' ∧ fr.fn = b.fn ∧ fr.leaving P w' (.returned v')
def RunPost (P : Program) (pf : FuncId → Bool) (W : Nat → Prop) (lim : Nat) (σ : Sig) (md : Md) (v : Value) (H H' : Heap) (w : World) (b : Frame) (K : List Item) (cs : List Frame) (a : Act) : Prop :=
  ∃ m v' w' σ', Steps P (lone (b.atR a K) cs w) m ∧ Fin P md b cs m v' w' ∧ VRel σ' v v' ∧ Inv (Prg.mk P pf) W lim σ' H' w' ∧ Stp W w w' ∧ Sig.le σ σ' ∧ ∀ j, σ' j ≠ σ j → H.length ≤ j
theorem RunPost.step {pf : FuncId → Bool} {md : Md} {v : Value} {b : Frame} {K K1 : List Item} {cs : List Frame} {a : Act} (h : step P (lone (b.atR a K) cs w) = .next (lone (b.atR a K1) cs w)) (k : RunPost P pf W lim σ md v H H' w b K1 cs a) : RunPost P pf W lim σ md v H H' w b K cs a := by
  obtain ⟨a', w', σ', fr', h1, h2⟩ := k
  exact ⟨a', w', σ', fr', Steps.head h h1, h2⟩
theorem RunPost.steps {pf : FuncId → Bool} {md : Md} {v : Value} {b : Frame} {K K1 : List Item} {cs : List Frame} {a a1 : Act} {w1 : World} {σ1 : Sig} {H1 : Heap} (h : Steps P (lone (b.atR a K) cs w) (lone (b.atR a1 K1) cs w1)) (hst : Stp W w w1) (hle : Sig.le σ σ1) (hd : ∀ j, σ1 j ≠ σ j → H.length ≤ j) (hH : H.length ≤ H1.length)
    (k : RunPost P pf W lim σ1 md v H1 H' w1 b K1 cs a1) : RunPost P pf W lim σ md v H H' w b K cs a := by
  obtain ⟨m, v', w', σ', h1, h2, h3, h4, h5, h6, h7⟩ := k
  refine ⟨m, v', w', σ', Steps.trans h h1, h2, h3, h4, hst.trans h5, Sig.le_trans hle h6, fun j hj => ?_⟩
  apply Classical.byContradiction
  intro hc
  have e1 : σ1 j = σ j := Classical.byContradiction fun e => hc (hd j e)
  have := h7 j (fun e => hj (e.trans e1))
  omega
def Cx (P : Program) (σ : Sig) (md : Md) (af : AFunc) (b : Frame) (cs : List Frame) : Prop :=
  b.kind = .normal ∧ match md with
  | .r i => ∃ L c cs', b.roundOf = some L.blk ∧ σ i = some L ∧ cs = c :: cs'
  | _ => b.roundOf = none ∧ ∃ fn, P.funcs[b.fn]? = some fn ∧ fn.results.toList.mapM (trRes P) = some af.results
theorem Cx.mono {σ τ : Sig} (hle : Sig.le σ τ) {md : Md} {af : AFunc} {b : Frame} {cs : List Frame} (h : Cx P σ md af b cs) : Cx P τ md af b cs := by
  refine ⟨h.1, ?_⟩
  have h2 := h.2
  cases md with
  | r i => obtain ⟨L, c, cs', g1, g2, g3⟩ := h2; exact ⟨L, c, cs', g1, hle _ _ g2, g3⟩
  | _ => exact h2
theorem Inv.enterLoop (h : Inv (Prg.mk P (Env.pure E)) W lim σ H w) {x : LoopB} {lp : Loop} (hx : LoopRel (Prg.mk P (Env.pure E)) σ x lp) :
    ∃ σ', Inv (Prg.mk P (Env.pure E)) W lim σ' (H ++ [.dfr, .loop x]) ((w.alloc (.deferred (some []))).alloc (.loop lp)) ∧ Sig.le σ σ' ∧ σ' H.length = some ⟨w.heap.size, 0, 0⟩ ∧ σ' (H.length + 1) = some ⟨w.heap.size + 1, 0, 0⟩ ∧ ∀ j, σ' j ≠ σ j → H.length ≤ j := by
  have step1 : ∀ {H : Heap} {w : World} {σ : Sig} (h : Inv (Prg.mk P (Env.pure E)) W lim σ H w) {b : Blk} {o : Obj}, owned b = true → BlkRel (Prg.mk P (Env.pure E)) (σ.put H.length ⟨w.heap.size, 0, 0⟩) (w.alloc o) ⟨w.heap.size, 0, 0⟩ b → Inv (Prg.mk P (Env.pure E)) W lim (σ.put H.length ⟨w.heap.size, 0, 0⟩) (H ++ [b]) (w.alloc o) := by
    intro H w σ h b o ho hb
    have hw : Inv (Prg.mk P (Env.pure E)) W lim σ H (w.alloc o) := h.world (by simp) fun b hb => by rw [heap_push, Array.getElem?_push]; rw [if_neg (by omega)]
    obtain ⟨g1, g2, g3, g4, g5, g6, g7⟩ := place_get (dest := none) (b := b) (H := H) (show place none b H = (H.length, H ++ [b]) from rfl) (fun d e => by cases e)
    refine hw.adopt g1 g2 g4 (h.dom _ (Nat.le_refl _)) hb ho (h.fresh _ (Nat.le_refl _)) fun j bj Lj hji hbj ha hLj e => ?_
    obtain ⟨L', h1, h2⟩ := h.blk j bj hbj ha
    rw [hLj] at h1; cases h1
    have := h2.lt ha
    simp at e
    omega
  have i1 := step1 h (b := .dfr) (o := .deferred (some [])) rfl (by show (w.alloc _).heap[_]? = _; simp [heap_push])
  have hle1 : Sig.le σ (σ.put H.length ⟨w.heap.size, 0, 0⟩) := Sig.le_put (h.dom _ (Nat.le_refl _))
  have hd1 := i1.dom (H.length + 1) (by simp)
  have hle2 := Sig.le_put (L := ⟨w.heap.size + 1, 0, 0⟩) hd1
  have i2 := step1 i1 (b := .loop x) (o := .loop lp) rfl (by
    refine ⟨lp, World.alloc_heap_new _ _, ?_⟩
    simp only [List.length_append, List.length_cons, List.length_nil, World.size_alloc] at hle2 ⊢
    exact (hx.mono hle1).mono hle2)
  simp only [List.length_append, List.length_cons, List.length_nil, World.size_alloc, List.append_assoc, List.cons_append, List.nil_append] at i2
  refine ⟨_, i2, Sig.le_trans hle1 hle2, ?_, Sig.put_same, fun j hj => ?_⟩
  · simp [Sig.put]
  · apply Classical.byContradiction
    intro hc
    refine hj ?_
    simp only [Sig.put]
    rw [if_neg (by omega), if_neg (by omega)]
theorem run_sound (hE : EnvOk P E) (n : Nat) (hC : ∀ m, m < n → CallOk (Prg.mk P (Env.pure E)) (aCall E m)) : ∀ (m : Nat), m ≤ n → ∀ {md : Md} {ms : List Nat} {ds : List Deferred} {af : AFunc} {k : List AItem} {fr : Nat → Value} {σ : Sig} {H H' : Heap} {w : World} {v : Value} {K : List Item} {a : Act} (b : Frame) (cs : List Frame),
      aRun E m af lim k fr H = some (v, H') → KRel P E.pure md ms k K → (md = .n → ms = []) → DsRel lim σ ms.reverse ds → Cx P σ md af b cs → (∀ i, md = .r i → lim ≤ i) → State (Prg.mk P (Env.pure E)) ds W lim σ af.ntmps fr H a w →
      RunPost P E.pure W lim σ md v H H' w b K cs a := by
  intro m
  induction m using Nat.strongRecOn with
  | ind m ih =>
  intro hm md ms ds af k fr σ H H' w v K a b cs hx hK hms hds hcx hri hs
  cases m with
  | zero => simp [aRun] at hx
  | succ m =>
  have ih' : ∀ {k : List AItem} {K : List Item}, aRun E m af lim k fr H = some (v, H') → KRel P E.pure md ms k K → RunPost P E.pure W lim σ md v H H' w b K cs a := fun hx hK => ih m (by omega) (by omega) b cs hx hK hms hds hcx hri hs
  have finN : md = .n → ∀ {todo : List Item}, step P (lone (b.atR a K) cs w) = .next (lone { b.atR a todo with mode := .returning } cs w) → (result fr H af.results).map (·, H) = some (v, H') → RunPost P E.pure W lim σ md v H H' w b K cs a := fun hmd todo hst h => by
    subst hmd
    rw [hms rfl] at hds
    cases hds
    obtain ⟨hk, hro, fn, hfn, hrs⟩ := hcx
    simp only [Option.map_eq_some_iff, Prod.mk.injEq] at h
    obtain ⟨_, h1, rfl, rfl⟩ := h
    obtain ⟨v', h7, h8⟩ := results_sound hs hrs h1
    exact ⟨_, v', w, σ, .one hst, ⟨_, rfl, rfl, rfl, hs.fr.defers, hk, fn, hfn, h7⟩, h8, hs.inv, Stp.refl _ _, Sig.le_refl _, fun j hj => absurd rfl hj⟩
  have finM : md = .m → marks k = marks k → ∀ {todo : List Item} {ks : List AItem}, marks ks = ms.reverse → step P (lone (b.atR a K) cs w) = .next (lone { b.atR a todo with mode := .returning } cs w) →
      (match shut lim (marks ks) H with | some H' => (result fr H' af.results).map (·, H') | none => none) = some (v, H') → RunPost P E.pure W lim σ md v H H' w b K cs a := fun hmd _ todo ks hmk hst h => by
    subst hmd
    obtain ⟨hk, hro, fn, hfn, hrs⟩ := hcx
    split at h
    case h_2 => cases h
    rename_i H1 hsh
    rw [hmk] at hsh
    obtain ⟨w1, k1, k2, k3, k4⟩ := shut_steps (b := b) (a := a) (todo := todo) (cs := cs) _ ds hds hs.inv hsh
    simp only [Option.map_eq_some_iff, Prod.mk.injEq] at h
    obtain ⟨_, h1, rfl, rfl⟩ := h
    have hs1 : State (Prg.mk P (Env.pure E)) ds W lim σ af.ntmps fr H1 a w1 := ⟨hs.fr, k2, by rw [k4]; exact hs.lim⟩
    obtain ⟨v', h7, h8⟩ := results_sound hs1 hrs h1
    have ea : { a with defers := ds } = a := by rw [← hs.fr.defers]
    rw [ea] at k1
    exact ⟨_, v', w1, σ, Steps.head hst k1, ⟨_, rfl, rfl, rfl, rfl, hk, fn, hfn, h7⟩, h8, k2, k3, Sig.le_refl _, fun j hj => absurd rfl hj⟩
  have finR : ∀ {i : Nat} {j : Option ACode} {J : Option Code}, md = .r i → (match j with | none => J = none | some c => ∃ C, J = some C ∧ trCodeM P E.pure C = some c) →
      (∀ {L c cs' v w'}, b.roundOf = some L → b.kind = .normal → cs = c :: cs' → (Instr.endRound L J).run P w = .ok v w' → step P (lone (b.atR a K) (c :: cs') w) = .next (lone (c.finish v) cs' w')) →
      endRound i j H = some (v, H') → RunPost P E.pure W lim σ md v H H' w b K cs a := fun {i j J} hmd hj hst h => by
    subst hmd
    obtain ⟨hk, L, c, cs', hro, hL, rfl⟩ := hcx
    obtain ⟨w1, h1, h2, h3, h4⟩ := endRound_sound hs.inv hL (hri i rfl) hj h
    exact ⟨_, v, w1, σ, .one (hst hro hk rfl h1), ⟨c, cs', rfl, rfl⟩, h2, h3, h4, Sig.le_refl _, fun j hj => absurd rfl hj⟩
  rw [aRun.eq_def] at hx
  simp only at hx
  cases hK with
  | nilN => exact finN rfl (stepR_end hcx.2.1) hx
  | nilM => exact finM rfl rfl (marks_map ms) (stepR_end hcx.2.1) hx
  | @nilR i =>
    simp only at hx
    split at hx
    case isFalse => cases hx
    exact finR rfl (J := none) (by rfl) (fun {L c cs' v w'} h1 h2 h3 h4 => stepR_round_end h1 h2 h4) hx
  | inBlock t => exact RunPost.step stepR_inBlock (ih' hx t)
  | inLoop h t => exact RunPost.step stepR_inLoop (ih' hx (.code h (.inLoop h t)))
  | @begin i ms k K t =>
    simp only at hx
    split at hx
    case h_2 => cases hx
    rename_i x hb
    split at hx
    case isFalse => cases hx
    rename_i hc
    obtain ⟨hk, L, c, cs', hro, hL, rfl⟩ := hcx
    obtain ⟨lp, h1, h2⟩ := hs.inv.loop hb hL
    have hlt : L.blk < w.heap.size := (Array.getElem?_eq_some_iff.1 h1).1
    obtain ⟨i1, i2⟩ := hs.inv.putLoop (o := .loop { lp with state := .busy }) (b' := .loop { x with st := 1 }) hb rfl hL hc.2
      ⟨_, World.putObj_heap_same hlt, rfl, h2.pend, h2.size, h2.val, h2.params, h2.assign, h2.body⟩ (fun _ => rfl)
    have hst : lp.state = .ready := by rw [h2.st, hc.1]; rfl
    refine RunPost.steps (.one (stepR_beginRound hro (run_beginRound h1 hst))) i2 (Sig.le_refl _) (fun j hj => absurd rfl hj) (by simp) (ih m (by omega) (by omega) b _ hx t hms hds ⟨hk, L, c, cs', hro, hL, rfl⟩ hri ⟨hs.fr, i1, by have := hs.lim; simpa using this⟩)
  | @code md ms c C k K h t =>
    cases trX_cases h with
    | skip => exact RunPost.step stepR_skip (ih' hx t)
    | @plain _ id ops l hl =>
      simp only at hx
      obtain ⟨m1, fr1, H1, h1, h2, h3⟩ := ops_split E l m af lim none k fr H _ hx
      have hCm := hC (m - 1) (by omega)
      obtain ⟨e, a1, w1, hq, harr⟩ := region_plain (ro := b.roundOf) hCm (id := id) hl hs h2 b K cs rfl trivial (room_wide _)
      obtain ⟨rfl, σ1, q1, q2, q3, q4, q5, q6⟩ := hq
      exact RunPost.steps (StepsIn.steps harr) q2 q3 q5 q6 (ih m1 (by omega) (by omega) b cs h3 t hms (hds.mono q3) (hcx.mono q3) hri q1)
    | @drawn _ id ops nn L hdr =>
      simp only at hx
      obtain ⟨m1, fr1, H1, h1, h2, h3⟩ := ops_split E L m af lim (some H.length) k fr _ _ hx
      have hCm := hC (m - 1) (by omega)
      obtain ⟨e, a1, w1, hq, harr⟩ := region_drawn (ro := b.roundOf) hCm hE.mixed (id := id) hdr hs h2 b K cs rfl trivial (room_wide _)
      obtain ⟨rfl, σ1, q1, q2, q3, q5⟩ := hq
      have hlen : H.length ≤ H1.length := by
        have key : ∀ (l : List AIns) (fr fr1 : Nat → Value) (H0 H1 : Heap), lim ≤ H0.length → dOps (aCall E (m - 1)) af.ntmps lim (some H.length) l fr H0 = some (fr1, H1) → H0.length ≤ H1.length := by
          intro l
          induction l with
          | nil => intro fr fr1 H0 H1 _ hx; simp [dOps] at hx; rw [hx.2]; exact Nat.le_refl _
          | cons i l ih =>
            intro fr fr1 H0 H1 hl hx
            obtain ⟨f2, H2, g1, g2⟩ := dOps_cons hx
            have hg : CallGrow (aCall E (m - 1)) := fun mp lim g as H v H' hc hl => ⟨hCm.len _ _ _ _ _ _ _ hc hl, hCm.grow _ _ _ _ _ _ _ hc hl⟩
            obtain ⟨g3, _⟩ := insOp_grow hg g1 (fun b e => by cases e; exact hs.lim) hl
            have := ih _ _ _ _ (by omega) g2
            omega
        have := key L fr fr1 _ H1 (by have := hs.lim; simp; omega) h2
        simp at this
        omega
      exact RunPost.steps (StepsIn.steps harr) q2 q3 q5 hlen (ih m1 (by omega) (by omega) b cs h3 t hms (hds.mono q3) (hcx.mono q3) hri q1)
    | seq hx' hy' => exact RunPost.step stepR_seq (ih' hx (.code hx' (.code hy' t)))
    | @cond _ o x y x' y' hok hx' hy' =>
      have hev := hs.fr.ev hok
      simp only at hx
      cases he : ev fr o <;> rw [he] at hx hev <;> (try (cases hx; done))
      rename_i t'
      have hb := hev.bool_left
      cases t' with
      | true => exact RunPost.step (stepR_cond hb) (ih' hx (.code hx' t))
      | false => exact RunPost.step (stepR_cond hb) (ih' hx (.code hy' t))
    | block hx' => exact RunPost.step stepR_block (ih' hx (.code hx' (.inBlock t)))
    | loop hx' => exact RunPost.step stepR_loop (ih' hx (.code hx' (.inLoop hx' t)))
    | exit hmd =>
      simp only at hx
      split at hx
      case h_2 => cases hx
      rename_i k' hk'
      obtain ⟨K', h1, h2⟩ := t.exit hk'
      exact RunPost.step (stepR_exit h1) (ih' hx h2)
    | @exitR i id =>
      simp only at hx
      split at hx
      · rename_i k' hk'
        obtain ⟨K', h1, h2⟩ := t.exit hk'
        exact RunPost.step (stepR_exit h1) (ih' hx h2)
      · rename_i hk'
        rw [t.roundOf] at hx
        simp only at hx
        split at hx
        case isFalse => cases hx
        exact finR rfl (j := some (.exit id)) (J := some (.exit id)) ⟨_, rfl, rfl⟩ (fun {L c cs' v w'} h1 h2 h3 h4 => stepR_round_exit h1 h2 (t.noExit hk') h4) hx
    | ret => exact finN rfl (stepR_ret hcx.2.1) hx
    | retM => exact finM rfl rfl t.marks (stepR_ret hcx.2.1) hx
    | retR =>
      simp only at hx
      rw [t.roundOf] at hx
      simp only at hx
      split at hx
      case isFalse => cases hx
      exact finR rfl (j := some .retM) (J := some .ret) ⟨_, rfl, rfl⟩ (fun {L c cs' v w'} h1 h2 h3 h4 => stepR_round_ret h1 h2 h4) hx
    | @rangeF f ps x y x' y' hok hx' hy' =>
      have hCm := hC m (by omega)
      have hev := hs.fr.ev hok
      simp only at hx
      split at hx
      case h_2 => cases hx
      rename_i g as hcl
      unfold callee at hcl
      split at hcl
      case h_2 => simp at hcl
      case h_3 => cases hcl
      rename_i g' fi ca hf
      simp only [Option.some.injEq, Prod.mk.injEq, Sum.inl.injEq] at hcl
      obtain ⟨rfl, rfl⟩ := hcl
      rw [hf] at hev
      obtain ⟨fi', ca', hf', hfi, hca⟩ := hev.func_left
      split at hx
      case h_2 => cases hx
      rename_i v2 H2 hcall
      split at hx
      case h_2 => cases hx
      rename_i xx hb
      split at hx
      · cases hx
      rename_i hst
      obtain ⟨hk, hro, fn0, hfn0, hrs0⟩ := hcx
      have hxl : LoopRel (Prg.mk P (Env.pure E)) σ ⟨0, none, fr, af.ntmps, ps.toList, x', y'⟩ { state := .ready, pending := none, fn := b.fn, tmps := a.tmps, params := ps, assign := x, body := y, defers := w.heap.size } :=
        ⟨rfl, rfl, hs.fr.size, hs.fr.val, rfl, hx', hy'⟩
      obtain ⟨σ1, i1, hle1, hl1, hl2, hch1⟩ := hs.inv.enterLoop hxl
      obtain ⟨fn, g1, g2, g3⟩ := hCm.fn _ _ _ _ _ _ _ hcall
      have hargs : LRel σ1 (fi.toList ++ [.func (.yield (H.length + 1)) #[] #[]] ++ ca.toList) (fi'.toList ++ [.func (.yield (w.heap.size + 1)) #[] #[]] ++ ca'.toList) :=
        ((hfi.mono hle1).append (LRel.cons (.yld hl2) LRel.nil)).append (hca.mono hle1)
      have hcalls := hCm.calls _ _ _ _ _ _ _ hcall (by have := hs.lim; simp; omega) W σ1 _ _ i1 hargs
      have hkc : ∀ v, a.eval (.const v) = v := fun _ => rfl
      have hbn : fn.body ≠ none := fun h => by rw [h] at g2; cases g2
      have h3' : ¬ (fn.name = "runtime.NumGoroutine") := by simpa using g3
      have ea : (fi'.toList ++ [Value.func (.yield (w.heap.size + 1)) #[] #[]] ++ ca'.toList).toArray = fi' ++ #[Value.func (.yield (w.heap.size + 1)) #[] #[]] ++ ca' := by apply Array.ext'; simp
      rw [ea] at hcalls
      have henter := stepR_rangeFunc (P := P) (b := b) (a := a) (k := K) (cs := cs) (w := w) (g := f) (ps := ps) (assign := x) (body := y) (f := g') (args := fi' ++ #[Value.func (.yield (w.heap.size + 1)) #[] #[]] ++ ca')
        (show (Instr.enterLoop b.fn a.tmps ps x y b.roundOf).run P w = .ok (w.heap.size + 1, [{ target := .collected w.heap.size, args := #[] }])
          ((w.alloc (.deferred (some []))).alloc (.loop { state := .ready, pending := none, fn := b.fn, tmps := a.tmps, params := ps, assign := x, body := y, defers := w.heap.size })) by rw [hro]; exact run_enterLoop_outer _ _ _ _ _)
        (show (resolve a.eval (rangeCall f (w.heap.size + 1)) 0).run P _ = .ok { target := .fn (.func g') ca', args := fi' ++ #[Value.func (.yield (w.heap.size + 1)) #[] #[]] } _ by
          simp [resolve, Deferred.ofValue, hf', hkc]; rfl)
        (show (invoke (.fn (.func g') ca') (fi' ++ #[Value.func (.yield (w.heap.size + 1)) #[] #[]])).run P _ = .ok (.enter g' _) _ by
          simp [invoke, callFunc, g1, h3', hbn]; rfl)
      obtain ⟨e, w3, fr3, ⟨v3, σ3, rfl, q1, q2, q3, q4, q5⟩, hcome, hfr3, hlv⟩ := hcalls (b.atR { a with defers := [{ target := .collected w.heap.size, args := #[] }] ++ a.defers } (.inRangeFunc (w.heap.size + 1) :: K) :: cs)
      have hL3 : σ3 (H.length + 1) = some ⟨w.heap.size + 1, 0, 0⟩ := q4 _ _ hl2
      obtain ⟨lp, h1, h2⟩ := q2.loop hb hL3
      have hnb : lp.state ≠ .busy := fun e => by
        rw [h2.st] at e
        unfold stOf at e
        split at e <;> first | (cases e; done) | skip
        rename_i h; exact hst h
      have hlimx : lim ≤ H.length + 1 := by have := hs.lim; omega
      obtain ⟨i3, s3⟩ := q2.putLoop (o := .loop { lp with state := .exhausted }) (b' := .dead) hb rfl hL3 hlimx trivial (fun h => by simp [alive] at h)
      have hall : Steps P (lone (b.atR a (.code (.rangeFunc f ps x y) :: K)) cs w) (lone (b.atR { a with defers := [{ target := .collected w.heap.size, args := #[] }] ++ a.defers } ((lp.pending.map Item.code).toList ++ K)) cs (w3.putObj (w.heap.size + 1) (.loop { lp with state := .exhausted }))) := by
        refine Steps.head henter (Steps.trans hcome (Steps.head (step_leave_returned hlv) ?_))
        rw [finish_atR_inRangeFunc]
        exact .one (stepR_endRangeFunc (run_endLoop h1 hnb))
      have hst1 : Stp W w ((w.alloc (.deferred (some []))).alloc (.loop { state := .ready, pending := none, fn := b.fn, tmps := a.tmps, params := ps, assign := x, body := y, defers := w.heap.size })) :=
        (Stp.alloc hs.inv.fresh _).trans (Stp.alloc (fun k hk => hs.inv.fresh k (by simp at hk; omega)) _)
      have hlen2 : H.length + 2 ≤ H2.length := by
        have := hCm.len _ _ _ _ _ _ _ hcall (by have := hs.lim; simp; omega)
        simpa using this
      have hle3 : Sig.le σ σ3 := Sig.le_trans hle1 q4
      have hpend := h2.pend
      refine RunPost.steps hall (hst1.trans (q3.trans s3)) hle3 (fun j hj => ?_) (by simp; omega) (ih m (by omega) (by omega) (ms := ms ++ [H.length]) (ds := { target := .collected w.heap.size, args := #[] } :: ds) b cs hx ?_ (fun h => by cases h) ?_ ⟨hk, hro, fn0, hfn0, hrs0⟩ (fun i h => by cases h) ⟨?_, i3, by have := hs.lim; simp; omega⟩)
      · apply Classical.byContradiction
        intro hc
        have e1 : σ1 j = σ j := Classical.byContradiction fun e => hc (hch1 j e)
        have := q5 j (fun e => hj (e.trans e1))
        simp at this
        omega
      · have tm := t.addMark H.length
        cases hp : xx.pend with
        | none => rw [hp] at hpend; simp only at hpend; rw [hpend]; simpa using tm
        | some c =>
          rw [hp] at hpend
          obtain ⟨C, hC1, hC2⟩ := hpend
          rw [hC1]
          exact .code (md := .m) hC2 tm
      · rw [List.reverse_append]
        exact ⟨⟨w.heap.size, 0, 0⟩, ds, hs.lim, q4 _ _ hl1, rfl, hds.mono hle3⟩
      · exact ⟨hs.fr.size, by simp [hs.fr.defers], fun t => (hs.fr.val t).mono hle3⟩
theorem frame0_rel {as as' : List Value} (h : LRel σ as as') (fn : Func) : FrRel [] σ fn.ntmps (frame0 as) { tmps := as'.toArray ++ Array.replicate (fn.ntmps - as'.toArray.size) undef, defers := [] } := by
  refine ⟨by simp; omega, rfl, fun t => ?_⟩
  unfold frame0
  rw [Array.getD_eq_getD_getElem?, List.getD_eq_getElem?_getD]
  by_cases ht : t < as.length
  · have ht' : t < as'.length := by rw [← h.1]; exact ht
    rw [Array.getElem?_append_left (by simpa using ht'), List.getElem?_eq_getElem ht]
    simp only [List.getElem?_toArray, List.getElem?_eq_getElem ht', Option.getD_some]
    exact h.2 t _ _ (List.getElem?_eq_getElem ht) (List.getElem?_eq_getElem ht')
  · have ht' : as'.toArray.size ≤ t := by simp [← h.1]; omega
    rw [List.getElem?_eq_none (by omega), Array.getElem?_append_right ht', Array.getElem?_replicate]
    have hu : VRel σ undef undef := .atom rfl
    split <;> exact hu
theorem trFunc_inv {pf : FuncId → Bool} {g : FuncId} {af : AFunc} (ht : trFunc P pf g = some af) : ∃ fn body md c rs, P.funcs[g]? = some fn ∧ fn.body = some body ∧ trX P pf md body = some c ∧ fn.results.toList.mapM (trRes P) = some rs ∧ (fn.name == "runtime.NumGoroutine") = false ∧
    ((md = .n ∧ af = { ntmps := fn.ntmps, results := rs, body := c }) ∨ (md = .m ∧ af = { ntmps := fn.ntmps, results := rs, body := .seq c .retM })) := by
  unfold trFunc at ht
  split at ht
  · rename_i a ha
    cases ht
    unfold trFuncN at ha
    obtain ⟨fn, hfn, ht⟩ := opt_bind ha
    obtain ⟨body, hb, ht⟩ := opt_bind ht
    obtain ⟨c, hc, ht⟩ := opt_bind ht
    obtain ⟨rs, hrs, ht⟩ := opt_bind ht
    split at ht
    · cases ht
    · rename_i hn
      cases ht
      exact ⟨fn, body, .n, c, rs, hfn, hb, hc, hrs, by simpa using hn, .inl ⟨rfl, rfl⟩⟩
  · unfold trFuncM at ht
    obtain ⟨fn, hfn, ht⟩ := opt_bind ht
    obtain ⟨body, hb, ht⟩ := opt_bind ht
    obtain ⟨c, hc, ht⟩ := opt_bind ht
    obtain ⟨rs, hrs, ht⟩ := opt_bind ht
    split at ht
    · cases ht
    · rename_i hn
      cases ht
      exact ⟨fn, body, .m, c, rs, hfn, hb, hc, hrs, by simpa using hn, .inr ⟨rfl, rfl⟩⟩
theorem call_sound (hE : EnvOk P E) (n : Nat) (hC : ∀ m, m < n → CallOk (Prg.mk P (Env.pure E)) (aCall E m)) {g : FuncId} {af : AFunc} (ht : trFunc P E.pure g = some af) {as as' : List Value} {v : Value} (hx : aRun E n af lim [.code af.body] (frame0 as) H = some (v, H')) (hl : lim ≤ H.length)
    (hinv : Inv (Prg.mk P (Env.pure E)) W lim σ H w) (ha : LRel σ as as') : Calls P g as'.toArray w (CallPost (Prg.mk P (Env.pure E)) W lim σ H v H' w) := by
  obtain ⟨fn, body, md, c, rs, hfn, hb, hc, hrs, hn, hmd⟩ := trFunc_inv ht
  intro cs
  let b : Frame := { (default : Frame) with fn := g, kind := .normal, roundOf := none }
  have henter : Frame.enter P g as'.toArray .normal = b.atR { tmps := as'.toArray ++ Array.replicate (fn.ntmps - as'.toArray.size) undef, defers := [] } [.code body] := by
    simp [Frame.enter, Frame.atR, hfn, hb, b]
  have hst : State (Prg.mk P (Env.pure E)) [] W lim σ fn.ntmps (frame0 as) H { tmps := as'.toArray ++ Array.replicate (fn.ntmps - as'.toArray.size) undef, defers := [] } w := ⟨frame0_rel ha fn, hinv, hl⟩
  rcases hmd with ⟨rfl, rfl⟩ | ⟨rfl, rfl⟩
  · obtain ⟨m, v', w', σ', h1, ⟨fr, rfl, h2, h3⟩, h4, h5, h6, h7, h8⟩ := run_sound (W := W) hE n hC n (Nat.le_refl _) (ms := []) b cs hx (.code hc .nilN) (fun _ => rfl) rfl ⟨rfl, rfl, fn, hfn, hrs⟩ (fun i h => by cases h) hst
    rw [← henter] at h1
    exact ⟨.returned v', w', fr, ⟨v', σ', rfl, h4, h5, h6, h7, h8⟩, h1, h2, h3⟩
  · cases n with
    | zero => simp [aRun] at hx
    | succ n =>
    rw [aRun.eq_def] at hx
    simp only at hx
    obtain ⟨m, v', w', σ', h1, ⟨fr, rfl, h2, h3⟩, h4, h5, h6, h7, h8⟩ := run_sound (W := W) hE (n + 1) hC n (by omega) (ms := []) b cs hx (.code hc .nilM) (fun _ => rfl) rfl ⟨rfl, rfl, fn, hfn, hrs⟩ (fun i h => by cases h) hst
    rw [← henter] at h1
    exact ⟨.returned v', w', fr, ⟨v', σ', rfl, h4, h5, h6, h7, h8⟩, h1, h2, h3⟩
theorem roundTmps_rel : ∀ (ps : List Nat) (as as' : List Value) (fr : Nat → Value) (ts : Array Value) (N : Nat), as.length = ps.length → (ps.all (· < N)) = true → N ≤ ts.size → LRel σ as as' → (∀ t, VRel σ (fr t) (ts.getD t undef)) →
    N ≤ ((ps.zip as').foldl (fun (tmps : Array Value) (x : Nat × Value) => tmps.setIfInBounds x.1 x.2) ts).size ∧ ∀ t, VRel σ (setParams fr ps as t) (((ps.zip as').foldl (fun (tmps : Array Value) (x : Nat × Value) => tmps.setIfInBounds x.1 x.2) ts).getD t undef)
  | [], as, as', fr, ts, N, h, _, hN, ha, hv => by
    cases as with
    | nil => exact ⟨by simpa using hN, by simpa [setParams] using hv⟩
    | cons => simp at h
  | p :: ps, as, as', fr, ts, N, h, hp, hN, ha, hv => by
    cases as with
    | nil => simp at h
    | cons x xs =>
      cases as' with
      | nil => have := ha.1; simp at this
      | cons y ys =>
        simp only [List.all_cons, Bool.and_eq_true, decide_eq_true_eq] at hp
        simp only [List.zip_cons_cons, List.foldl_cons, setParams]
        refine roundTmps_rel ps xs ys _ _ N (by simpa using h) hp.2 (by simpa using hN) ha.tail fun t => ?_
        rw [Array.getD_eq_getD_getElem?]
        by_cases e : t = p
        · subst e
          rw [if_pos rfl, Array.getElem?_setIfInBounds_self_of_lt (by omega)]
          exact ha.head
        · rw [if_neg e, Array.getElem?_setIfInBounds_ne (fun h => e h.symm), ← Array.getD_eq_getD_getElem?]
          exact hv t
theorem round_sound (hE : EnvOk P E) (n : Nat) (hC : ∀ m, m < n → CallOk (Prg.mk P (Env.pure E)) (aCall E m)) {i : Nat} {x : LoopB} (hb : hget H i = .loop x) (hli : lim ≤ i) {as as' : List Value} (hlen : as.length = x.params.length) (hpar : (x.params.all (· < x.N)) = true) {v : Value}
    (hx : aRun E n ⟨x.N, [], .skip⟩ lim [.code x.assign, .begin i, .code x.body, .round i] (setParams x.fr x.params as) H = some (v, H')) (hl : lim ≤ H.length)
    (hinv : Inv (Prg.mk P (Env.pure E)) W lim σ H w) (ha : LRel σ as as') {L : Loc} (hL : σ i = some L) :
    ∃ r, w.heap[L.blk]? = some (.loop r) ∧ as'.toArray.size = r.params.size ∧ RoundIn Fence.wide 0 P L.blk r.fn (roundTmps r as'.toArray) r.assign r.body w (CallPost (Prg.mk P (Env.pure E)) W lim σ H v H' w) := by
  obtain ⟨r, h1, h2⟩ := hinv.loop hb hL
  have hsz : as'.toArray.size = r.params.size := by
    have e := ha.1
    rw [← Array.length_toList (xs := r.params), h2.params, List.size_toArray]; omega
  refine ⟨r, h1, hsz, trivial, fun c cs _ => ?_⟩
  let b : Frame := { (default : Frame) with fn := r.fn, kind := .normal, roundOf := some L.blk }
  have hb0 : Frame.round L.blk r.fn (roundTmps r as'.toArray) r.assign r.body .normal = b.atR { tmps := roundTmps r as'.toArray, defers := [] } [.code r.assign, .beginRound, .code r.body] := by
    simp [Frame.round, Frame.atR, b]
  have hrt : roundTmps r as'.toArray = (x.params.zip as').foldl (fun (tmps : Array Value) (x : Nat × Value) => tmps.setIfInBounds x.1 x.2) r.tmps := by
    unfold roundTmps
    rw [← h2.params, ← Array.foldl_toList]
    simp
  obtain ⟨g1, g2⟩ := roundTmps_rel (σ := σ) x.params as as' x.fr r.tmps x.N hlen hpar h2.size ha h2.val
  rw [← hrt] at g1 g2
  obtain ⟨m, v', w', σ', k1, ⟨c', cs', e1, rfl⟩, k4, k5, k6, k7, k8⟩ := run_sound (W := W) hE n hC n (Nat.le_refl _) (md := .r i) (ms := []) (ds := []) (af := ⟨x.N, [], .skip⟩) (a := { tmps := roundTmps r as'.toArray, defers := [] }) b (c :: cs) hx (.code (md := .r i) h2.assign (.begin (.code (md := .r i) h2.body .nilR))) (fun h => by cases h) rfl
    ⟨rfl, L, c, cs, rfl, hL, rfl⟩ (fun j h => by cases h; exact hli) ⟨⟨g1, rfl, g2⟩, hinv, hl⟩
  cases e1
  rw [← hb0] at k1
  exact ⟨.returned v', w', ⟨v', σ', rfl, k4, k5, k6, k7, k8⟩, comesIn_wide.2 k1⟩
theorem callOk (hE : EnvOk P E) : ∀ n, CallOk (Prg.mk P (Env.pure E)) (aCall E n) := by
  intro n
  induction n using Nat.strongRecOn with
  | ind n ih =>
  have hgrow : CallGrow (aCall E n) := callWith_grow fun af lim k fr H v H' hk hx hl => aRun_grow E n af lim _ _ _ _ _ (fun x hx b l e => absurd e (hk x hx b l)) hx hl
  have inv : ∀ {mp lim g as H v H'}, aCall E n mp lim (.inl g) as H = some (v, H') →
      (E.orc g as = some v ∧ H' = H ∧ as.all atom = true ∧ flat 4 v = true) ∨
      (∃ af, E.tr g = some af ∧ ((E.pure g = true ∧ H' = H ∧ olds H.length 4 v = true ∧ ∃ H1, aRun E n af H.length [.code af.body] (frame0 as) H = some (v, H1)) ∨ (mp = false ∧ aRun E n af lim [.code af.body] (frame0 as) H = some (v, H')))) := by
    intro mp lim g as H v H' h
    unfold aCall callWith at h
    simp only at h
    split at h
    · rename_i u hu
      split at h
      · rename_i hf
        cases h
        simp only [Bool.and_eq_true] at hf
        exact .inl ⟨hu, rfl, hf.1, hf.2⟩
      · cases h
    · split at h
      · cases h
      · rename_i af haf
        right
        refine ⟨af, haf, ?_⟩
        split at h
        · rename_i hp
          split at h
          · rename_i u H1 h1
            split at h
            · rename_i hf
              cases h
              exact .inl ⟨hp, rfl, hf, H1, h1⟩
            · cases h
          · cases h
        · split at h
          · cases h
          · rename_i hmp
            exact .inr ⟨by simpa using hmp, h⟩
  have trOk : ∀ {g af}, E.tr g = some af → ∃ fn, P.funcs[g]? = some fn ∧ fn.body.isSome = true ∧ (fn.name == "runtime.NumGoroutine") = false := by
    intro g af h
    obtain ⟨fn, body, md, c, rs, hfn, hb, hc, hrs, hn, _⟩ := trFunc_inv (hE.tr g af h)
    exact ⟨fn, hfn, by rw [hb]; rfl, hn⟩
  have invR : ∀ {mp lim i as H v H'}, aCall E n mp lim (.inr i) as H = some (v, H') → mp = false ∧ ∃ x, hget H i = .loop x ∧ lim ≤ i ∧ as.length = x.params.length ∧ (x.params.all (· < x.N)) = true ∧
      aRun E n ⟨x.N, [], .skip⟩ lim [.code x.assign, .begin i, .code x.body, .round i] (setParams x.fr x.params as) H = some (v, H') := by
    intro mp lim i as H v H' h
    unfold aCall callWith at h
    simp only at h
    split at h
    · cases h
    rename_i hmp
    split at h
    · rename_i x hb
      split at h
      · rename_i hc
        exact ⟨by simpa using hmp, x, hb, hc.1, hc.2.1, hc.2.2, h⟩
      · cases h
    · cases h
  refine { pure := ?_, len := ?_, keep := ?_, fn := ?_, calls := ?_, rounds := ?_, grow := ?_ }
  · intro lim g as H v H' h
    cases g with
    | inr i => obtain ⟨e, _⟩ := invR h; cases e
    | inl g =>
    rcases inv h with ⟨_, e, _⟩ | ⟨af, _, ⟨_, e, _⟩ | ⟨e, _⟩⟩
    · exact e
    · exact e
    · cases e
  · exact fun mp lim g as H v H' h hl => (hgrow mp lim g as H v H' h hl).1
  · exact fun mp lim g as H v H' h hl => (hgrow mp lim g as H v H' h hl).2.keep
  · intro mp lim g as H v H' h
    rcases inv h with ⟨e, _⟩ | ⟨af, e, _⟩
    · exact hE.orcFn _ _ _ e
    · exact trOk e
  · intro mp lim g as H v H' h hl W σ w as' hinv ha
    rcases inv h with ⟨e, rfl, hat, hfl⟩ | ⟨af, e, ⟨hp, rfl, hfl, H1, hx⟩ | ⟨_, hx⟩⟩
    · have heq : as' = as := by
        apply List.ext_getElem ha.1.symm
        intro i h1 h2
        exact (ha.2 i _ _ (List.getElem?_eq_getElem h2) (List.getElem?_eq_getElem h1)).eq_of_atom (List.all_eq_true.1 hat _ (by simp))
      subst heq
      refine (hE.orc _ _ _ e w).mono fun en w' hp => ?_
      obtain ⟨rfl, hb⟩ := hp
      refine ⟨v, σ, rfl, ?_, hinv.world hb.size (fun k hk => hb.block k hk), ⟨hb.os, hb.tape, hb.output, hb.size, fun k hk => hb.block k ?_⟩, Sig.le_refl _, fun j hj => absurd rfl hj⟩
      · exact hE.orcFlat _ _ _ e σ
      · rcases Nat.lt_or_ge k w.heap.size with h | h
        · exact h
        · exact absurd (hinv.fresh k h) hk
    · have hinv' : Inv (Prg.mk P (Env.pure E)) (fun k => w.heap.size ≤ k) H'.length σ H' w := ⟨hinv.blk, hinv.inj, fun i b L hb ho hli hL => by
        have := (List.getElem?_eq_some_iff.1 hb).1
        omega, fun b hb => hb, hinv.dom⟩
      refine (call_sound hE n ih (hE.tr _ _ e) hx (Nat.le_refl _) hinv' ha).mono fun en w' hp => ?_
      obtain ⟨v', σ', rfl, h1, h2, h3, h4, h5⟩ := hp
      have hsm : ∀ k, k < w.heap.size → w'.heap[k]? = w.heap[k]? := fun k hk => h3.block k (by omega)
      refine ⟨v', σ, rfl, h1.olds (fun i L hi hL => by rw [← hL]; exact (Classical.byContradiction fun e => by have := h5 i (Ne.symm e); omega : σ i = σ' i)) 4 hfl, hinv.world h3.size hsm, ⟨h3.os, h3.tape, h3.output, h3.size, fun k hk => hsm k ?_⟩, Sig.le_refl _, fun j hj => absurd rfl hj⟩
      rcases Nat.lt_or_ge k w.heap.size with h | h
      · exact h
      · exact absurd (hinv.fresh k h) hk
    · exact call_sound hE n ih (hE.tr _ _ e) hx hl hinv ha
  · intro mp lim i as H v H' h hl W σ w as' L hinv ha hL
    obtain ⟨_, x, hb, h1, h2, h3, h4⟩ := invR h
    exact round_sound hE n ih hb h1 h2 h3 h4 hl hinv ha hL
  · exact fun mp lim g as H v H' h hl => (hgrow mp lim g as H v H' h hl).2
theorem Inv.nil (w : World) : Inv (Prg.mk P (Env.pure E)) (fun k => w.heap.size ≤ k) 0 (fun _ => none) [] w :=
  ⟨fun i b hb => by simp at hb, fun i j bi bj Li Lj hb => by simp at hb, fun i b L hb => by simp at hb, fun b hb => hb, fun _ _ => rfl⟩
end
end Go.AM

set_option linter.unusedVariables false
set_option linter.unusedSimpArgs false
namespace Go.AM
universe u
namespace Sym
abbrev t (n : Nat) : Operand := .tmp n
abbrev k (v : Value) : Operand := .const v
abbrev i (d : Nat) (o : AOp) : AIns := ⟨some d, none, o, none, []⟩
end Sym
structure Bx {α : Sort u} (a : α) : Type where
def Ret (E : Env) (af : AFunc) (lim : Nat) (k : List AItem) (fr : Nat → Value) (H : Heap) (R : Value → Heap → Prop) (_ : Bx k := ⟨⟩) (_ : Bx R := ⟨⟩) : Prop :=
  ∃ n v H', aRun E n af lim k fr H = some (v, H') ∧ R v H'
def CallR (E : Env) (mp : Bool) (lim : Nat) (g : FuncId) (as : List Value) (H : Heap) (R : Value → Heap → Prop) (_ : Bx R := ⟨⟩) : Prop :=
  ∃ n v H', aCall E n mp lim (.inl g) as H = some (v, H') ∧ R v H'
def CallT (E : Env) (mp : Bool) (lim : Nat) (t : FuncId ⊕ Nat) (as : List Value) (H : Heap) (R : Value → Heap → Prop) (_ : Bx R := ⟨⟩) : Prop :=
  ∃ n v H', aCall E n mp lim t as H = some (v, H') ∧ R v H'
def CallY (E : Env) (mp : Bool) (lim : Nat) (i : Nat) (as : List Value) (H : Heap) (R : Value → Heap → Prop) (_ : Bx R := ⟨⟩) : Prop :=
  ∃ n v H', aCall E n mp lim (.inr i) as H = some (v, H') ∧ R v H'
def opK (r : Option (Value × Heap)) (f : Value → Heap → Prop) (_ : Bx f := ⟨⟩) : Prop := match r with | some (v, H') => f v H' | none => False
def condK (v : Value) (p q : Prop) (_ : Bx p := ⟨⟩) (_ : Bx q := ⟨⟩) : Prop := match v with | .bool true => p | .bool false => q | _ => False
def wantK (v : Value) (b : Bool) (p q : Prop) (_ : Bx p := ⟨⟩) (_ : Bx q := ⟨⟩) : Prop := match v with | .bool c => if c = b then p else q | _ => q
section
variable {E : Env} {af : AFunc} {lim : Nat} {K : List AItem} {fr : Nat → Value} {H : Heap} {R : Value → Heap → Prop}
theorem Ret.succ {k k1 : List AItem} {fr fr1 : Nat → Value} {H H1 : Heap} (h : ∀ n, aRun E (n + 1) af lim k fr H = aRun E n af lim k1 fr1 H1) : Ret E af lim k fr H R = Ret E af lim k1 fr1 H1 R := by
  apply propext
  constructor
  · rintro ⟨n, v, H', hx, hr⟩
    cases n with
    | zero => simp [aRun] at hx
    | succ n => rw [h] at hx; exact ⟨n, v, H', hx, hr⟩
  · rintro ⟨n, v, H', hx, hr⟩
    exact ⟨n + 1, v, H', by rw [h]; exact hx, hr⟩
theorem Ret_fin {k : List AItem} (h : ∀ n, aRun E (n + 1) af lim k fr H = (result fr H af.results).map (·, H)) : Ret E af lim k fr H R = opK ((result fr H af.results).map (·, H)) R := by
  apply propext
  constructor
  · rintro ⟨n, v, H', hx, hr⟩
    cases n with
    | zero => simp [aRun] at hx
    | succ n => rw [h] at hx; rw [hx]; exact hr
  · intro hk
    cases hx : (result fr H af.results).map (·, H) with
    | none => rw [hx] at hk; exact hk.elim
    | some p => rw [hx] at hk; exact ⟨1, p.1, p.2, by rw [h, hx], hk⟩
theorem Ret_seq {a b} : Ret E af lim (.code (.seq a b) :: K) fr H R = Ret E af lim (.code a :: .code b :: K) fr H R := Ret.succ fun n => by rw [aRun.eq_def]
theorem Ret_skip : Ret E af lim (.code .skip :: K) fr H R = Ret E af lim K fr H R := Ret.succ fun n => by rw [aRun.eq_def]
theorem Ret_cops {l} : Ret E af lim (.code (.ops l) :: K) fr H R = Ret E af lim (.ops none l :: K) fr H R := Ret.succ fun n => by rw [aRun.eq_def]
theorem Ret_drawn {m l} : Ret E af lim (.code (.drawn m l) :: K) fr H R = Ret E af lim (.ops (some H.length) l :: K) fr (H ++ List.replicate m .dead) R := Ret.succ fun n => by rw [aRun.eq_def]
theorem Ret_ret : Ret E af lim (.code .ret :: K) fr H R = opK ((result fr H af.results).map (·, H)) R := Ret_fin fun n => by rw [aRun.eq_def]
theorem Ret_nil : Ret E af lim [] fr H R = opK ((result fr H af.results).map (·, H)) R := Ret_fin fun n => by rw [aRun.eq_def]
theorem Ret_block {id b} : Ret E af lim (.code (.block id b) :: K) fr H R = Ret E af lim (.code b :: .inBlock id :: K) fr H R := Ret.succ fun n => by rw [aRun.eq_def]
theorem Ret_inBlock {id} : Ret E af lim (.inBlock id :: K) fr H R = Ret E af lim K fr H R := Ret.succ fun n => by rw [aRun.eq_def]
theorem Ret_loop {b} : Ret E af lim (.code (.loop b) :: K) fr H R = Ret E af lim (.code b :: .inLoop b :: K) fr H R := Ret.succ fun n => by rw [aRun.eq_def]
theorem Ret_inLoop {b} : Ret E af lim (.inLoop b :: K) fr H R = Ret E af lim (.code b :: .inLoop b :: K) fr H R := Ret.succ fun n => by rw [aRun.eq_def]
theorem Ret_ops_nil {b} : Ret E af lim (.ops b [] :: K) fr H R = Ret E af lim K fr H R := Ret.succ fun n => by rw [aRun.eq_def]
theorem Ret_exit {id K'} (h : aExit id K = some K') : Ret E af lim (.code (.exit id) :: K) fr H R = Ret E af lim K' fr H R := Ret.succ fun n => by rw [aRun.eq_def]; simp only [h]
theorem Ret_cond {c a b} : Ret E af lim (.code (.cond c a b) :: K) fr H R = condK (ev fr c) (Ret E af lim (.code a :: K) fr H R) (Ret E af lim (.code b :: K) fr H R) := by
  cases hc : ev fr c with
  | bool t => cases t <;> exact Ret.succ fun n => by rw [aRun.eq_def]; simp only [hc]
  | _ =>
    apply propext
    constructor
    · rintro ⟨n, v, H', hx, hr⟩
      cases n with
      | zero => simp [aRun] at hx
      | succ n => rw [aRun.eq_def] at hx; simp only [hc] at hx; cases hx
    · intro h; exact h.elim
theorem Ret.det {k : List AItem} {n m : Nat} {r r' : Value × Heap} (h : aRun E n af lim k fr H = some r) (h' : aRun E m af lim k fr H = some r') : r = r' := by
  have h1 := aRun_le E (Nat.le_max_left n m) h
  have h2 := aRun_le E (Nat.le_max_right n m) h'
  rw [h1] at h2; exact Option.some.inj h2
def isCall : AOp → Bool
  | .call .. => true
  | _ => false
def dOk (N : Nat) : Option Nat → Bool
  | none => true
  | some d => decide (d < N)
def putF (d : Option Nat) (fr : Nat → Value) (v : Value) : Nat → Value := match d with | none => fr | some d => upd fr d v
def gK (N : Nat) (fr : Nat → Value) (g : Option (Nat × Bool)) (p q : Prop) (_ : Bx p := ⟨⟩) (_ : Bx q := ⟨⟩) : Prop := match wantedA N fr g with | none => False | some true => p | some false => q
def oK (E : Env) (lim : Nat) (base : Option Nat) (dest : Option Nat) (mask : List Nat) (o : AOp) (fr : Nat → Value) (H : Heap) (Q : Value → Heap → Prop) (_ : Bx Q := ⟨⟩) : Prop :=
  match base with
  | none => ∃ n v H', stepOp (aCall E n) lim none o (ev fr) H = some (v, H') ∧ Q v H'
  | some b => ∃ n v H', stepOp (aCall E n) lim (dest.map (b + ·)) o (ev fr) (maskH b mask H) = some (v, H') ∧ Q v (unmaskH b mask H H')
theorem putD_ok {N : Nat} {d : Option Nat} (h : dOk N d = true) (v : Value) : putD N fr d v = some (putF d fr v) := by
  cases d with
  | none => rfl
  | some d => simp [dOk] at h; simp [putD, putF, h]
theorem Ret_cons {base : Option Nat} {x : AIns} {l : List AIns} : Ret E af lim (.ops base (x :: l) :: K) fr H R = ∃ n, ∃ fr' H', insOp (aCall E n) af.ntmps lim base x fr H = some (fr', H') ∧ Ret E af lim (.ops base l :: K) fr' H' R := by
  apply propext
  constructor
  · rintro ⟨n, v, H', hx, hr⟩
    cases n with
    | zero => simp [aRun] at hx
    | succ n =>
      rw [aRun.eq_def] at hx
      simp only at hx
      split at hx
      · rename_i fr' H1 h1
        exact ⟨n, fr', H1, h1, n, v, H', hx, hr⟩
      · cases hx
  · rintro ⟨n, fr', H1, h1, m, v, H', hx, hr⟩
    refine ⟨max n m + 1, v, H', ?_, hr⟩
    rw [aRun.eq_def]
    simp only
    have e : insOp (callWith E (aRun E (max n m))) af.ntmps lim base x fr H = some (fr', H1) := insOp_mono (aCall_le E (Nat.le_max_left n m)) h1
    rw [e]
    exact aRun_le E (Nat.le_max_right n m) hx
theorem Ret_i {base d g o dest mask l} (hd : dOk af.ntmps d = true) : Ret E af lim (.ops base (⟨d, g, o, dest, mask⟩ :: l) :: K) fr H R =
    gK af.ntmps fr g (oK E lim base dest mask o fr H fun v H' => Ret E af lim (.ops base l :: K) (putF d fr v) H' R) (Ret E af lim (.ops base l :: K) (putF d fr undef) H R) := by
  rw [Ret_cons]
  unfold gK insOp insVal
  simp only
  cases hw : wantedA af.ntmps fr g with
  | none => simp
  | some t =>
    cases t with
    | false =>
      simp only [Option.map_eq_some_iff, Prod.mk.injEq, putD_ok hd]
      apply propext
      constructor
      · rintro ⟨n, fr', H', ⟨f, h1, h2, h3⟩, h4⟩
        cases h1; subst h2 h3; exact h4
      · intro h
        exact ⟨0, _, _, ⟨_, rfl, rfl, rfl⟩, h⟩
    | true =>
      cases base with
      | none =>
        simp only [oK]
        apply propext
        constructor
        · rintro ⟨n, fr', H', h1, h4⟩
          split at h1
          · rename_i v H1 h5
            rw [putD_ok hd] at h1
            simp only [Option.map_some, Option.some.injEq, Prod.mk.injEq] at h1
            obtain ⟨rfl, rfl⟩ := h1
            exact ⟨n, v, H1, h5, h4⟩
          · cases h1
        · rintro ⟨n, v, H', h1, h4⟩
          refine ⟨n, _, _, ?_, h4⟩
          rw [h1]
          simp only [putD_ok hd, Option.map_some]
      | some b =>
        simp only [oK]
        apply propext
        constructor
        · rintro ⟨n, fr', H', h1, h4⟩
          split at h1
          · rename_i v H1 h5
            split at h5
            · rename_i v' H2 h6
              cases h5
              rw [putD_ok hd] at h1
              simp only [Option.map_some, Option.some.injEq, Prod.mk.injEq] at h1
              obtain ⟨rfl, rfl⟩ := h1
              exact ⟨n, v, H2, h6, h4⟩
            · cases h5
          · cases h1
        · rintro ⟨n, v, H', h1, h4⟩
          refine ⟨n, _, _, ?_, h4⟩
          rw [h1]
          simp only [putD_ok hd, Option.map_some]
theorem gK_none {N : Nat} {p q : Prop} : gK N fr none p q = p := rfl
theorem gK_some {N g : Nat} {b : Bool} {p q : Prop} (h : g < N) : gK N fr (some (g, b)) p q = wantK (fr g) b p q := by
  unfold gK wantedA wantK
  simp only [h, if_true]
  cases fr g <;> simp
  rename_i c
  cases c <;> cases b <;> simp
variable {base dest : Option Nat} {mask : List Nat} {o : AOp} {Q : Value → Heap → Prop}
theorem stepOp_no {C : CallF} {ρ : Operand → Value} (h : isCall o = false) : stepOp C lim dest o ρ H = aOp lim dest o ρ H := by
  cases o <;> first | rfl | (simp [isCall] at h)
theorem oK_none (h : isCall o = false) : oK E lim none dest mask o fr H Q = opK (aOp lim none o (ev fr) H) Q := by
  unfold oK opK
  simp only [stepOp_no h]
  cases aOp lim none o (ev fr) H with
  | none => simp
  | some p => exact propext ⟨by rintro ⟨_, _, _, h, q⟩; cases h; exact q, fun q => ⟨0, _, _, rfl, q⟩⟩
theorem oK_some {b : Nat} (h : isCall o = false) : oK E lim (some b) dest mask o fr H Q = opK (aOp lim (dest.map (b + ·)) o (ev fr) (maskH b mask H)) fun v H' => Q v (unmaskH b mask H H') := by
  unfold oK opK
  simp only [stepOp_no h]
  cases aOp lim (dest.map (b + ·)) o (ev fr) (maskH b mask H) with
  | none => simp
  | some p => exact propext ⟨by rintro ⟨_, _, _, h, q⟩; cases h; exact q, fun q => ⟨0, _, _, rfl, q⟩⟩
def calK (c : Option ((FuncId ⊕ Nat) × List Value)) (f : FuncId ⊕ Nat → List Value → Prop) (_ : Bx f := ⟨⟩) : Prop := match c with | some (g, as) => f g as | none => False
theorem CallT_inl {mp : Bool} {g : FuncId} {as : List Value} : CallT E mp lim (.inl g) as H Q = CallR E mp lim g as H Q := rfl
theorem CallT_inr {mp : Bool} {i : Nat} {as : List Value} : CallT E mp lim (.inr i) as H Q = CallY E mp lim i as H Q := rfl
theorem calK_some {g : FuncId ⊕ Nat} {as : List Value} {f : FuncId ⊕ Nat → List Value → Prop} : calK (some (g, as)) f = f g as := rfl
theorem pure_any : CM.any.isPure = false := id rfl
theorem pure_pure : CM.pure.isPure = true := id rfl
theorem pure_mk : CM.mk.isPure = false := id rfl
theorem lim_any {H : Heap} : CM.any.lim lim H = lim := id rfl
theorem lim_pure {H : Heap} : CM.pure.lim lim H = lim := id rfl
theorem lim_mk {H : Heap} : CM.mk.lim lim H = H.length := id rfl
theorem oK_call {mp : CM} {f : Operand} {args : List Operand} (hm : mp ≠ .maps) : oK E lim none dest mask (.call mp f args) fr H Q = calK (callee (ev fr f) (args.map (ev fr))) fun g as => CallT E mp.isPure (mp.lim lim H) g as H Q := by
  unfold oK calK stepOp CallT
  simp only
  cases callee (ev fr f) (args.map (ev fr)) with
  | none => simp
  | some p => obtain ⟨g, as⟩ := p; cases mp <;> first | exact absurd rfl hm | rfl
theorem oK_callB {b : Nat} {mp : CM} {f : Operand} {args : List Operand} (hm : mp ≠ .maps) : oK E lim (some b) dest mask (.call mp f args) fr H Q = calK (callee (ev fr f) (args.map (ev fr))) fun g as => CallT E mp.isPure (mp.lim lim (maskH b mask H)) g as (maskH b mask H) fun v H' => Q v (unmaskH b mask H H') := by
  unfold oK calK stepOp CallT
  simp only
  cases callee (ev fr f) (args.map (ev fr)) with
  | none => simp
  | some p => obtain ⟨g, as⟩ := p; cases mp <;> first | exact absurd rfl hm | rfl
theorem oK_maps {f : Operand} {args : List Operand} : oK E lim none dest mask (.call .maps f args) fr H Q = calK (callee (ev fr f) (args.map (ev fr))) fun g as => CallT E false lim g as H fun v H' => cellsKept H H' = true ∧ Q v H' := by
  unfold oK calK CallT
  simp only [stepOp]
  cases callee (ev fr f) (args.map (ev fr)) with
  | none => simp
  | some p =>
    obtain ⟨g, as⟩ := p
    apply propext
    constructor
    · rintro ⟨n, v, H', h, q⟩
      obtain ⟨h1, h2⟩ := finM_some h
      exact ⟨n, v, H', h1, h2 rfl, q⟩
    · rintro ⟨n, v, H', h1, h2, q⟩
      refine ⟨n, v, H', ?_, q⟩
      show finM .maps H (aCall E n false lim g as H) = some (v, H')
      rw [h1]
      simp only [finM, if_pos h2]
theorem oK_mapsB {b : Nat} {f : Operand} {args : List Operand} : oK E lim (some b) dest mask (.call .maps f args) fr H Q = calK (callee (ev fr f) (args.map (ev fr))) fun g as => CallT E false lim g as (maskH b mask H) fun v H' => cellsKept (maskH b mask H) H' = true ∧ Q v (unmaskH b mask H H') := by
  unfold oK calK CallT
  simp only [stepOp]
  cases callee (ev fr f) (args.map (ev fr)) with
  | none => simp
  | some p =>
    obtain ⟨g, as⟩ := p
    apply propext
    constructor
    · rintro ⟨n, v, H', h, q⟩
      obtain ⟨h1, h2⟩ := finM_some h
      exact ⟨n, v, H', h1, h2 rfl, q⟩
    · rintro ⟨n, v, H', h1, h2, q⟩
      refine ⟨n, v, H', ?_, q⟩
      show finM .maps (maskH b mask H) (aCall E n false lim g as (maskH b mask H)) = some (v, H')
      rw [h1]
      simp only [finM, if_pos h2]
theorem CallR.det {mp : Bool} {g : FuncId} {as : List Value} {n : Nat} {v : Value} {H' : Heap} (h : aCall E n mp lim (.inl g) as H = some (v, H')) : CallR E mp lim g as H Q = Q v H' := by
  apply propext
  constructor
  · rintro ⟨m, v', H1, h1, h2⟩
    have e1 := aCall_le E (Nat.le_max_left n m) _ _ _ _ _ _ h
    have e2 := aCall_le E (Nat.le_max_right n m) _ _ _ _ _ _ h1
    rw [e1] at e2; cases e2; exact h2
  · exact fun hq => ⟨n, v, H', h, hq⟩
theorem CallR_old {mp : Bool} {g : FuncId} {as : List Value} {v : Value} (ho : E.orc g as = none) (ht : E.tr g = some af) (hp : E.pure g = true) (hf : olds H.length 4 v = true) (h : Ret E af H.length [.code af.body] (frame0 as) H fun v' _ => v' = v) : CallR E mp lim g as H Q = Q v H := by
  obtain ⟨n, v', H', h1, rfl⟩ := h
  exact CallR.det (n := n) (by unfold aCall callWith; simp only [ho, ht, hp, if_true, h1, hf])
theorem CallR_pure {mp : Bool} {g : FuncId} {as : List Value} {v : Value} (ho : E.orc g as = none) (ht : E.tr g = some af) (hp : E.pure g = true) (hf : flat 4 v = true) (h : Ret E af H.length [.code af.body] (frame0 as) H fun v' _ => v' = v) : CallR E mp lim g as H Q = Q v H :=
  CallR_old ho ht hp (olds_of_flat 4 hf) h
theorem CallR_orc {mp : Bool} {g : FuncId} {as : List Value} {v : Value} (ho : E.orc g as = some v) (ha : as.all atom = true) (hf : flat 4 v = true) : CallR E mp lim g as H Q = Q v H :=
  CallR.det (n := 0) (by unfold aCall callWith; simp only [ho, ha, hf, Bool.and_self, if_true])
theorem CallR_run {mp : Bool} {g : FuncId} {as : List Value} (ho : E.orc g as = none) (ht : E.tr g = some af) (hp : E.pure g = false) (hm : mp = false) : CallR E mp lim g as H Q = Ret E af lim [.code af.body] (frame0 as) H Q := by
  unfold CallR Ret aCall callWith
  simp only [ho, ht, hp, hm, Bool.false_eq_true, if_false]
end
section
variable {E : Env} {af : AFunc} {lim : Nat} {K : List AItem} {fr fr' : Nat → Value} {H H' : Heap} {R : Value → Heap → Prop}
theorem opK_some {v : Value} {f : Value → Heap → Prop} : opK (some (v, H)) f = f v H := rfl
theorem upd_same {d : Nat} {v : Value} : upd fr d v d = v := by simp [upd]
theorem upd_ne {d t : Nat} {v : Value} (h : t ≠ d) : upd fr d v t = fr t := by simp [upd, h]
theorem ev_tmp {t : Nat} : ev fr (.tmp t) = fr t := rfl
theorem ev_const {v : Value} : ev fr (.const v) = v := rfl
theorem ev_func {f : FuncId} : ev fr (.func f) = .func (.func f) #[] #[] := rfl
theorem hget_old {X : Heap} {j : Nat} (h : j < H.length) : hget (H ++ X) j = hget H j := by
  unfold hget; rw [List.getD_eq_getElem?_getD, List.getD_eq_getElem?_getD, List.getElem?_append_left h]
theorem hget_new {X : Heap} {j : Nat} : hget (H ++ X) (H.length + j) = X.getD j .dead := by
  unfold hget; rw [List.getD_eq_getElem?_getD, List.getD_eq_getElem?_getD, List.getElem?_append_right (by omega)]; simp
theorem hget_new0 {X : Heap} : hget (H ++ X) H.length = X.getD 0 .dead := hget_new (j := 0)
theorem set_new {X : Heap} {j : Nat} {b : Blk} : (H ++ X).set (H.length + j) b = H ++ X.set j b := by
  rw [List.set_append_right _ _ (by omega)]; simp
theorem set_new0 {X : Heap} {b : Blk} : (H ++ X).set H.length b = H ++ X.set 0 b := set_new (j := 0)
theorem mask_nil {b : Nat} : maskH b [] H = H := rfl
theorem unmask_nil {b : Nat} {H0 : Heap} : unmaskH b [] H0 H = H := rfl
end
section
variable {E : Env} {lim b : Nat} {dest : Option Nat} {mask : List Nat} {fr : Nat → Value} {H : Heap} {Q : Value → Heap → Prop}
theorem on_mov {qx : Operand} : oK E lim none dest mask (.mov qx) fr H Q = opK (aOp lim none (.mov qx) (ev fr) H) Q := oK_none rfl
theorem ob_mov {qx : Operand} : oK E lim (some b) dest mask (.mov qx) fr H Q = opK (aOp lim (dest.map (b + ·)) (.mov qx) (ev fr) (maskH b mask H)) fun v H' => Q v (unmaskH b mask H H') := oK_some rfl
theorem on_pick {qc qa qb : Operand} : oK E lim none dest mask (.pick qc qa qb) fr H Q = opK (aOp lim none (.pick qc qa qb) (ev fr) H) Q := oK_none rfl
theorem ob_pick {qc qa qb : Operand} : oK E lim (some b) dest mask (.pick qc qa qb) fr H Q = opK (aOp lim (dest.map (b + ·)) (.pick qc qa qb) (ev fr) (maskH b mask H)) fun v H' => Q v (unmaskH b mask H H') := oK_some rfl
theorem on_bin {qop : BinOp} {qx qy : Operand} : oK E lim none dest mask (.bin qop qx qy) fr H Q = opK (aOp lim none (.bin qop qx qy) (ev fr) H) Q := oK_none rfl
theorem ob_bin {qop : BinOp} {qx qy : Operand} : oK E lim (some b) dest mask (.bin qop qx qy) fr H Q = opK (aOp lim (dest.map (b + ·)) (.bin qop qx qy) (ev fr) (maskH b mask H)) fun v H' => Q v (unmaskH b mask H H') := oK_some rfl
theorem on_eqv {qneg : Bool} {qk : EqKind} {qx qy : Operand} : oK E lim none dest mask (.eqv qneg qk qx qy) fr H Q = opK (aOp lim none (.eqv qneg qk qx qy) (ev fr) H) Q := oK_none rfl
theorem ob_eqv {qneg : Bool} {qk : EqKind} {qx qy : Operand} : oK E lim (some b) dest mask (.eqv qneg qk qx qy) fr H Q = opK (aOp lim (dest.map (b + ·)) (.eqv qneg qk qx qy) (ev fr) (maskH b mask H)) fun v H' => Q v (unmaskH b mask H H') := oK_some rfl
theorem on_un {qop : UnOp} {qx : Operand} : oK E lim none dest mask (.un qop qx) fr H Q = opK (aOp lim none (.un qop qx) (ev fr) H) Q := oK_none rfl
theorem ob_un {qop : UnOp} {qx : Operand} : oK E lim (some b) dest mask (.un qop qx) fr H Q = opK (aOp lim (dest.map (b + ·)) (.un qop qx) (ev fr) (maskH b mask H)) fun v H' => Q v (unmaskH b mask H H') := oK_some rfl
theorem on_conv {qk : IntKind} {qx : Operand} : oK E lim none dest mask (.conv qk qx) fr H Q = opK (aOp lim none (.conv qk qx) (ev fr) H) Q := oK_none rfl
theorem ob_conv {qk : IntKind} {qx : Operand} : oK E lim (some b) dest mask (.conv qk qx) fr H Q = opK (aOp lim (dest.map (b + ·)) (.conv qk qx) (ev fr) (maskH b mask H)) fun v H' => Q v (unmaskH b mask H H') := oK_some rfl
theorem on_alloc {qzero : List Value} : oK E lim none dest mask (.alloc qzero) fr H Q = opK (aOp lim none (.alloc qzero) (ev fr) H) Q := oK_none rfl
theorem ob_alloc {qzero : List Value} : oK E lim (some b) dest mask (.alloc qzero) fr H Q = opK (aOp lim (dest.map (b + ·)) (.alloc qzero) (ev fr) (maskH b mask H)) fun v H' => Q v (unmaskH b mask H H') := oK_some rfl
theorem on_box {qx : Operand} : oK E lim none dest mask (.box qx) fr H Q = opK (aOp lim none (.box qx) (ev fr) H) Q := oK_none rfl
theorem ob_box {qx : Operand} : oK E lim (some b) dest mask (.box qx) fr H Q = opK (aOp lim (dest.map (b + ·)) (.box qx) (ev fr) (maskH b mask H)) fun v H' => Q v (unmaskH b mask H H') := oK_some rfl
theorem on_build {qzero : List Value} {qparts : List (Nat × Nat × Operand)} : oK E lim none dest mask (.build qzero qparts) fr H Q = opK (aOp lim none (.build qzero qparts) (ev fr) H) Q := oK_none rfl
theorem ob_build {qzero : List Value} {qparts : List (Nat × Nat × Operand)} : oK E lim (some b) dest mask (.build qzero qparts) fr H Q = opK (aOp lim (dest.map (b + ·)) (.build qzero qparts) (ev fr) (maskH b mask H)) fun v H' => Q v (unmaskH b mask H H') := oK_some rfl
theorem on_buildSlice {qlen : Nat} {qzero : List Value} {qparts : List (Nat × Nat × Operand)} : oK E lim none dest mask (.buildSlice qlen qzero qparts) fr H Q = opK (aOp lim none (.buildSlice qlen qzero qparts) (ev fr) H) Q := oK_none rfl
theorem ob_buildSlice {qlen : Nat} {qzero : List Value} {qparts : List (Nat × Nat × Operand)} : oK E lim (some b) dest mask (.buildSlice qlen qzero qparts) fr H Q = opK (aOp lim (dest.map (b + ·)) (.buildSlice qlen qzero qparts) (ev fr) (maskH b mask H)) fun v H' => Q v (unmaskH b mask H H') := oK_some rfl
theorem on_load1 {qa : Operand} : oK E lim none dest mask (.load1 qa) fr H Q = opK (aOp lim none (.load1 qa) (ev fr) H) Q := oK_none rfl
theorem ob_load1 {qa : Operand} : oK E lim (some b) dest mask (.load1 qa) fr H Q = opK (aOp lim (dest.map (b + ·)) (.load1 qa) (ev fr) (maskH b mask H)) fun v H' => Q v (unmaskH b mask H H') := oK_some rfl
theorem on_loadN {qn : Nat} {qa : Operand} : oK E lim none dest mask (.loadN qn qa) fr H Q = opK (aOp lim none (.loadN qn qa) (ev fr) H) Q := oK_none rfl
theorem ob_loadN {qn : Nat} {qa : Operand} : oK E lim (some b) dest mask (.loadN qn qa) fr H Q = opK (aOp lim (dest.map (b + ·)) (.loadN qn qa) (ev fr) (maskH b mask H)) fun v H' => Q v (unmaskH b mask H H') := oK_some rfl
theorem on_store {qn : Nat} {qa qx : Operand} : oK E lim none dest mask (.store qn qa qx) fr H Q = opK (aOp lim none (.store qn qa qx) (ev fr) H) Q := oK_none rfl
theorem ob_store {qn : Nat} {qa qx : Operand} : oK E lim (some b) dest mask (.store qn qa qx) fr H Q = opK (aOp lim (dest.map (b + ·)) (.store qn qa qx) (ev fr) (maskH b mask H)) fun v H' => Q v (unmaskH b mask H H') := oK_some rfl
theorem on_nilCheck {qx : Operand} : oK E lim none dest mask (.nilCheck qx) fr H Q = opK (aOp lim none (.nilCheck qx) (ev fr) H) Q := oK_none rfl
theorem ob_nilCheck {qx : Operand} : oK E lim (some b) dest mask (.nilCheck qx) fr H Q = opK (aOp lim (dest.map (b + ·)) (.nilCheck qx) (ev fr) (maskH b mask H)) fun v H' => Q v (unmaskH b mask H H') := oK_some rfl
theorem on_fieldAddr {qoff : Nat} {qa : Operand} : oK E lim none dest mask (.fieldAddr qoff qa) fr H Q = opK (aOp lim none (.fieldAddr qoff qa) (ev fr) H) Q := oK_none rfl
theorem ob_fieldAddr {qoff : Nat} {qa : Operand} : oK E lim (some b) dest mask (.fieldAddr qoff qa) fr H Q = opK (aOp lim (dest.map (b + ·)) (.fieldAddr qoff qa) (ev fr) (maskH b mask H)) fun v H' => Q v (unmaskH b mask H H') := oK_some rfl
theorem on_field1 {qoff : Nat} {qx : Operand} : oK E lim none dest mask (.field1 qoff qx) fr H Q = opK (aOp lim none (.field1 qoff qx) (ev fr) H) Q := oK_none rfl
theorem ob_field1 {qoff : Nat} {qx : Operand} : oK E lim (some b) dest mask (.field1 qoff qx) fr H Q = opK (aOp lim (dest.map (b + ·)) (.field1 qoff qx) (ev fr) (maskH b mask H)) fun v H' => Q v (unmaskH b mask H H') := oK_some rfl
theorem on_fieldN {qoff qn : Nat} {qx : Operand} : oK E lim none dest mask (.fieldN qoff qn qx) fr H Q = opK (aOp lim none (.fieldN qoff qn qx) (ev fr) H) Q := oK_none rfl
theorem ob_fieldN {qoff qn : Nat} {qx : Operand} : oK E lim (some b) dest mask (.fieldN qoff qn qx) fr H Q = opK (aOp lim (dest.map (b + ·)) (.fieldN qoff qn qx) (ev fr) (maskH b mask H)) fun v H' => Q v (unmaskH b mask H H') := oK_some rfl
theorem on_idxAddrA {qlen qesz : Nat} {qx qi : Operand} : oK E lim none dest mask (.idxAddrA qlen qesz qx qi) fr H Q = opK (aOp lim none (.idxAddrA qlen qesz qx qi) (ev fr) H) Q := oK_none rfl
theorem ob_idxAddrA {qlen qesz : Nat} {qx qi : Operand} : oK E lim (some b) dest mask (.idxAddrA qlen qesz qx qi) fr H Q = opK (aOp lim (dest.map (b + ·)) (.idxAddrA qlen qesz qx qi) (ev fr) (maskH b mask H)) fun v H' => Q v (unmaskH b mask H H') := oK_some rfl
theorem on_idxA {qlen qesz : Nat} {qagg : Bool} {qx qi : Operand} : oK E lim none dest mask (.idxA qlen qesz qagg qx qi) fr H Q = opK (aOp lim none (.idxA qlen qesz qagg qx qi) (ev fr) H) Q := oK_none rfl
theorem ob_idxA {qlen qesz : Nat} {qagg : Bool} {qx qi : Operand} : oK E lim (some b) dest mask (.idxA qlen qesz qagg qx qi) fr H Q = opK (aOp lim (dest.map (b + ·)) (.idxA qlen qesz qagg qx qi) (ev fr) (maskH b mask H)) fun v H' => Q v (unmaskH b mask H H') := oK_some rfl
theorem on_idxStr {qx qi : Operand} : oK E lim none dest mask (.idxStr qx qi) fr H Q = opK (aOp lim none (.idxStr qx qi) (ev fr) H) Q := oK_none rfl
theorem ob_idxStr {qx qi : Operand} : oK E lim (some b) dest mask (.idxStr qx qi) fr H Q = opK (aOp lim (dest.map (b + ·)) (.idxStr qx qi) (ev fr) (maskH b mask H)) fun v H' => Q v (unmaskH b mask H H') := oK_some rfl
theorem on_sliceS {qesz : Nat} {qx : Operand} {qlo qhi qmx : Option Operand} : oK E lim none dest mask (.sliceS qesz qx qlo qhi qmx) fr H Q = opK (aOp lim none (.sliceS qesz qx qlo qhi qmx) (ev fr) H) Q := oK_none rfl
theorem ob_sliceS {qesz : Nat} {qx : Operand} {qlo qhi qmx : Option Operand} : oK E lim (some b) dest mask (.sliceS qesz qx qlo qhi qmx) fr H Q = opK (aOp lim (dest.map (b + ·)) (.sliceS qesz qx qlo qhi qmx) (ev fr) (maskH b mask H)) fun v H' => Q v (unmaskH b mask H H') := oK_some rfl
theorem on_sliceStr {qx : Operand} {qlo qhi : Option Operand} : oK E lim none dest mask (.sliceStr qx qlo qhi) fr H Q = opK (aOp lim none (.sliceStr qx qlo qhi) (ev fr) H) Q := oK_none rfl
theorem ob_sliceStr {qx : Operand} {qlo qhi : Option Operand} : oK E lim (some b) dest mask (.sliceStr qx qlo qhi) fr H Q = opK (aOp lim (dest.map (b + ·)) (.sliceStr qx qlo qhi) (ev fr) (maskH b mask H)) fun v H' => Q v (unmaskH b mask H H') := oK_some rfl
theorem on_lenStr {qx : Operand} : oK E lim none dest mask (.lenStr qx) fr H Q = opK (aOp lim none (.lenStr qx) (ev fr) H) Q := oK_none rfl
theorem ob_lenStr {qx : Operand} : oK E lim (some b) dest mask (.lenStr qx) fr H Q = opK (aOp lim (dest.map (b + ·)) (.lenStr qx) (ev fr) (maskH b mask H)) fun v H' => Q v (unmaskH b mask H H') := oK_some rfl
theorem on_capSlice {qx : Operand} : oK E lim none dest mask (.capSlice qx) fr H Q = opK (aOp lim none (.capSlice qx) (ev fr) H) Q := oK_none rfl
theorem ob_capSlice {qx : Operand} : oK E lim (some b) dest mask (.capSlice qx) fr H Q = opK (aOp lim (dest.map (b + ·)) (.capSlice qx) (ev fr) (maskH b mask H)) fun v H' => Q v (unmaskH b mask H H') := oK_some rfl
theorem on_lenSlice {qx : Operand} : oK E lim none dest mask (.lenSlice qx) fr H Q = opK (aOp lim none (.lenSlice qx) (ev fr) H) Q := oK_none rfl
theorem ob_lenSlice {qx : Operand} : oK E lim (some b) dest mask (.lenSlice qx) fr H Q = opK (aOp lim (dest.map (b + ·)) (.lenSlice qx) (ev fr) (maskH b mask H)) fun v H' => Q v (unmaskH b mask H H') := oK_some rfl
theorem on_lenMap {qx : Operand} : oK E lim none dest mask (.lenMap qx) fr H Q = opK (aOp lim none (.lenMap qx) (ev fr) H) Q := oK_none rfl
theorem ob_lenMap {qx : Operand} : oK E lim (some b) dest mask (.lenMap qx) fr H Q = opK (aOp lim (dest.map (b + ·)) (.lenMap qx) (ev fr) (maskH b mask H)) fun v H' => Q v (unmaskH b mask H H') := oK_some rfl
theorem on_lenK {qn : Nat} : oK E lim none dest mask (.lenK qn) fr H Q = opK (aOp lim none (.lenK qn) (ev fr) H) Q := oK_none rfl
theorem ob_lenK {qn : Nat} : oK E lim (some b) dest mask (.lenK qn) fr H Q = opK (aOp lim (dest.map (b + ·)) (.lenK qn) (ev fr) (maskH b mask H)) fun v H' => Q v (unmaskH b mask H H') := oK_some rfl
theorem on_append {qesz qbytes : Nat} {qstr : Bool} {qs qx : Operand} : oK E lim none dest mask (.append qesz qbytes qstr qs qx) fr H Q = opK (aOp lim none (.append qesz qbytes qstr qs qx) (ev fr) H) Q := oK_none rfl
theorem ob_append {qesz qbytes : Nat} {qstr : Bool} {qs qx : Operand} : oK E lim (some b) dest mask (.append qesz qbytes qstr qs qx) fr H Q = opK (aOp lim (dest.map (b + ·)) (.append qesz qbytes qstr qs qx) (ev fr) (maskH b mask H)) fun v H' => Q v (unmaskH b mask H H') := oK_some rfl
theorem on_append0 {qesz qbytes : Nat} {qstr : Bool} {qs qx : Operand} : oK E lim none dest mask (.append0 qesz qbytes qstr qs qx) fr H Q = opK (aOp lim none (.append0 qesz qbytes qstr qs qx) (ev fr) H) Q := oK_none rfl
theorem ob_append0 {qesz qbytes : Nat} {qstr : Bool} {qs qx : Operand} : oK E lim (some b) dest mask (.append0 qesz qbytes qstr qs qx) fr H Q = opK (aOp lim (dest.map (b + ·)) (.append0 qesz qbytes qstr qs qx) (ev fr) (maskH b mask H)) fun v H' => Q v (unmaskH b mask H H') := oK_some rfl
theorem on_minmax {qmx : Bool} {qxs : List Operand} : oK E lim none dest mask (.minmax qmx qxs) fr H Q = opK (aOp lim none (.minmax qmx qxs) (ev fr) H) Q := oK_none rfl
theorem ob_minmax {qmx : Bool} {qxs : List Operand} : oK E lim (some b) dest mask (.minmax qmx qxs) fr H Q = opK (aOp lim (dest.map (b + ·)) (.minmax qmx qxs) (ev fr) (maskH b mask H)) fun v H' => Q v (unmaskH b mask H H') := oK_some rfl
theorem on_makeSlice {qesz qbytes : Nat} {qzero : List Value} {qlen qcap : Operand} : oK E lim none dest mask (.makeSlice qesz qbytes qzero qlen qcap) fr H Q = opK (aOp lim none (.makeSlice qesz qbytes qzero qlen qcap) (ev fr) H) Q := oK_none rfl
theorem ob_makeSlice {qesz qbytes : Nat} {qzero : List Value} {qlen qcap : Operand} : oK E lim (some b) dest mask (.makeSlice qesz qbytes qzero qlen qcap) fr H Q = opK (aOp lim (dest.map (b + ·)) (.makeSlice qesz qbytes qzero qlen qcap) (ev fr) (maskH b mask H)) fun v H' => Q v (unmaskH b mask H H') := oK_some rfl
theorem on_growNil {qesz qbytes : Nat} {qzero : List Value} {qlen qcap : Operand} : oK E lim none dest mask (.growNil qesz qbytes qzero qlen qcap) fr H Q = opK (aOp lim none (.growNil qesz qbytes qzero qlen qcap) (ev fr) H) Q := oK_none rfl
theorem ob_growNil {qesz qbytes : Nat} {qzero : List Value} {qlen qcap : Operand} : oK E lim (some b) dest mask (.growNil qesz qbytes qzero qlen qcap) fr H Q = opK (aOp lim (dest.map (b + ·)) (.growNil qesz qbytes qzero qlen qcap) (ev fr) (maskH b mask H)) fun v H' => Q v (unmaskH b mask H H') := oK_some rfl
theorem on_makeMap {qhint : Option Operand} : oK E lim none dest mask (.makeMap qhint) fr H Q = opK (aOp lim none (.makeMap qhint) (ev fr) H) Q := oK_none rfl
theorem ob_makeMap {qhint : Option Operand} : oK E lim (some b) dest mask (.makeMap qhint) fr H Q = opK (aOp lim (dest.map (b + ·)) (.makeMap qhint) (ev fr) (maskH b mask H)) fun v H' => Q v (unmaskH b mask H H') := oK_some rfl
theorem on_lookup {qkk : KK} {qzero : Value} {qok : Bool} {qm qkey : Operand} : oK E lim none dest mask (.lookup qkk qzero qok qm qkey) fr H Q = opK (aOp lim none (.lookup qkk qzero qok qm qkey) (ev fr) H) Q := oK_none rfl
theorem ob_lookup {qkk : KK} {qzero : Value} {qok : Bool} {qm qkey : Operand} : oK E lim (some b) dest mask (.lookup qkk qzero qok qm qkey) fr H Q = opK (aOp lim (dest.map (b + ·)) (.lookup qkk qzero qok qm qkey) (ev fr) (maskH b mask H)) fun v H' => Q v (unmaskH b mask H H') := oK_some rfl
theorem on_mapUpdate {qkk : KK} {qm qkey qv : Operand} : oK E lim none dest mask (.mapUpdate qkk qm qkey qv) fr H Q = opK (aOp lim none (.mapUpdate qkk qm qkey qv) (ev fr) H) Q := oK_none rfl
theorem ob_mapUpdate {qkk : KK} {qm qkey qv : Operand} : oK E lim (some b) dest mask (.mapUpdate qkk qm qkey qv) fr H Q = opK (aOp lim (dest.map (b + ·)) (.mapUpdate qkk qm qkey qv) (ev fr) (maskH b mask H)) fun v H' => Q v (unmaskH b mask H H') := oK_some rfl
theorem on_delete {qkk : KK} {qm qkey : Operand} : oK E lim none dest mask (.delete qkk qm qkey) fr H Q = opK (aOp lim none (.delete qkk qm qkey) (ev fr) H) Q := oK_none rfl
theorem ob_delete {qkk : KK} {qm qkey : Operand} : oK E lim (some b) dest mask (.delete qkk qm qkey) fr H Q = opK (aOp lim (dest.map (b + ·)) (.delete qkk qm qkey) (ev fr) (maskH b mask H)) fun v H' => Q v (unmaskH b mask H H') := oK_some rfl
theorem on_makeFunc {qf : FuncId} {qfirst qcaptured : List Operand} : oK E lim none dest mask (.makeFunc qf qfirst qcaptured) fr H Q = opK (aOp lim none (.makeFunc qf qfirst qcaptured) (ev fr) H) Q := oK_none rfl
theorem ob_makeFunc {qf : FuncId} {qfirst qcaptured : List Operand} : oK E lim (some b) dest mask (.makeFunc qf qfirst qcaptured) fr H Q = opK (aOp lim (dest.map (b + ·)) (.makeFunc qf qfirst qcaptured) (ev fr) (maskH b mask H)) fun v H' => Q v (unmaskH b mask H H') := oK_some rfl
theorem on_extract {qi : Nat} {qx : Operand} : oK E lim none dest mask (.extract qi qx) fr H Q = opK (aOp lim none (.extract qi qx) (ev fr) H) Q := oK_none rfl
theorem ob_extract {qi : Nat} {qx : Operand} : oK E lim (some b) dest mask (.extract qi qx) fr H Q = opK (aOp lim (dest.map (b + ·)) (.extract qi qx) (ev fr) (maskH b mask H)) fun v H' => Q v (unmaskH b mask H H') := oK_some rfl
theorem on_rowMark {qx : Operand} : oK E lim none dest mask (.rowMark qx) fr H Q = opK (aOp lim none (.rowMark qx) (ev fr) H) Q := oK_none rfl
theorem ob_rowMark {qx : Operand} : oK E lim (some b) dest mask (.rowMark qx) fr H Q = opK (aOp lim (dest.map (b + ·)) (.rowMark qx) (ev fr) (maskH b mask H)) fun v H' => Q v (unmaskH b mask H H') := oK_some rfl
theorem on_strId {qx : Operand} : oK E lim none dest mask (.strId qx) fr H Q = opK (aOp lim none (.strId qx) (ev fr) H) Q := oK_none rfl
theorem ob_strId {qx : Operand} : oK E lim (some b) dest mask (.strId qx) fr H Q = opK (aOp lim (dest.map (b + ·)) (.strId qx) (ev fr) (maskH b mask H)) fun v H' => Q v (unmaskH b mask H H') := oK_some rfl
end
section
variable {E : Env} {af : AFunc} {lim : Nat} {K : List AItem} {fr : Nat → Value} {H : Heap} {R : Value → Heap → Prop}
theorem Ret_is {base g o dest mask l} {d : Nat} (hd : d < af.ntmps) : Ret E af lim (.ops base (⟨some d, g, o, dest, mask⟩ :: l) :: K) fr H R =
    gK af.ntmps fr g (oK E lim base dest mask o fr H fun v H' => Ret E af lim (.ops base l :: K) (upd fr d v) H' R) (Ret E af lim (.ops base l :: K) (upd fr d undef) H R) := Ret_i (d := some d) (by simp [dOk, hd])
theorem Ret_in {base g o dest mask l} : Ret E af lim (.ops base (⟨none, g, o, dest, mask⟩ :: l) :: K) fr H R =
    gK af.ntmps fr g (oK E lim base dest mask o fr H fun v H' => Ret E af lim (.ops base l :: K) fr H' R) (Ret E af lim (.ops base l :: K) fr H R) := Ret_i (d := none) rfl
end
section
variable {E : Env} {af : AFunc} {lim : Nat} {K : List AItem} {fr : Nat → Value} {H : Heap} {R : Value → Heap → Prop}
end
section
variable {p q : Prop} {c : Prop} [Decidable c]
theorem wantK_tt : wantK (.bool true) true p q = p := by simp [wantK]
theorem wantK_ff : wantK (.bool false) false p q = p := by simp [wantK]
theorem wantK_tf : wantK (.bool true) false p q = q := by simp [wantK]
theorem wantK_ft : wantK (.bool false) true p q = q := by simp [wantK]
theorem condK_tt : condK (.bool true) p q = p := rfl
theorem condK_ff : condK (.bool false) p q = q := rfl
theorem wantK_dec {b : Bool} (h1 : c → wantK (.bool true) b p q) (h2 : ¬ c → wantK (.bool false) b p q) : wantK (.bool (decide c)) b p q := by
  by_cases h : c
  · rw [decide_eq_true h]; exact h1 h
  · rw [decide_eq_false h]; exact h2 h
theorem condK_dec (h1 : c → p) (h2 : ¬ c → q) : condK (.bool (decide c)) p q := by
  by_cases h : c
  · rw [decide_eq_true h]; exact h1 h
  · rw [decide_eq_false h]; exact h2 h
theorem wantK_any {t b : Bool} (h1 : t = true → wantK (.bool true) b p q) (h2 : t = false → wantK (.bool false) b p q) : wantK (.bool t) b p q := by
  cases t
  · exact h2 rfl
  · exact h1 rfl
theorem condK_any {t : Bool} (h1 : t = true → p) (h2 : t = false → q) : condK (.bool t) p q := by
  cases t
  · exact h2 rfl
  · exact h1 rfl
theorem int_beq {a b : Int} : (a == b) = decide (a = b) := by by_cases h : a = b <;> simp [h]
theorem int_bne {a b : Int} : (a != b) = decide (¬ a = b) := by by_cases h : a = b <;> simp [h, bne]
theorem not_dec : (!decide c) = decide (¬ c) := by by_cases h : c <;> simp [h]
end
def fillV (off size : Nat) (v : Value) (c : List Value) : Option (List Value) :=
  if v.cells.toList.length = size ∧ off + size ≤ c.length ∧ notTuple v = true then some (setAll c off v.cells.toList) else none
def fillK (ρ : Operand → Value) (rest : List (Nat × Nat × Operand)) (r : Option (List Value)) : Option (List Value) := match r with | some c => fillParts ρ rest c | none => none
theorem fillParts_cons {ρ : Operand → Value} {off size : Nat} {x : Operand} {rest : List (Nat × Nat × Operand)} {c : List Value} : fillParts ρ ((off, size, x) :: rest) c = fillK ρ rest (fillV off size (ρ x) c) := by
  unfold fillK fillV
  simp only [fillParts]
  split <;> rfl
theorem fillParts_nil {ρ : Operand → Value} {c : List Value} : fillParts ρ [] c = some c := rfl
theorem fillK_some {ρ : Operand → Value} {rest : List (Nat × Nat × Operand)} {c : List Value} : fillK ρ rest (some c) = fillParts ρ rest c := rfl
theorem fillK_congr {ρ : Operand → Value} {rest : List (Nat × Nat × Operand)} {r r' : Option (List Value)} (h : r = r') : fillK ρ rest r = fillK ρ rest r' := by rw [h]
theorem fillV_congr {off size : Nat} {v v' : Value} {c : List Value} (h : v = v') : fillV off size v c = fillV off size v' c := by rw [h]
attribute [congr] fillK_congr fillV_congr
theorem fillV_one {off : Nat} {v : Value} {c : List Value} (hv : v.oneCell' = true) (ht : notTuple v = true) (h : off < c.length) : fillV off 1 v c = some (c.set off v) := by
  cases v <;> first | (simp [Value.oneCell'] at hv; done) | (simp [notTuple] at ht; done) | (unfold fillV; rw [if_pos ⟨by simp [Value.cells], h, ht⟩]; rfl)
theorem fillV_int {off : Nat} {k : IntKind} {n : Int} {c : List Value} (h : off < c.length) : fillV off 1 (.int k n) c = some (c.set off (.int k n)) := fillV_one rfl rfl h
theorem fillV_bool {off : Nat} {b : Bool} {c : List Value} (h : off < c.length) : fillV off 1 (.bool b) c = some (c.set off (.bool b)) := fillV_one rfl rfl h
theorem fillV_agg {off n : Nat} {l c : List Value} (h : l.length = n ∧ off + n ≤ c.length) : fillV off n (.agg l.toArray) c = some (setAll c off l) := by
  unfold fillV
  rw [if_pos ⟨by simpa [Value.cells] using h.1, h.2, rfl⟩]
  rfl
theorem setAll_nil {c : List Value} {o : Nat} : setAll c o [] = c := rfl
theorem setAll_cons {c : List Value} {o : Nat} {v : Value} {vs : List Value} : setAll c o (v :: vs) = setAll (c.set o v) (o + 1) vs := rfl
section
variable {fr : Nat → Value} {H : Heap}
theorem cells_agg {a : Array Value} : (Value.agg a).cells = a := rfl
theorem cells_int {k : IntKind} {n : Int} : (Value.int k n).cells = #[.int k n] := rfl
theorem cells_bool {b : Bool} : (Value.bool b).cells = #[.bool b] := rfl
theorem arr_list {l : List Value} : l.toArray.toList = l := rfl
theorem arr_size {l : List Value} : l.toArray.size = l.length := rfl
def consK : Option Value → Option (List Value) → Option (List Value)
  | some v, some vs => some (v :: vs)
  | _, _ => none
def finK : Option (List Value) → Option Value
  | some [v] => some v
  | some vs => some (.tuple vs.toArray)
  | none => none
theorem resAll_nil : resAll fr H [] = some [] := rfl
theorem resAll_cons {r : ARes} {rs : List ARes} : resAll fr H (r :: rs) = consK (resVal fr H r) (resAll fr H rs) := by
  unfold consK
  simp only [resAll]
  cases resVal fr H r <;> cases resAll fr H rs <;> rfl
theorem result_fin {rs : List ARes} : result fr H rs = finK (resAll fr H rs) := by
  unfold finK result
  cases resAll fr H rs <;> rfl
theorem consK_some {v : Value} {vs : List Value} : consK (some v) (some vs) = some (v :: vs) := rfl
theorem finK_one {v : Value} : finK (some [v]) = some v := rfl
theorem finK_more {v u : Value} {vs : List Value} : finK (some (v :: u :: vs)) = some (.tuple (v :: u :: vs).toArray) := rfl
theorem finK_nil : finK (some []) = some (.tuple #[]) := rfl
end
def idxK (e : Nat) (x i : Value) (H : Heap) : Option (Value × Heap) := match x, i with
    | .slice (some p) len _, .int _ n => if 0 ≤ n ∧ n < (len : Int) then some (.pointer (some (p.add (n.toNat * e))), H) else none
    | _, _ => none
theorem aOp_idxS {lim : Nat} {dest : Option Nat} {e : Nat} {x i : Operand} {ρ : Operand → Value} {H : Heap} : aOp lim dest (.idxAddrS e x i) ρ H = idxK e (ρ x) (ρ i) H := by
  simp only [aOp]; unfold idxK; rfl
theorem idxK_nat {e n len c : Nat} {p : Addr} {k : IntKind} {H : Heap} (h : n < len) : idxK e (.slice (some p) len c) (.int k (n : Int)) H = some (.pointer (some (p.add (n * e))), H) := by
  unfold idxK
  simp only
  rw [if_pos ⟨by omega, by omega⟩]
  simp
section
variable {E : Env} {lim b : Nat} {dest : Option Nat} {mask : List Nat} {fr : Nat → Value} {H : Heap} {Q : Value → Heap → Prop}
theorem on_idxAddrS {e : Nat} {x i : Operand} : oK E lim none dest mask (.idxAddrS e x i) fr H Q = opK (idxK e (ev fr x) (ev fr i) H) Q := by rw [oK_none rfl, aOp_idxS]
theorem ob_idxAddrS {e : Nat} {x i : Operand} : oK E lim (some b) dest mask (.idxAddrS e x i) fr H Q = opK (idxK e (ev fr x) (ev fr i) (maskH b mask H)) fun v H' => Q v (unmaskH b mask H H') := by rw [oK_some rfl, aOp_idxS]
end
theorem addr_add {b o n : Nat} : (⟨b, o, none⟩ : Addr).add n = ⟨b, o + n, none⟩ := by
  simp only [Addr.add]
  first | rfl | (split <;> simp_all)
theorem wrap_nat {n : Nat} (h : n + 1 < 2 ^ 63) : IntKind.i64.wrap ((n : Int) + 1) = ((n + 1 : Nat) : Int) := by
  have h1 : ((n : Int) + 1) % 2 ^ 64 = (n : Int) + 1 := Int.emod_eq_of_lt (by omega) (by omega)
  simp only [IntKind.wrap, IntKind.bits, IntKind.signed, h1]
  rw [if_neg (by simp; omega)]
  omega
section
variable {b i : Nat} {l : List Nat} {H H0 : Heap}
theorem mask_cons : maskH b (i :: l) H = maskH b l (H.set (b + i) .dead) := rfl
theorem unmask_cons : unmaskH b (i :: l) H0 H = unmaskH b l H0 (H.set (b + i) (hget H0 (b + i))) := rfl
theorem pad_one : List.replicate 1 Blk.dead = [.dead] := rfl
theorem pad_zero : List.replicate 0 Blk.dead = [] := rfl
theorem pad_two : List.replicate 2 Blk.dead = [.dead, .dead] := rfl
theorem pad_three : List.replicate 3 Blk.dead = [.dead, .dead, .dead] := rfl
end
end Go.AM

namespace Go.Proofs.Ytcmhnincbkbncaa.Fn
open Go.AM Go.AM.Sym
set_option maxRecDepth 100000
def pure : List FuncId := [12,14,22,25,28,32,35,38,45,55,56,65,67,68,69,71,72,78,79,86,96,109,114,115,117,124,135,136]
def pf : FuncId → Bool := fun f => pure.contains f
def l12_1 : ACode := (.seq (.ops [i 130 (.bin .lss (t 129) (t 128))]) (.seq (.cond (t 130) .skip (.exit 4)) (.seq (.block 5 (.seq (.ops [i 131 (.mov (t 129)), i 15 (.mov (t 131))]) (.seq (.drawn 0 [i 132 (.mov (t 11)), i 133 (.mov (t 15)), i 134 (.idxAddrS 1 (t 132) (t 133)), i 135 (.load1 (t 134)), i 136 (.fieldAddr 0 (t 7)), i 137 (.load1 (t 136)), i 138 (.mov (t 15)), i 139 (.idxAddrS 1 (t 137) (t 138)), i 140 (.load1 (t 139)), i 141 (.bin .neq (t 135) (t 140))]) (.cond (t 141) (.seq (.seq (.drawn 0 [i 142 (.mov (t 11)), i 143 (.mov (t 15)), i 144 (.idxAddrS 1 (t 142) (t 143)), i 145 (.load1 (t 144)), i 146 (.fieldAddr 0 (t 7)), i 147 (.load1 (t 146)), i 148 (.mov (t 15)), i 149 (.idxAddrS 1 (t 147) (t 148)), i 150 (.load1 (t 149)), i 151 (.bin .lss (t 145) (t 150))]) (.cond (t 151) (.seq (.ops [i 4 (.mov (k (.bool false)))]) .ret) .skip)) (.exit 4)) .skip)))) (.ops [i 152 (.bin .add (t 129) (k (.int .i64 1))), i 129 (.mov (t 152))]))))
def l12_2 : ACode := (.seq (.ops [i 62 (.bin .lss (t 61) (t 60))]) (.seq (.cond (t 62) .skip (.exit 2)) (.seq (.block 3 (.seq (.ops [i 63 (.mov (t 61)), i 12 (.mov (t 63))]) (.seq (.ops [i 64 (.mov (t 10)), i 65 (.mov (t 12)), i 66 (.bin .shr (t 64) (t 65)), i 67 (.bin .and (t 66) (k (.int .i64 1))), i 68 (.bin .eql (t 67) (k (.int .i64 1)))]) (.cond (t 68) (.ops [i 69 (.mov (t 11)), i 70 (.mov (t 12)), i 71 (.buildSlice 1 [(.int .i64 0)] [(0, (1, (t 70)))]), i 72 (.append 1 8 false (t 69) (t 71)), i 11 (.mov (t 72))]) .skip)))) (.ops [i 73 (.bin .add (t 61) (k (.int .i64 1))), i 61 (.mov (t 73))]))))
def l12_3 : ACode := (.seq (.seq (.ops [i 52 (.mov (t 10)), i 53 (.mov (t 6)), i 54 (.lenSlice (t 53)), i 55 (.bin .shl (k (.int .i64 1)) (t 54)), i 56 (.bin .lss (t 52) (t 55))]) (.cond (t 56) .skip (.exit 0))) (.seq (.block 1 (.seq (.ops [i 11 (.mov (k (.slice none 0 0)))]) (.seq (.seq (.ops [i 59 (.mov (t 6)), i 60 (.lenSlice (t 59)), i 61 (.mov (k (.int .i64 0)))]) (.block 2 (.loop l12_2))) (.seq (.ops [i 75 (.loadN 2 (t 5)), i 76 (.mov (t 6)), i 77 (.mov (t 11)), i 78 (.call .any (.func 42) [(t 75), (t 76), (t 77)]), i 74 (.mov (t 78)), i 79 (.extract 0 (t 74)), i 80 (.extract 1 (t 74)), i 13 (.alloc [(.slice none 0 0), (.slice none 0 0), (.int .i64 0)]), ⟨none, none, (.store 3 (t 13) (t 79)), none, []⟩, i 14 (.mov (t 80))]) (.seq (.seq (.ops [i 81 (.mov (t 14)), i 82 (.bin .neq (t 81) (k (.int .i64 0))), i 83 (.mov (t 82)), ⟨(some 84), (some (83, false)), (.fieldAddr 2 (t 13)), none, []⟩, ⟨(some 85), (some (83, false)), (.load1 (t 84)), none, []⟩, ⟨(some 86), (some (83, false)), (.fieldAddr 2 (t 7)), none, []⟩, ⟨(some 87), (some (83, false)), (.load1 (t 86)), none, []⟩, ⟨(some 88), (some (83, false)), (.bin .lss (t 85) (t 87)), none, []⟩, i 89 (.pick (t 83) (k (.bool true)) (t 88)), i 90 (.mov (t 89)), ⟨(some 91), (some (90, false)), (.fieldAddr 2 (t 13)), none, []⟩, ⟨(some 92), (some (90, false)), (.load1 (t 91)), none, []⟩, ⟨(some 93), (some (90, false)), (.fieldAddr 2 (t 7)), none, []⟩, ⟨(some 94), (some (90, false)), (.load1 (t 93)), none, []⟩, ⟨(some 95), (some (90, false)), (.bin .eql (t 92) (t 94)), none, []⟩, ⟨(some 96), (some (90, false)), (.mov (t 95)), none, []⟩, ⟨(some 97), (some (96, true)), (.mov (t 11)), none, []⟩, ⟨(some 98), (some (96, true)), (.lenSlice (t 97)), none, []⟩, ⟨(some 99), (some (96, true)), (.fieldAddr 0 (t 7)), none, []⟩, ⟨(some 100), (some (96, true)), (.load1 (t 99)), none, []⟩, ⟨(some 101), (some (96, true)), (.lenSlice (t 100)), none, []⟩, ⟨(some 102), (some (96, true)), (.bin .gtr (t 98) (t 101)), none, []⟩, ⟨(some 103), (some (90, false)), (.pick (t 96) (t 102) (k (.bool false))), none, []⟩, i 104 (.pick (t 90) (k (.bool true)) (t 103))]) (.cond (t 104) (.seq (.ops [i 4 (.mov (k (.bool false)))]) .ret) .skip)) (.seq (.seq (.ops [i 105 (.mov (t 11)), i 106 (.fieldAddr 0 (t 7)), i 107 (.load1 (t 106)), i 108 (.call .any (.func 28) [(t 105), (t 107)])]) (.cond (t 108) (.seq (.ops [i 109 (.fieldAddr 2 (t 13)), i 110 (.load1 (t 109)), i 111 (.fieldAddr 2 (t 7)), i 112 (.load1 (t 111)), i 113 (.bin .eql (t 110) (t 112)), i 9 (.mov (t 113))]) (.exit 1)) .skip)) (.seq (.ops [i 114 (.fieldAddr 2 (t 13)), i 115 (.load1 (t 114)), i 116 (.fieldAddr 2 (t 7)), i 117 (.load1 (t 116)), i 118 (.bin .eql (t 115) (t 117)), i 119 (.mov (t 118)), ⟨(some 120), (some (119, true)), (.mov (t 11)), none, []⟩, ⟨(some 121), (some (119, true)), (.lenSlice (t 120)), none, []⟩, ⟨(some 122), (some (119, true)), (.fieldAddr 0 (t 7)), none, []⟩, ⟨(some 123), (some (119, true)), (.load1 (t 122)), none, []⟩, ⟨(some 124), (some (119, true)), (.lenSlice (t 123)), none, []⟩, ⟨(some 125), (some (119, true)), (.bin .eql (t 121) (t 124)), none, []⟩, i 126 (.pick (t 119) (t 125) (k (.bool false)))]) (.cond (t 126) (.seq (.ops [i 127 (.mov (t 11)), i 128 (.lenSlice (t 127)), i 129 (.mov (k (.int .i64 0)))]) (.block 4 (.loop l12_1))) .skip)))))))) (.ops [i 57 (.mov (t 10)), i 58 (.bin .add (t 57) (k (.int .i64 1))), i 10 (.mov (t 58))])))
def c12 : ACode := (.seq (.ops [i 4 (.mov (k (.bool false)))]) (.seq (.ops [i 16 (.mov (t 0)), i 17 (.call .any (.func 53) [(t 16)]), i 18 (.mov (t 1)), i 19 (.call .any (.func 54) [(t 18), (k (.int .i64 7))]), i 5 (.alloc [(.slice none 0 0), (.slice none 0 0)]), ⟨none, none, (.store 2 (t 5) (t 17)), none, []⟩, i 6 (.mov (t 19))]) (.seq (.ops [i 21 (.loadN 2 (t 5)), i 22 (.mov (t 6)), i 23 (.call .any (.func 41) [(t 21), (t 22)]), i 20 (.mov (t 23)), i 24 (.extract 0 (t 20)), i 25 (.extract 1 (t 20)), i 7 (.alloc [(.slice none 0 0), (.slice none 0 0), (.int .i64 0)]), ⟨none, none, (.store 3 (t 7) (t 24)), none, []⟩, i 8 (.mov (t 25))]) (.seq (.seq (.ops [i 26 (.mov (t 8)), i 27 (.bin .neq (t 26) (k (.int .i64 0))), i 28 (.mov (t 27)), ⟨(some 29), (some (28, false)), (.loadN 2 (t 5)), none, []⟩, ⟨(some 30), (some (28, false)), (.call .any (.func 55) [(t 29)]), none, []⟩, ⟨(some 31), (some (28, false)), (.bin .neq (t 30) (k (.int .i64 0))), none, []⟩, i 32 (.pick (t 28) (k (.bool true)) (t 31))]) (.cond (t 32) (.seq (.ops [i 4 (.mov (k (.bool false)))]) .ret) .skip)) (.seq (.seq (.ops [i 33 (.mov (t 6)), i 34 (.lenSlice (t 33)), i 35 (.bin .eql (t 34) (k (.int .i64 0)))]) (.cond (t 35) (.seq (.ops [i 36 (.fieldAddr 2 (t 7)), i 37 (.load1 (t 36)), i 38 (.bin .eql (t 37) (k (.int .i64 0))), i 39 (.mov (t 38)), ⟨(some 40), (some (39, true)), (.fieldAddr 0 (t 7)), none, []⟩, ⟨(some 41), (some (39, true)), (.load1 (t 40)), none, []⟩, ⟨(some 42), (some (39, true)), (.lenSlice (t 41)), none, []⟩, ⟨(some 43), (some (39, true)), (.fieldAddr 1 (t 7)), none, []⟩, ⟨(some 44), (some (39, true)), (.load1 (t 43)), none, []⟩, ⟨(some 45), (some (39, true)), (.lenSlice (t 44)), none, []⟩, ⟨(some 46), (some (39, true)), (.bin .add (t 42) (t 45)), none, []⟩, ⟨(some 47), (some (39, true)), (.bin .eql (t 46) (k (.int .i64 0))), none, []⟩, i 48 (.pick (t 39) (t 47) (k (.bool false))), i 49 (.mov (t 48)), ⟨(some 50), (some (49, true)), (.call .any (.func 38) []), none, []⟩, i 51 (.pick (t 49) (t 50) (k (.bool false))), i 4 (.mov (t 51))]) .ret) .skip)) (.seq (.ops [i 9 (.mov (k (.bool false)))]) (.seq (.seq (.ops [i 10 (.mov (k (.int .i64 1)))]) (.block 0 (.loop l12_3))) (.seq (.ops [i 153 (.mov (t 9)), i 154 (.mov (t 153)), ⟨(some 155), (some (154, true)), (.call .any (.func 38) []), none, []⟩, i 156 (.pick (t 154) (t 155) (k (.bool false))), i 4 (.mov (t 156))]) .ret))))))))
def a12 : AFunc := ⟨157, [(.tmp 4)], c12⟩
theorem n12 : a12.ntmps = 157 := id rfl
theorem r12 : a12.results = [(.tmp 4)] := rfl
theorem b12 : a12.body = c12 := rfl
def l14_1 : ACode := (.seq (.ops [i 18 (.bin .lss (t 17) (t 16))]) (.seq (.cond (t 18) .skip (.exit 0)) (.seq (.block 1 (.seq (.ops [i 19 (.mov (t 17)), i 8 (.mov (t 19))]) (.seq (.drawn 1 [⟨(some 21), none, (.loadN 2 (t 5)), none, [0]⟩, i 22 (.mov (t 6)), i 23 (.mov (t 8)), i 24 (.bin .add (t 23) (k (.int .i64 1))), i 25 (.sliceS 7 (t 22) none (some (t 24)) none), ⟨(some 26), none, (.call .any (.func 41) [(t 21), (t 25)]), none, [0]⟩, i 20 (.mov (t 26)), i 27 (.extract 0 (t 20)), i 28 (.extract 1 (t 20)), ⟨(some 9), none, (.alloc [(.slice none 0 0), (.slice none 0 0), (.int .i64 0)]), (some 0), []⟩, ⟨none, none, (.store 3 (t 9) (t 27)), none, []⟩, i 10 (.mov (t 28))]) (.seq (.seq (.ops [i 29 (.mov (t 10)), i 30 (.bin .neq (t 29) (k (.int .i64 0))), i 31 (.mov (t 30)), ⟨(some 32), (some (31, false)), (.fieldAddr 2 (t 9)), none, []⟩, ⟨(some 33), (some (31, false)), (.load1 (t 32)), none, []⟩, ⟨(some 34), (some (31, false)), (.mov (t 7)), none, []⟩, ⟨(some 35), (some (31, false)), (.bin .lss (t 33) (t 34)), none, []⟩, i 36 (.pick (t 31) (k (.bool true)) (t 35)), i 37 (.mov (t 36)), ⟨(some 38), (some (37, false)), (.fieldAddr 2 (t 9)), none, []⟩, ⟨(some 39), (some (37, false)), (.load1 (t 38)), none, []⟩, ⟨(some 40), (some (37, false)), (.mov (t 7)), none, []⟩, ⟨(some 41), (some (37, false)), (.bin .add (t 40) (k (.int .i64 30))), none, []⟩, ⟨(some 42), (some (37, false)), (.bin .gtr (t 39) (t 41)), none, []⟩, i 43 (.pick (t 37) (k (.bool true)) (t 42)), i 44 (.mov (t 43)), ⟨(some 45), (some (44, false)), (.fieldAddr 2 (t 9)), none, []⟩, ⟨(some 46), (some (44, false)), (.load1 (t 45)), none, []⟩, ⟨(some 47), (some (44, false)), (.mov (t 8)), none, []⟩, ⟨(some 48), (some (44, false)), (.bin .mul (k (.int .i64 30)) (t 47)), none, []⟩, ⟨(some 49), (some (44, false)), (.bin .gtr (t 46) (t 48)), none, []⟩, i 50 (.pick (t 44) (k (.bool true)) (t 49))]) (.cond (t 50) (.seq (.ops [i 4 (.mov (k (.bool false)))]) .ret) .skip)) (.seq (.seq (.ops [i 51 (.mov (t 8)), i 52 (.bin .eql (t 51) (k (.int .i64 0))), i 53 (.mov (t 52)), ⟨(some 54), (some (53, true)), (.fieldAddr 2 (t 9)), none, []⟩, ⟨(some 55), (some (53, true)), (.load1 (t 54)), none, []⟩, ⟨(some 56), (some (53, true)), (.bin .neq (t 55) (k (.int .i64 0))), none, []⟩, i 57 (.pick (t 53) (t 56) (k (.bool false)))]) (.cond (t 57) (.seq (.ops [i 4 (.mov (k (.bool false)))]) .ret) .skip)) (.ops [i 58 (.fieldAddr 2 (t 9)), i 59 (.load1 (t 58)), i 7 (.mov (t 59))])))))) (.ops [i 60 (.bin .add (t 17) (k (.int .i64 1))), i 17 (.mov (t 60))]))))
def c14 : ACode := (.seq (.ops [i 4 (.mov (k (.bool false)))]) (.seq (.ops [i 11 (.mov (t 0)), i 12 (.call .any (.func 53) [(t 11)]), i 13 (.mov (t 1)), i 14 (.call .any (.func 54) [(t 13), (k (.int .i64 12))]), i 5 (.alloc [(.slice none 0 0), (.slice none 0 0)]), ⟨none, none, (.store 2 (t 5) (t 12)), none, []⟩, i 6 (.mov (t 14))]) (.seq (.ops [i 7 (.mov (k (.int .i64 0)))]) (.seq (.seq (.ops [i 15 (.mov (t 6)), i 16 (.lenSlice (t 15)), i 17 (.mov (k (.int .i64 0)))]) (.block 0 (.loop l14_1))) (.seq (.ops [i 61 (.call .any (.func 38) []), i 4 (.mov (t 61))]) .ret)))))
def a14 : AFunc := ⟨62, [(.tmp 4)], c14⟩
def c22 : ACode := (.seq (.ops [i 4 (.box (t 0)), i 8 (.mov (k (.bool false)))]) (.seq (.ops [i 9 (.loadN 2 (t 4)), i 10 (.call .any (.func 32) [(t 9)]), i 11 (.un .not (t 10)), i 12 (.mov (t 11)), ⟨(some 13), (some (12, true)), (.loadN 2 (t 4)), none, []⟩, ⟨(some 14), (some (12, true)), (.call .any (.func 55) [(t 13)]), none, []⟩, ⟨(some 15), (some (12, true)), (.bin .eql (t 14) (k (.int .i64 0))), none, []⟩, i 16 (.pick (t 12) (t 15) (k (.bool false))), i 17 (.mov (t 16)), ⟨(some 18), (some (17, true)), (.loadN 2 (t 4)), none, []⟩, ⟨(some 19), (some (17, true)), (.mov (t 1)), none, []⟩, ⟨(some 20), (some (17, true)), (.call .any (.func 25) [(t 18), (t 19)]), none, []⟩, ⟨(some 21), (some (17, true)), (.bin .geq (t 20) (k (.int .i64 0))), none, []⟩, i 22 (.pick (t 17) (t 21) (k (.bool false))), i 23 (.mov (t 22)), ⟨(some 24), (some (23, true)), (.loadN 2 (t 4)), none, []⟩, ⟨(some 25), (some (23, true)), (.mov (t 2)), none, []⟩, ⟨(some 26), (some (23, true)), (.call .any (.func 25) [(t 24), (t 25)]), none, []⟩, ⟨(some 27), (some (23, true)), (.bin .geq (t 26) (k (.int .i64 0))), none, []⟩, i 28 (.pick (t 23) (t 27) (k (.bool false))), i 29 (.mov (t 28)), ⟨(some 30), (some (29, true)), (.mov (t 3)), none, []⟩, ⟨(some 31), (some (29, true)), (.bin .geq (t 30) (k (.int .i64 0))), none, []⟩, i 32 (.pick (t 29) (t 31) (k (.bool false))), i 33 (.mov (t 32)), ⟨(some 34), (some (33, true)), (.mov (t 3)), none, []⟩, ⟨(some 35), (some (33, true)), (.bin .leq (t 34) (k (.int .i64 1051898399))), none, []⟩, i 36 (.pick (t 33) (t 35) (k (.bool false))), i 8 (.mov (t 36))]) .ret))
def a22 : AFunc := ⟨37, [(.tmp 8)], c22⟩
def c23 : ACode := (.seq (.ops [i 3 (.box (t 0)), i 6 (.mov (k (.slice none 0 0))), i 7 (.mov (k (.int .i64 0)))]) (.seq (.ops [i 13 (.loadN 2 (t 3)), i 14 (.mov (t 1)), i 15 (.mov (t 1)), i 16 (.mov (t 2)), i 17 (.call .any (.func 61) [(t 13), (t 14), (t 15), (t 16)]), i 12 (.mov (t 17)), i 18 (.extract 0 (t 12)), i 19 (.extract 1 (t 12)), i 8 (.mov (t 18)), i 9 (.mov (t 19))]) (.seq (.seq (.ops [i 20 (.mov (t 9)), i 21 (.bin .neq (t 20) (k (.int .i64 0)))]) (.cond (t 21) (.seq (.ops [i 22 (.mov (t 9)), i 6 (.mov (k (.slice none 0 0))), i 7 (.mov (t 22))]) .ret) .skip)) (.seq (.ops [i 23 (.loadN 2 (t 3)), i 24 (.mov (t 8)), i 25 (.mov (t 1)), i 26 (.mov (t 2)), i 27 (.call .any (.func 62) [(t 23), (t 24), (t 25), (t 26)]), i 10 (.mov (t 27))]) (.seq (.ops [i 28 (.mov (t 10)), i 29 (.mov (t 10)), i 30 (.lenSlice (t 29)), i 31 (.bin .sub (t 30) (k (.int .i64 1))), i 32 (.idxAddrS 50 (t 28) (t 31)), i 33 (.loadN 50 (t 32)), i 11 (.alloc [(.int .i64 0), (.int .i64 0), (.int .i64 0), (.int .i64 0), (.int .i64 0), (.int .i64 0), (.int .i64 0), (.int .i64 0), (.int .i64 0), (.int .i64 0), (.int .i64 0), (.int .i64 0), (.int .i64 0), (.int .i64 0), (.int .i64 0), (.int .i64 0), (.int .i64 0), (.int .i64 0), (.int .i64 0), (.int .i64 0), (.int .i64 0), (.int .i64 0), (.int .i64 0), (.int .i64 0), (.int .i64 0), (.int .i64 0), (.int .i64 0), (.int .i64 0), (.int .i64 0), (.int .i64 0), (.int .i64 0), (.int .i64 0), (.int .i64 0), (.int .i64 0), (.int .i64 0), (.int .i64 0), (.int .i64 0), (.int .i64 0), (.int .i64 0), (.int .i64 0), (.int .i64 0), (.int .i64 0), (.int .i64 0), (.int .i64 0), (.int .i64 0), (.int .i64 0), (.int .i64 0), (.int .i64 0), (.int .i64 0), (.int .i64 0)]), ⟨none, none, (.store 50 (t 11) (t 33)), none, []⟩]) (.seq (.ops [i 34 (.fieldAddr 0 (t 3)), i 35 (.load1 (t 34)), i 36 (.lenSlice (t 35)), i 37 (.sliceA 50 1 (t 11) none (some (t 36)) none), i 38 (.call .any (.func 63) [(t 37)]), i 6 (.mov (t 38)), i 7 (.mov (k (.int .i64 0)))]) .ret))))))
def a23 : AFunc := ⟨39, [(.tmp 6), (.tmp 7)], c23⟩
theorem n23 : a23.ntmps = 39 := id rfl
theorem r23 : a23.results = [(.tmp 6), (.tmp 7)] := rfl
theorem b23 : a23.body = c23 := rfl
def c24 : ACode := (.seq (.ops [i 3 (.box (t 0)), i 5 (.box (t 2)), i 6 (.mov (k (.slice none 0 0))), i 7 (.mov (k (.int .i64 0)))]) (.seq (.ops [i 14 (.loadN 2 (t 3)), i 15 (.mov (t 1)), i 16 (.mov (t 1)), i 17 (.load1 (t 5)), i 18 (.call .any (.func 61) [(t 14), (t 15), (t 16), (t 17)]), i 13 (.mov (t 18)), i 19 (.extract 0 (t 13)), i 20 (.extract 1 (t 13)), i 8 (.alloc [(.map none)]), ⟨none, none, (.store 1 (t 8) (t 19)), none, []⟩, i 9 (.mov (t 20))]) (.seq (.seq (.ops [i 21 (.mov (t 9)), i 22 (.bin .neq (t 21) (k (.int .i64 0)))]) (.cond (t 22) (.seq (.ops [i 23 (.mov (t 9)), i 6 (.mov (k (.slice none 0 0))), i 7 (.mov (t 23))]) .ret) .skip)) (.seq (.ops [i 24 (.makeFunc 64 [] [(t 8), (t 5)]), i 10 (.mov (t 24))]) (.seq (.drawn 0 [i 25 (.load1 (t 8)), i 26 (.mov (t 1)), i 27 (.lookup (.int .i64) (.int .i64 0) false (t 25) (t 26)), i 28 (.load1 (t 5)), i 29 (.call .pure (.func 67) [(t 27), (t 28)]), i 30 (.fieldAddr 1 (t 3)), i 31 (.load1 (t 30)), i 32 (.mov (t 10)), i 33 (.call .any (.func 66) [(t 29), (t 31), (t 32)]), i 11 (.mov (t 33))]) (.seq (.ops [i 34 (.mov (t 11)), i 35 (.mov (t 11)), i 36 (.lenSlice (t 35)), i 37 (.bin .sub (t 36) (k (.int .i64 1))), i 38 (.idxAddrS 50 (t 34) (t 37)), i 39 (.loadN 50 (t 38)), i 12 (.alloc [(.int .i64 0), (.int .i64 0), (.int .i64 0), (.int .i64 0), (.int .i64 0), (.int .i64 0), (.int .i64 0), (.int .i64 0), (.int .i64 0), (.int .i64 0), (.int .i64 0), (.int .i64 0), (.int .i64 0), (.int .i64 0), (.int .i64 0), (.int .i64 0), (.int .i64 0), (.int .i64 0), (.int .i64 0), (.int .i64 0), (.int .i64 0), (.int .i64 0), (.int .i64 0), (.int .i64 0), (.int .i64 0), (.int .i64 0), (.int .i64 0), (.int .i64 0), (.int .i64 0), (.int .i64 0), (.int .i64 0), (.int .i64 0), (.int .i64 0), (.int .i64 0), (.int .i64 0), (.int .i64 0), (.int .i64 0), (.int .i64 0), (.int .i64 0), (.int .i64 0), (.int .i64 0), (.int .i64 0), (.int .i64 0), (.int .i64 0), (.int .i64 0), (.int .i64 0), (.int .i64 0), (.int .i64 0), (.int .i64 0), (.int .i64 0)]), ⟨none, none, (.store 50 (t 12) (t 39)), none, []⟩]) (.seq (.ops [i 40 (.fieldAddr 0 (t 3)), i 41 (.load1 (t 40)), i 42 (.lenSlice (t 41)), i 43 (.sliceA 50 1 (t 12) none (some (t 42)) none), i 44 (.call .any (.func 63) [(t 43)]), i 6 (.mov (t 44)), i 7 (.mov (k (.int .i64 0)))]) .ret)))))))
def a24 : AFunc := ⟨45, [(.tmp 6), (.tmp 7)], c24⟩
def l25_1 : ACode := (.seq (.seq (.ops [i 6 (.mov (t 5)), i 7 (.fieldAddr 0 (t 2)), i 8 (.load1 (t 7)), i 9 (.lenSlice (t 8)), i 10 (.bin .lss (t 6) (t 9))]) (.cond (t 10) .skip (.exit 0))) (.seq (.block 1 (.seq (.ops [i 13 (.fieldAddr 0 (t 2)), i 14 (.load1 (t 13)), i 15 (.mov (t 5)), i 16 (.idxAddrS 1 (t 14) (t 15)), i 17 (.load1 (t 16)), i 18 (.mov (t 1)), i 19 (.bin .eql (t 17) (t 18))]) (.cond (t 19) (.seq (.ops [i 20 (.mov (t 5)), i 4 (.mov (t 20))]) .ret) .skip))) (.ops [i 11 (.mov (t 5)), i 12 (.bin .add (t 11) (k (.int .i64 1))), i 5 (.mov (t 12))])))
def c25 : ACode := (.seq (.ops [i 2 (.box (t 0)), i 4 (.mov (k (.int .i64 0)))]) (.seq (.seq (.ops [i 5 (.mov (k (.int .i64 0)))]) (.block 0 (.loop l25_1))) (.seq (.ops [i 4 (.mov (k (.int .i64 (-1))))]) .ret)))
def a25 : AFunc := ⟨21, [(.tmp 4)], c25⟩
def l28_1 : ACode := (.seq (.seq (.ops [i 11 (.mov (t 5)), i 12 (.mov (t 0)), i 13 (.lenSlice (t 12)), i 14 (.bin .lss (t 11) (t 13))]) (.cond (t 14) .skip (.exit 0))) (.seq (.block 1 (.seq (.drawn 0 [i 17 (.mov (t 0)), i 18 (.mov (t 5)), i 19 (.idxAddrS 1 (t 17) (t 18)), i 20 (.load1 (t 19)), i 21 (.mov (t 1)), i 22 (.mov (t 5)), i 23 (.idxAddrS 1 (t 21) (t 22)), i 24 (.load1 (t 23)), i 25 (.bin .neq (t 20) (t 24))]) (.cond (t 25) (.seq (.ops [i 4 (.mov (k (.bool false)))]) .ret) .skip))) (.ops [i 15 (.mov (t 5)), i 16 (.bin .add (t 15) (k (.int .i64 1))), i 5 (.mov (t 16))])))
def c28 : ACode := (.seq (.ops [i 4 (.mov (k (.bool false)))]) (.seq (.seq (.ops [i 6 (.mov (t 0)), i 7 (.lenSlice (t 6)), i 8 (.mov (t 1)), i 9 (.lenSlice (t 8)), i 10 (.bin .neq (t 7) (t 9))]) (.cond (t 10) (.seq (.ops [i 4 (.mov (k (.bool false)))]) .ret) .skip)) (.seq (.seq (.ops [i 5 (.mov (k (.int .i64 0)))]) (.block 0 (.loop l28_1))) (.seq (.ops [i 4 (.mov (k (.bool true)))]) .ret))))
def a28 : AFunc := ⟨26, [(.tmp 4)], c28⟩
theorem n28 : a28.ntmps = 26 := id rfl
theorem r28 : a28.results = [(.tmp 4)] := rfl
theorem b28 : a28.body = c28 := rfl
def c32 : ACode := (.seq (.ops [i 1 (.box (t 0)), i 2 (.mov (k (.bool false)))]) (.seq (.seq (.ops [i 3 (.fieldAddr 0 (t 1)), i 4 (.load1 (t 3)), i 5 (.lenSlice (t 4)), i 6 (.bin .gtr (t 5) (k (.int .i64 260))), i 7 (.mov (t 6)), ⟨(some 8), (some (7, false)), (.fieldAddr 1 (t 1)), none, []⟩, ⟨(some 9), (some (7, false)), (.load1 (t 8)), none, []⟩, ⟨(some 10), (some (7, false)), (.lenSlice (t 9)), none, []⟩, ⟨(some 11), (some (7, false)), (.bin .gtr (t 10) (k (.int .i64 260))), none, []⟩, i 12 (.pick (t 7) (k (.bool true)) (t 11))]) (.cond (t 12) (.seq (.ops [i 2 (.mov (k (.bool true)))]) .ret) .skip)) (.seq (.ops [i 13 (.fieldAddr 0 (t 1)), i 14 (.load1 (t 13)), i 15 (.lenSlice (t 14)), i 16 (.bin .gtr (t 15) (k (.int .i64 9))), i 17 (.mov (t 16)), ⟨(some 18), (some (17, false)), (.fieldAddr 1 (t 1)), none, []⟩, ⟨(some 19), (some (17, false)), (.load1 (t 18)), none, []⟩, ⟨(some 20), (some (17, false)), (.lenSlice (t 19)), none, []⟩, ⟨(some 21), (some (17, false)), (.bin .gtr (t 20) (k (.int .i64 16))), none, []⟩, i 22 (.pick (t 17) (k (.bool true)) (t 21)), i 23 (.mov (t 22)), ⟨(some 24), (some (23, true)), (.loadN 2 (t 1)), none, []⟩, ⟨(some 25), (some (23, true)), (.call .any (.func 55) [(t 24)]), none, []⟩, ⟨(some 26), (some (23, true)), (.bin .eql (t 25) (k (.int .i64 0))), none, []⟩, i 27 (.pick (t 23) (t 26) (k (.bool false))), i 2 (.mov (t 27))]) .ret)))
def a32 : AFunc := ⟨28, [(.tmp 2)], c32⟩
def l35_1 : ACode := (.seq (.ops [i 12 (.bin .lss (t 11) (t 10))]) (.seq (.cond (t 12) .skip (.exit 0)) (.seq (.block 1 (.seq (.ops [i 13 (.idxAddrS 8 (t 9) (t 11)), i 14 (.loadN 8 (t 13)), i 7 (.alloc [(.int .i64 0), (.int .i64 0), (.int .i64 0), (.int .i64 0), (.int .i64 0), (.int .i64 0), (.int .i64 0), (.int .u8 0)]), ⟨none, none, (.store 8 (t 7) (t 14)), none, []⟩]) (.seq (.ops [i 15 (.fieldAddr 0 (t 7)), i 16 (.load1 (t 15)), i 17 (.mov (t 1)), i 18 (.bin .eql (t 16) (t 17))]) (.cond (t 18) (.seq (.ops [i 19 (.loadN 8 (t 7)), ⟨none, none, (.store 8 (t 4) (t 19)), none, []⟩, i 5 (.mov (k (.bool true)))]) .ret) .skip)))) (.ops [i 20 (.bin .add (t 11) (k (.int .i64 1))), i 11 (.mov (t 20))]))))
def c35 : ACode := (.seq (.ops [i 2 (.box (t 0)), i 4 (.alloc [(.int .i64 0), (.int .i64 0), (.int .i64 0), (.int .i64 0), (.int .i64 0), (.int .i64 0), (.int .i64 0), (.int .u8 0)]), i 5 (.mov (k (.bool false)))]) (.seq (.seq (.ops [i 8 (.fieldAddr 1 (t 2)), i 9 (.load1 (t 8)), i 10 (.lenSlice (t 9)), i 11 (.mov (k (.int .i64 0)))]) (.block 0 (.loop l35_1))) (.seq (.ops [i 21 (.build [(.int .i64 0), (.int .i64 0), (.int .i64 0), (.int .i64 0), (.int .i64 0), (.int .i64 0), (.int .i64 0), (.int .u8 0)] []), ⟨none, none, (.store 8 (t 4) (t 21)), none, []⟩, i 5 (.mov (k (.bool false)))]) .ret)))
def a35 : AFunc := ⟨22, [(.cellN 8 4), (.tmp 5)], c35⟩
def c38 : ACode := (.seq (.ops [i 0 (.mov (k (.bool false)))]) (.seq (.ops [i 15 (.call .any (.func 83) []), i 1 (.alloc [(.slice none 0 0), (.slice none 0 0)]), ⟨none, none, (.store 2 (t 1) (t 15)), none, []⟩]) (.seq (.drawn 0 [i 17 (.loadN 2 (t 1)), i 18 (.call .pure (.func 56) [(k (.int .i64 1)), (k (.int .i64 500))]), i 19 (.call .pure (.func 56) [(k (.int .i64 2)), (k (.int .i64 660))]), i 20 (.call .pure (.func 45) [(t 17), (t 18), (t 19)]), i 16 (.mov (t 20)), i 21 (.extract 0 (t 16)), i 22 (.extract 1 (t 16)), i 2 (.mov (t 21)), i 3 (.mov (t 22))]) (.seq (.drawn 0 [i 24 (.loadN 2 (t 1)), i 25 (.call .pure (.func 56) [(k (.int .i64 1)), (k (.int .i64 500))]), i 26 (.call .pure (.func 56) [(k (.int .i64 2)), (k (.int .i64 650))]), i 27 (.call .pure (.func 45) [(t 24), (t 25), (t 26)]), i 23 (.mov (t 27)), i 28 (.extract 0 (t 23)), i 29 (.extract 1 (t 23)), i 4 (.mov (t 28)), i 5 (.mov (t 29))]) (.seq (.drawn 0 [i 31 (.loadN 2 (t 1)), i 32 (.call .pure (.func 56) [(k (.int .i64 1)), (k (.int .i64 200))]), i 33 (.call .pure (.func 56) [(k (.int .i64 2)), (k (.int .i64 300))]), i 34 (.call .pure (.func 45) [(t 31), (t 32), (t 33)]), i 30 (.mov (t 34)), i 35 (.extract 0 (t 30)), i 36 (.extract 1 (t 30)), i 6 (.mov (t 35)), i 7 (.mov (t 36))]) (.seq (.drawn 0 [i 38 (.loadN 2 (t 1)), i 39 (.call .pure (.func 56) [(k (.int .i64 2)), (k (.int .i64 500))]), i 40 (.call .pure (.func 56) [(k (.int .i64 1)), (k (.int .i64 5000))]), i 41 (.call .pure (.func 45) [(t 38), (t 39), (t 40)]), i 37 (.mov (t 41)), i 42 (.extract 0 (t 37)), i 43 (.extract 1 (t 37)), i 8 (.mov (t 42)), i 9 (.mov (t 43))]) (.seq (.ops [i 44 (.call .any (.func 56) [(k (.int .i64 1)), (k (.int .i64 500))]), i 45 (.call .any (.func 56) [(k (.int .i64 2)), (k (.int .i64 510))]), i 46 (.call .any (.func 56) [(k (.int .i64 2)), (k (.int .i64 660))]), i 47 (.buildSlice 3 [(.int .i64 0), (.int .i64 0), (.int .i64 0), (.int .u8 0), (.int .i64 0), (.int .i64 0), (.int .i64 0), (.int .i64 0), (.int .i64 0), (.int .i64 0), (.int .u8 0), (.int .i64 0), (.int .i64 0), (.int .i64 0), (.int .i64 0), (.int .i64 0), (.int .i64 0), (.int .u8 0), (.int .i64 0), (.int .i64 0), (.int .i64 0)] [(0, (7, (t 44))), (7, (7, (t 45))), (14, (7, (t 46)))]), i 10 (.mov (t 47))]) (.seq (.ops [i 49 (.loadN 2 (t 1)), i 50 (.mov (t 10)), i 51 (.call .any (.func 41) [(t 49), (t 50)]), i 48 (.mov (t 51)), i 52 (.extract 0 (t 48)), i 53 (.extract 1 (t 48)), i 11 (.alloc [(.slice none 0 0), (.slice none 0 0), (.int .i64 0)]), ⟨none, none, (.store 3 (t 11) (t 52)), none, []⟩, i 12 (.mov (t 53))]) (.seq (.ops [i 55 (.loadN 2 (t 1)), i 56 (.mov (t 10)), i 57 (.buildSlice 3 [(.int .i64 0), (.int .i64 0), (.int .i64 0)] [(0, (1, (k (.int .i64 0)))), (1, (1, (k (.int .i64 1)))), (2, (1, (k (.int .i64 2))))]), i 58 (.call .any (.func 42) [(t 55), (t 56), (t 57)]), i 54 (.mov (t 58)), i 59 (.extract 0 (t 54)), i 60 (.extract 1 (t 54)), i 13 (.alloc [(.slice none 0 0), (.slice none 0 0), (.int .i64 0)]), ⟨none, none, (.store 3 (t 13) (t 59)), none, []⟩, i 14 (.mov (t 60))]) (.seq (.ops [i 61 (.mov (t 3)), i 62 (.mov (t 5)), i 63 (.bin .add (t 61) (t 62)), i 64 (.mov (t 7)), i 65 (.bin .add (t 63) (t 64)), i 66 (.mov (t 9)), i 67 (.bin .add (t 65) (t 66)), i 68 (.mov (t 12)), i 69 (.bin .add (t 67) (t 68)), i 70 (.mov (t 14)), i 71 (.bin .add (t 69) (t 70)), i 72 (.bin .eql (t 71) (k (.int .i64 0))), i 73 (.mov (t 72)), ⟨(some 74), (some (73, true)), (.mov (t 2)), none, []⟩, ⟨(some 75), (some (73, true)), (.bin .eql (t 74) (k (.int .i64 0))), none, []⟩, i 76 (.pick (t 73) (t 75) (k (.bool false))), i 77 (.mov (t 76)), ⟨(some 78), (some (77, true)), (.mov (t 4)), none, []⟩, ⟨(some 79), (some (77, true)), (.bin .eql (t 78) (k (.int .i64 10))), none, []⟩, i 80 (.pick (t 77) (t 79) (k (.bool false))), i 81 (.mov (t 80)), ⟨(some 82), (some (81, true)), (.mov (t 6)), none, []⟩, ⟨(some 83), (some (81, true)), (.bin .eql (t 82) (k (.int .i64 60))), none, []⟩, i 84 (.pick (t 81) (t 83) (k (.bool false))), i 85 (.mov (t 84)), ⟨(some 86), (some (85, true)), (.mov (t 8)), none, []⟩, ⟨(some 87), (some (85, true)), (.bin .eql (t 86) (k (.int .i64 80))), none, []⟩, i 88 (.pick (t 85) (t 87) (k (.bool false))), i 89 (.mov (t 88)), ⟨(some 90), (some (89, true)), (.fieldAddr 2 (t 11)), none, []⟩, ⟨(some 91), (some (89, true)), (.load1 (t 90)), none, []⟩, ⟨(some 92), (some (89, true)), (.bin .eql (t 91) (k (.int .i64 30))), none, []⟩, i 93 (.pick (t 89) (t 92) (k (.bool false))), i 94 (.mov (t 93)), ⟨(some 95), (some (94, true)), (.fieldAddr 0 (t 11)), none, []⟩, ⟨(some 96), (some (94, true)), (.load1 (t 95)), none, []⟩, ⟨(some 97), (some (94, true)), (.buildSlice 2 [(.int .i64 0), (.int .i64 0)] [(0, (1, (k (.int .i64 0)))), (1, (1, (k (.int .i64 2))))]), none, []⟩, ⟨(some 98), (some (94, true)), (.call .any (.func 28) [(t 96), (t 97)]), none, []⟩, i 99 (.pick (t 94) (t 98) (k (.bool false))), i 100 (.mov (t 99)), ⟨(some 101), (some (100, true)), (.fieldAddr 1 (t 11)), none, []⟩, ⟨(some 102), (some (100, true)), (.load1 (t 101)), none, []⟩, ⟨(some 103), (some (100, true)), (.lenSlice (t 102)), none, []⟩, ⟨(some 104), (some (100, true)), (.bin .eql (t 103) (k (.int .i64 1))), none, []⟩, i 105 (.pick (t 100) (t 104) (k (.bool false))), i 106 (.mov (t 105)), ⟨(some 107), (some (106, true)), (.fieldAddr 1 (t 11)), none, []⟩, ⟨(some 108), (some (106, true)), (.load1 (t 107)), none, []⟩, ⟨(some 109), (some (106, true)), (.idxAddrS 3 (t 108) (k (.int .i64 0))), none, []⟩, ⟨(some 110), (some (106, true)), (.loadN 3 (t 109)), none, []⟩, ⟨(some 111), (some (106, true)), (.build [(.int .i64 0), (.int .i64 0), (.int .i64 0)] [(0, (1, (k (.int .i64 0)))), (1, (1, (k (.int .i64 2))))]), none, []⟩, ⟨(some 112), (some (106, true)), (.eqv false (.agg [(.int .i64), (.int .i64), (.int .i64)]) (t 110) (t 111)), none, []⟩, i 113 (.pick (t 106) (t 112) (k (.bool false))), i 114 (.mov (t 113)), ⟨(some 115), (some (114, true)), (.fieldAddr 2 (t 13)), none, []⟩, ⟨(some 116), (some (114, true)), (.load1 (t 115)), none, []⟩, ⟨(some 117), (some (114, true)), (.bin .eql (t 116) (k (.int .i64 60))), none, []⟩, i 118 (.pick (t 114) (t 117) (k (.bool false))), i 0 (.mov (t 118))]) .ret))))))))))
def a38 : AFunc := ⟨119, [(.tmp 0)], c38⟩
theorem n38 : a38.ntmps = 119 := id rfl
theorem r38 : a38.results = [(.tmp 0)] := rfl
theorem b38 : a38.body = c38 := rfl
def c41 : ACode := (.seq (.ops [i 2 (.box (t 0)), i 4 (.alloc [(.slice none 0 0), (.slice none 0 0), (.int .i64 0)]), i 5 (.mov (k (.int .i64 0)))]) (.seq (.seq (.ops [i 8 (.loadN 2 (t 2)), i 9 (.mov (t 1)), i 10 (.call .any (.func 86) [(t 8), (t 9)]), i 6 (.mov (t 10))]) (.seq (.ops [i 11 (.mov (t 6)), i 12 (.bin .neq (t 11) (k (.int .i64 0)))]) (.cond (t 12) (.seq (.ops [i 13 (.build [(.slice none 0 0), (.slice none 0 0), (.int .i64 0)] []), i 14 (.mov (t 6)), ⟨none, none, (.store 3 (t 4) (t 13)), none, []⟩, i 5 (.mov (t 14))]) .ret) .skip))) (.seq (.ops [i 15 (.loadN 2 (t 2)), i 16 (.call .any (.func 87) [(t 15)]), i 7 (.mov (t 16))]) (.seq (.ops [i 17 (.mov (t 7)), i 18 (.mov (t 1)), i 19 (.mov (t 7)), i 20 (.mov (t 1)), i 21 (.call .any (.func 89) [(t 19), (t 20)]), i 22 (.call .any (.func 88) [(t 17), (t 18), (t 21)]), ⟨none, none, (.store 3 (t 4) (t 22)), none, []⟩, i 5 (.mov (k (.int .i64 0)))]) .ret))))
def a41 : AFunc := ⟨23, [(.cellN 3 4), (.tmp 5)], c41⟩
theorem n41 : a41.ntmps = 23 := id rfl
theorem r41 : a41.results = [(.cellN 3 4), (.tmp 5)] := rfl
theorem b41 : a41.body = c41 := rfl
def l42_1 : ACode := (.seq (.ops [i 30 (.bin .lss (t 29) (t 28))]) (.seq (.cond (t 30) .skip (.exit 0)) (.seq (.block 1 (.seq (.ops [i 31 (.mov (t 29)), i 32 (.idxAddrS 1 (t 27) (t 29)), i 33 (.load1 (t 32)), i 9 (.mov (t 31)), i 10 (.mov (t 33))]) (.seq (.ops [i 34 (.mov (t 10)), i 35 (.bin .lss (t 34) (k (.int .i64 0))), i 36 (.mov (t 35)), ⟨(some 37), (some (36, false)), (.mov (t 10)), none, []⟩, ⟨(some 38), (some (36, false)), (.mov (t 1)), none, []⟩, ⟨(some 39), (some (36, false)), (.lenSlice (t 38)), none, []⟩, ⟨(some 40), (some (36, false)), (.bin .geq (t 37) (t 39)), none, []⟩, i 41 (.pick (t 36) (k (.bool true)) (t 40)), i 42 (.mov (t 41)), ⟨(some 43), (some (42, false)), (.mov (t 9)), none, []⟩, ⟨(some 44), (some (42, false)), (.bin .gtr (t 43) (k (.int .i64 0))), none, []⟩, ⟨(some 45), (some (42, false)), (.mov (t 44)), none, []⟩, ⟨(some 46), (some (45, true)), (.mov (t 10)), none, []⟩, ⟨(some 47), (some (45, true)), (.mov (t 2)), none, []⟩, ⟨(some 48), (some (45, true)), (.mov (t 9)), none, []⟩, ⟨(some 49), (some (45, true)), (.bin .sub (t 48) (k (.int .i64 1))), none, []⟩, ⟨(some 50), (some (45, true)), (.idxAddrS 1 (t 47) (t 49)), none, []⟩, ⟨(some 51), (some (45, true)), (.load1 (t 50)), none, []⟩, ⟨(some 52), (some (45, true)), (.bin .leq (t 46) (t 51)), none, []⟩, ⟨(some 53), (some (42, false)), (.pick (t 45) (t 52) (k (.bool false))), none, []⟩, i 54 (.pick (t 42) (k (.bool true)) (t 53))]) (.cond (t 54) (.seq (.ops [i 55 (.build [(.slice none 0 0), (.slice none 0 0), (.int .i64 0)] []), ⟨none, none, (.store 3 (t 6) (t 55)), none, []⟩, i 7 (.mov (k (.int .i64 2)))]) .ret) .skip)))) (.ops [i 56 (.bin .add (t 29) (k (.int .i64 1))), i 29 (.mov (t 56))]))))
def c42 : ACode := (.seq (.ops [i 3 (.box (t 0)), i 6 (.alloc [(.slice none 0 0), (.slice none 0 0), (.int .i64 0)]), i 7 (.mov (k (.int .i64 0)))]) (.seq (.seq (.ops [i 11 (.loadN 2 (t 3)), i 12 (.mov (t 1)), i 13 (.call .any (.func 86) [(t 11), (t 12)]), i 8 (.mov (t 13))]) (.seq (.ops [i 14 (.mov (t 8)), i 15 (.bin .neq (t 14) (k (.int .i64 0)))]) (.cond (t 15) (.seq (.ops [i 16 (.build [(.slice none 0 0), (.slice none 0 0), (.int .i64 0)] []), i 17 (.mov (t 8)), ⟨none, none, (.store 3 (t 6) (t 16)), none, []⟩, i 7 (.mov (t 17))]) .ret) .skip))) (.seq (.seq (.ops [i 18 (.mov (t 2)), i 19 (.lenSlice (t 18)), i 20 (.bin .eql (t 19) (k (.int .i64 0))), i 21 (.mov (t 20)), ⟨(some 22), (some (21, true)), (.mov (t 1)), none, []⟩, ⟨(some 23), (some (21, true)), (.lenSlice (t 22)), none, []⟩, ⟨(some 24), (some (21, true)), (.bin .gtr (t 23) (k (.int .i64 0))), none, []⟩, i 25 (.pick (t 21) (t 24) (k (.bool false)))]) (.cond (t 25) (.seq (.ops [i 26 (.build [(.slice none 0 0), (.slice none 0 0), (.int .i64 0)] []), ⟨none, none, (.store 3 (t 6) (t 26)), none, []⟩, i 7 (.mov (k (.int .i64 2)))]) .ret) .skip)) (.seq (.seq (.ops [i 27 (.mov (t 2)), i 28 (.lenSlice (t 27)), i 29 (.mov (k (.int .i64 0)))]) (.block 0 (.loop l42_1))) (.seq (.ops [i 57 (.loadN 2 (t 3)), i 58 (.call .any (.func 87) [(t 57)]), i 59 (.mov (t 1)), i 60 (.mov (t 2)), i 61 (.call .any (.func 88) [(t 58), (t 59), (t 60)]), ⟨none, none, (.store 3 (t 6) (t 61)), none, []⟩, i 7 (.mov (k (.int .i64 0)))]) .ret)))))
def a42 : AFunc := ⟨62, [(.cellN 3 6), (.tmp 7)], c42⟩
theorem n42 : a42.ntmps = 62 := id rfl
theorem r42 : a42.results = [(.cellN 3 6), (.tmp 7)] := rfl
theorem b42 : a42.body = c42 := rfl
def c45 : ACode := (.seq (.ops [i 3 (.box (t 0)), i 4 (.box (t 1)), i 5 (.box (t 2)), i 6 (.mov (k (.int .i64 0))), i 7 (.mov (k (.int .i64 0)))]) (.seq (.seq (.ops [i 9 (.loadN 2 (t 3)), i 10 (.loadN 7 (t 4)), i 11 (.loadN 7 (t 5)), i 12 (.buildSlice 2 [(.int .i64 0), (.int .i64 0), (.int .i64 0), (.int .u8 0), (.int .i64 0), (.int .i64 0), (.int .i64 0), (.int .i64 0), (.int .i64 0), (.int .i64 0), (.int .u8 0), (.int .i64 0), (.int .i64 0), (.int .i64 0)] [(0, (7, (t 10))), (7, (7, (t 11)))]), i 13 (.call .any (.func 86) [(t 9), (t 12)]), i 8 (.mov (t 13))]) (.seq (.ops [i 14 (.mov (t 8)), i 15 (.bin .neq (t 14) (k (.int .i64 0)))]) (.cond (t 15) (.seq (.ops [i 16 (.mov (t 8)), i 6 (.mov (k (.int .i64 0))), i 7 (.mov (t 16))]) .ret) .skip))) (.seq (.drawn 0 [i 17 (.loadN 2 (t 3)), i 19 (.loadN 7 (t 4)), i 20 (.loadN 7 (t 5)), i 18 (.call .mk (.func 87) [(t 17)]), i 21 (.call .any (.func 92) [(t 18), (t 19), (t 20)]), i 6 (.mov (t 21)), i 7 (.mov (k (.int .i64 0)))]) .ret)))
def a45 : AFunc := ⟨22, [(.tmp 6), (.tmp 7)], c45⟩
theorem n45 : a45.ntmps = 22 := id rfl
theorem r45 : a45.results = [(.tmp 6), (.tmp 7)] := rfl
theorem b45 : a45.body = c45 := rfl
def l53_1 : ACode := (.seq (.ops [i 16 (.bin .lss (t 15) (t 14))]) (.seq (.cond (t 16) .skip (.exit 0)) (.seq (.block 1 (.seq (.ops [i 17 (.mov (t 15)), i 18 (.idxAddrS 6 (t 13) (t 15)), i 19 (.loadN 6 (t 18)), i 5 (.alloc [(.int .u8 0), (.int .u8 0), (.int .u8 0), (.int .u8 0), (.int .u8 0), (.int .u8 0)]), i 4 (.mov (t 17)), ⟨none, none, (.store 6 (t 5) (t 19)), none, []⟩]) (.seq (.ops [i 20 (.mov (t 4)), i 21 (.bin .add (t 20) (k (.int .i64 1))), i 22 (.fieldAddr 0 (t 5)), i 23 (.load1 (t 22)), i 24 (.conv .i64 (t 23)), i 25 (.bin .rem (t 24) (k (.int .i64 5))), i 26 (.bin .add (k (.int .i64 1)) (t 25)), i 27 (.fieldAddr 1 (t 5)), i 28 (.load1 (t 27)), i 29 (.conv .i64 (t 28)), i 30 (.bin .rem (t 29) (k (.int .i64 5))), i 31 (.bin .add (k (.int .i64 1)) (t 30)), i 32 (.fieldAddr 2 (t 5)), i 33 (.load1 (t 32)), i 34 (.conv .i64 (t 33)), i 35 (.bin .mul (t 34) (k (.int .i64 5))), i 36 (.fieldAddr 3 (t 5)), i 37 (.load1 (t 36)), i 38 (.conv .i64 (t 37)), i 39 (.bin .add (k (.int .i64 1)) (t 38)), i 40 (.fieldAddr 4 (t 5)), i 41 (.load1 (t 40)), i 42 (.conv .i64 (t 41)), i 43 (.bin .rem (t 42) (k (.int .i64 60))), i 44 (.fieldAddr 5 (t 5)), i 45 (.load1 (t 44)), i 46 (.bin .rem (t 45) (k (.int .u8 127))), i 47 (.bin .add (t 46) (k (.int .u8 1))), i 48 (.build [(.int .i64 0), (.int .i64 0), (.int .i64 0), (.int .i64 0), (.int .i64 0), (.int .i64 0), (.int .i64 0), (.int .u8 0)] [(0, (1, (t 21))), (1, (1, (t 26))), (2, (1, (t 31))), (3, (1, (t 35))), (4, (1, (t 39))), (5, (1, (t 43))), (6, (1, (k (.int .i64 1000)))), (7, (1, (t 47)))]), i 6 (.alloc [(.int .i64 0), (.int .i64 0), (.int .i64 0), (.int .i64 0), (.int .i64 0), (.int .i64 0), (.int .i64 0), (.int .u8 0)]), ⟨none, none, (.store 8 (t 6) (t 48)), none, []⟩]) (.seq (.ops [i 49 (.fieldAddr 1 (t 6)), i 50 (.load1 (t 49)), i 51 (.fieldAddr 2 (t 6)), i 52 (.load1 (t 51)), i 53 (.bin .neq (t 50) (t 52))]) (.cond (t 53) (.ops [i 54 (.fieldAddr 1 (t 3)), i 55 (.load1 (t 54)), i 56 (.loadN 8 (t 6)), i 57 (.buildSlice 1 [(.int .i64 0), (.int .i64 0), (.int .i64 0), (.int .i64 0), (.int .i64 0), (.int .i64 0), (.int .i64 0), (.int .u8 0)] [(0, (8, (t 56)))]), i 58 (.append 8 64 false (t 55) (t 57)), i 59 (.fieldAddr 1 (t 3)), ⟨none, none, (.store 1 (t 59) (t 58)), none, []⟩]) .skip))))) (.ops [i 60 (.bin .add (t 15) (k (.int .i64 1))), i 15 (.mov (t 60))]))))
def c53 : ACode := (.seq (.ops [i 2 (.alloc [(.slice none 0 0), (.slice none 0 0)])]) (.seq (.ops [i 7 (.buildSlice 5 [(.int .i64 0), (.int .i64 0), (.int .i64 0), (.int .i64 0), (.int .i64 0)] [(0, (1, (k (.int .i64 3)))), (1, (1, (k (.int .i64 1)))), (2, (1, (k (.int .i64 5)))), (3, (1, (k (.int .i64 2)))), (4, (1, (k (.int .i64 4))))]), i 8 (.build [(.slice none 0 0), (.slice none 0 0)] [(0, (1, (t 7)))]), i 3 (.alloc [(.slice none 0 0), (.slice none 0 0)]), ⟨none, none, (.store 2 (t 3) (t 8)), none, []⟩]) (.seq (.seq (.ops [i 9 (.mov (t 0)), i 10 (.mov (t 0)), i 11 (.lenSlice (t 10)), i 12 (.minmax false [(t 11), (k (.int .i64 10))]), i 13 (.sliceS 6 (t 9) none (some (t 12)) none), i 14 (.lenSlice (t 13)), i 15 (.mov (k (.int .i64 0)))]) (.block 0 (.loop l53_1))) (.seq (.ops [i 61 (.loadN 2 (t 3)), ⟨none, none, (.store 2 (t 2) (t 61)), none, []⟩]) .ret))))
def a53 : AFunc := ⟨62, [(.cellN 2 2)], c53⟩
theorem n53 : a53.ntmps = 62 := id rfl
theorem r53 : a53.results = [(.cellN 2 2)] := rfl
theorem b53 : a53.body = c53 := rfl
def l54_1 : ACode := (.seq (.ops [i 18 (.bin .lss (t 17) (t 16))]) (.seq (.cond (t 18) .skip (.exit 0)) (.seq (.block 1 (.seq (.ops [i 19 (.idxAddrS 3 (t 15) (t 17)), i 20 (.loadN 3 (t 19)), i 8 (.alloc [(.int .u8 0), (.int .u8 0), (.int .u16 0)]), ⟨none, none, (.store 3 (t 8) (t 20)), none, []⟩]) (.seq (.ops [i 21 (.mov (t 6)), i 22 (.fieldAddr 2 (t 8)), i 23 (.load1 (t 22)), i 24 (.conv .i64 (t 23)), i 25 (.bin .rem (t 24) (k (.int .i64 2000))), i 26 (.bin .add (t 21) (t 25)), i 6 (.mov (t 26))]) (.seq (.ops [i 27 (.fieldAddr 0 (t 8)), i 28 (.load1 (t 27)), i 29 (.conv .i64 (t 28)), i 30 (.bin .rem (t 29) (k (.int .i64 6))), i 31 (.bin .add (k (.int .i64 1)) (t 30)), i 32 (.mov (t 6)), i 33 (.call .any (.func 56) [(t 31), (t 32)]), i 9 (.alloc [(.int .i64 0), (.int .i64 0), (.int .i64 0), (.int .u8 0), (.int .i64 0), (.int .i64 0), (.int .i64 0)]), ⟨none, none, (.store 7 (t 9) (t 33)), none, []⟩]) (.seq (.ops [i 34 (.buildSlice 5 [(.int .u8 0), (.int .u8 0), (.int .u8 0), (.int .u8 0), (.int .u8 0)] [(0, (1, (k (.int .u8 1)))), (1, (1, (k (.int .u8 2)))), (2, (1, (k (.int .u8 3)))), (3, (1, (k (.int .u8 2)))), (4, (1, (k (.int .u8 4))))]), i 35 (.fieldAddr 1 (t 8)), i 36 (.load1 (t 35)), i 37 (.bin .rem (t 36) (k (.int .u8 5))), i 38 (.idxAddrS 1 (t 34) (t 37)), i 39 (.load1 (t 38)), i 40 (.fieldAddr 0 (t 9)), i 41 (.fieldAddr 3 (t 40)), ⟨none, none, (.store 1 (t 41) (t 39)), none, []⟩]) (.ops [i 42 (.mov (t 5)), i 43 (.loadN 7 (t 9)), i 44 (.buildSlice 1 [(.int .i64 0), (.int .i64 0), (.int .i64 0), (.int .u8 0), (.int .i64 0), (.int .i64 0), (.int .i64 0)] [(0, (7, (t 43)))]), i 45 (.append 7 56 false (t 42) (t 44)), i 5 (.mov (t 45))])))))) (.ops [i 46 (.bin .add (t 17) (k (.int .i64 1))), i 17 (.mov (t 46))]))))
def c54 : ACode := (.seq (.ops [i 4 (.mov (k (.slice none 0 0)))]) (.seq (.ops [i 5 (.mov (k (.slice none 0 0)))]) (.seq (.ops [i 6 (.mov (k (.int .i64 14400)))]) (.seq (.seq (.ops [i 10 (.mov (t 0)), i 11 (.mov (t 0)), i 12 (.lenSlice (t 11)), i 13 (.mov (t 1)), i 14 (.minmax false [(t 12), (t 13)]), i 15 (.sliceS 3 (t 10) none (some (t 14)) none), i 16 (.lenSlice (t 15)), i 17 (.mov (k (.int .i64 0)))]) (.block 0 (.loop l54_1))) (.seq (.ops [i 47 (.mov (t 5)), i 4 (.mov (t 47))]) .ret)))))
def a54 : AFunc := ⟨48, [(.tmp 4)], c54⟩
theorem n54 : a54.ntmps = 48 := id rfl
theorem r54 : a54.results = [(.tmp 4)] := rfl
theorem b54 : a54.body = c54 := rfl
def l55_1 : ACode := (.seq (.ops [i 52 (.bin .lss (t 51) (t 50))]) (.seq (.cond (t 52) .skip (.exit 2)) (.seq (.block 3 (.seq (.ops [i 53 (.idxAddrS 8 (t 49) (t 51)), i 54 (.loadN 8 (t 53)), i 8 (.alloc [(.int .i64 0), (.int .i64 0), (.int .i64 0), (.int .i64 0), (.int .i64 0), (.int .i64 0), (.int .i64 0), (.int .u8 0)]), ⟨none, none, (.store 8 (t 8) (t 54)), none, []⟩]) (.seq (.seq (.ops [i 55 (.loadN 8 (t 8)), i 56 (.call .any (.func 96) [(t 55)]), i 57 (.un .not (t 56)), i 58 (.mov (t 57)), ⟨(some 59), (some (58, false)), (.mov (t 6)), none, []⟩, ⟨(some 60), (some (58, false)), (.fieldAddr 0 (t 8)), none, []⟩, ⟨(some 61), (some (58, false)), (.load1 (t 60)), none, []⟩, ⟨(some 62), (some (58, false)), (.lookup (.int .i64) (.bool false) false (t 59) (t 61)), none, []⟩, i 63 (.pick (t 58) (k (.bool true)) (t 62)), i 64 (.mov (t 63)), ⟨(some 65), (some (64, false)), (.mov (t 3)), none, []⟩, ⟨(some 66), (some (64, false)), (.fieldAddr 1 (t 8)), none, []⟩, ⟨(some 67), (some (64, false)), (.load1 (t 66)), none, []⟩, ⟨(some 68), (some (64, false)), (.lookup (.int .i64) (.bool false) false (t 65) (t 67)), none, []⟩, ⟨(some 69), (some (64, false)), (.un .not (t 68)), none, []⟩, i 70 (.pick (t 64) (k (.bool true)) (t 69)), i 71 (.mov (t 70)), ⟨(some 72), (some (71, false)), (.mov (t 3)), none, []⟩, ⟨(some 73), (some (71, false)), (.fieldAddr 2 (t 8)), none, []⟩, ⟨(some 74), (some (71, false)), (.load1 (t 73)), none, []⟩, ⟨(some 75), (some (71, false)), (.lookup (.int .i64) (.bool false) false (t 72) (t 74)), none, []⟩, ⟨(some 76), (some (71, false)), (.un .not (t 75)), none, []⟩, i 77 (.pick (t 71) (k (.bool true)) (t 76))]) (.cond (t 77) (.seq (.ops [i 2 (.mov (k (.int .i64 321)))]) .ret) .skip)) (.ops [i 78 (.mov (t 6)), i 79 (.fieldAddr 0 (t 8)), i 80 (.load1 (t 79)), ⟨none, none, (.mapUpdate (.int .i64) (t 78) (t 80) (k (.bool true))), none, []⟩])))) (.ops [i 81 (.bin .add (t 51) (k (.int .i64 1))), i 51 (.mov (t 81))]))))
def l55_2 : ACode := (.seq (.ops [i 27 (.bin .lss (t 26) (t 25))]) (.seq (.cond (t 27) .skip (.exit 0)) (.seq (.block 1 (.seq (.ops [i 28 (.idxAddrS 1 (t 24) (t 26)), i 29 (.load1 (t 28)), i 5 (.mov (t 29))]) (.seq (.seq (.ops [i 30 (.mov (t 5)), i 31 (.bin .lss (t 30) (k (.int .i64 1))), i 32 (.mov (t 31)), ⟨(some 33), (some (32, false)), (.mov (t 5)), none, []⟩, ⟨(some 34), (some (32, false)), (.bin .gtr (t 33) (k (.int .i64 999999))), none, []⟩, i 35 (.pick (t 32) (k (.bool true)) (t 34)), i 36 (.mov (t 35)), ⟨(some 37), (some (36, false)), (.mov (t 3)), none, []⟩, ⟨(some 38), (some (36, false)), (.mov (t 5)), none, []⟩, ⟨(some 39), (some (36, false)), (.lookup (.int .i64) (.bool false) false (t 37) (t 38)), none, []⟩, i 40 (.pick (t 36) (k (.bool true)) (t 39))]) (.cond (t 40) (.seq (.ops [i 2 (.mov (k (.int .i64 320)))]) .ret) .skip)) (.ops [i 41 (.mov (t 3)), i 42 (.mov (t 5)), ⟨none, none, (.mapUpdate (.int .i64) (t 41) (t 42) (k (.bool true))), none, []⟩])))) (.ops [i 43 (.bin .add (t 26) (k (.int .i64 1))), i 26 (.mov (t 43))]))))
def c55 : ACode := (.seq (.ops [i 1 (.box (t 0)), i 2 (.mov (k (.int .i64 0)))]) (.seq (.seq (.ops [i 9 (.fieldAddr 0 (t 1)), i 10 (.load1 (t 9)), i 11 (.lenSlice (t 10)), i 12 (.bin .gtr (t 11) (k (.int .i64 50))), i 13 (.mov (t 12)), ⟨(some 14), (some (13, false)), (.fieldAddr 1 (t 1)), none, []⟩, ⟨(some 15), (some (13, false)), (.load1 (t 14)), none, []⟩, ⟨(some 16), (some (13, false)), (.lenSlice (t 15)), none, []⟩, ⟨(some 17), (some (13, false)), (.bin .gtr (t 16) (k (.int .i64 200))), none, []⟩, i 18 (.pick (t 13) (k (.bool true)) (t 17))]) (.cond (t 18) (.seq (.ops [i 2 (.mov (k (.int .i64 5)))]) .ret) .skip)) (.seq (.ops [i 19 (.fieldAddr 0 (t 1)), i 20 (.load1 (t 19)), i 21 (.lenSlice (t 20)), i 22 (.makeMap (some (t 21))), i 3 (.mov (t 22))]) (.seq (.seq (.ops [i 23 (.fieldAddr 0 (t 1)), i 24 (.load1 (t 23)), i 25 (.lenSlice (t 24)), i 26 (.mov (k (.int .i64 0)))]) (.block 0 (.loop l55_2))) (.seq (.ops [i 44 (.fieldAddr 1 (t 1)), i 45 (.load1 (t 44)), i 46 (.lenSlice (t 45)), i 47 (.makeMap (some (t 46))), i 6 (.mov (t 47))]) (.seq (.seq (.ops [i 48 (.fieldAddr 1 (t 1)), i 49 (.load1 (t 48)), i 50 (.lenSlice (t 49)), i 51 (.mov (k (.int .i64 0)))]) (.block 2 (.loop l55_1))) (.seq (.ops [i 2 (.mov (k (.int .i64 0)))]) .ret)))))))
def a55 : AFunc := ⟨82, [(.tmp 2)], c55⟩
theorem n55 : a55.ntmps = 82 := id rfl
theorem r55 : a55.results = [(.tmp 2)] := rfl
theorem b55 : a55.body = c55 := rfl
def c56 : ACode := (.seq (.ops [i 4 (.alloc [(.int .i64 0), (.int .i64 0), (.int .i64 0), (.int .u8 0), (.int .i64 0), (.int .i64 0), (.int .i64 0)])]) (.seq (.ops [i 5 (.mov (t 0)), i 6 (.mov (t 1)), i 7 (.mov (t 1)), i 8 (.build [(.int .i64 0), (.int .i64 0), (.int .i64 0), (.int .u8 0), (.int .i64 0), (.int .i64 0)] [(0, (1, (k (.int .i64 7)))), (1, (1, (t 5))), (2, (1, (k (.int .i64 1)))), (3, (1, (k (.int .u8 2)))), (4, (1, (t 6))), (5, (1, (t 7)))]), i 9 (.mov (t 1)), i 10 (.build [(.int .i64 0), (.int .i64 0), (.int .i64 0), (.int .u8 0), (.int .i64 0), (.int .i64 0), (.int .i64 0)] [(0, (6, (t 8))), (6, (1, (t 9)))]), ⟨none, none, (.store 7 (t 4) (t 10)), none, []⟩]) .ret))
def a56 : AFunc := ⟨11, [(.cellN 7 4)], c56⟩
theorem n56 : a56.ntmps = 11 := id rfl
theorem r56 : a56.results = [(.cellN 7 4)] := rfl
theorem b56 : a56.body = c56 := rfl
def c61 : ACode := (.seq (.ops [i 4 (.box (t 0)), i 8 (.mov (k (.map none))), i 9 (.mov (k (.int .i64 0)))]) (.seq (.seq (.ops [i 16 (.loadN 2 (t 4)), i 17 (.call .any (.func 55) [(t 16)]), i 10 (.mov (t 17))]) (.seq (.ops [i 18 (.mov (t 10)), i 19 (.bin .neq (t 18) (k (.int .i64 0)))]) (.cond (t 19) (.seq (.ops [i 20 (.mov (t 10)), i 8 (.mov (k (.map none))), i 9 (.mov (t 20))]) .ret) .skip))) (.seq (.ops [i 21 (.loadN 2 (t 4)), i 22 (.call .any (.func 101) [(t 21)]), i 11 (.mov (t 22))]) (.seq (.ops [i 24 (.mov (t 11)), i 25 (.mov (t 1)), i 26 (.lookup (.int .i64) (.int .i64 0) true (t 24) (t 25)), i 23 (.mov (t 26)), i 27 (.extract 0 (t 23)), i 28 (.extract 1 (t 23)), i 12 (.mov (t 27)), i 13 (.mov (t 28))]) (.seq (.ops [i 30 (.mov (t 11)), i 31 (.mov (t 2)), i 32 (.lookup (.int .i64) (.int .i64 0) true (t 30) (t 31)), i 29 (.mov (t 32)), i 33 (.extract 0 (t 29)), i 34 (.extract 1 (t 29)), i 14 (.mov (t 33)), i 15 (.mov (t 34))]) (.seq (.seq (.ops [i 35 (.mov (t 13)), i 36 (.un .not (t 35)), i 37 (.mov (t 36)), ⟨(some 38), (some (37, false)), (.mov (t 15)), none, []⟩, ⟨(some 39), (some (37, false)), (.un .not (t 38)), none, []⟩, i 40 (.pick (t 37) (k (.bool true)) (t 39)), i 41 (.mov (t 40)), ⟨(some 42), (some (41, false)), (.mov (t 3)), none, []⟩, ⟨(some 43), (some (41, false)), (.bin .lss (t 42) (k (.int .i64 0))), none, []⟩, i 44 (.pick (t 41) (k (.bool true)) (t 43)), i 45 (.mov (t 44)), ⟨(some 46), (some (45, false)), (.mov (t 3)), none, []⟩, ⟨(some 47), (some (45, false)), (.bin .gtr (t 46) (k (.int .i64 1051898399))), none, []⟩, i 48 (.pick (t 45) (k (.bool true)) (t 47))]) (.cond (t 48) (.seq (.ops [i 8 (.mov (k (.map none))), i 9 (.mov (k (.int .i64 2)))]) .ret) .skip)) (.seq (.ops [i 49 (.mov (t 11)), i 8 (.mov (t 49)), i 9 (.mov (k (.int .i64 0)))]) .ret)))))))
def a61 : AFunc := ⟨50, [(.tmp 8), (.tmp 9)], c61⟩
theorem n61 : a61.ntmps = 50 := id rfl
theorem r61 : a61.results = [(.tmp 8), (.tmp 9)] := rfl
theorem b61 : a61.body = c61 := rfl
def c62 : ACode := (.seq (.ops [i 4 (.box (t 0)), i 5 (.box (t 1)), i 7 (.box (t 3)), i 8 (.mov (k (.slice none 0 0)))]) (.seq (.ops [i 10 (.makeFunc 102 [] [(t 5), (t 7)]), i 9 (.mov (t 10))]) (.seq (.drawn 0 [i 11 (.load1 (t 5)), i 12 (.mov (t 2)), i 13 (.lookup (.int .i64) (.int .i64 0) false (t 11) (t 12)), i 14 (.load1 (t 7)), i 15 (.call .pure (.func 67) [(t 13), (t 14)]), i 16 (.fieldAddr 1 (t 4)), i 17 (.load1 (t 16)), i 18 (.mov (t 9)), i 19 (.call .any (.func 66) [(t 15), (t 17), (t 18)]), i 8 (.mov (t 19))]) .ret)))
def a62 : AFunc := ⟨20, [(.tmp 8)], c62⟩
theorem n62 : a62.ntmps = 20 := id rfl
theorem r62 : a62.results = [(.tmp 8)] := rfl
theorem b62 : a62.body = c62 := rfl
def c63 : ACode := (.seq (.ops [i 2 (.mov (k (.slice none 0 0)))]) (.seq (.seq (.ops [i 3 (.mov (t 0)), i 4 (.eqv false .slice (t 3) (k (.slice none 0 0)))]) (.cond (t 4) (.seq (.ops [i 2 (.mov (k (.slice none 0 0)))]) .ret) .skip)) (.seq (.ops [i 5 (.buildSlice 0 [] []), i 6 (.mov (t 0)), i 7 (.append 1 8 false (t 5) (t 6)), i 2 (.mov (t 7))]) .ret)))
def a63 : AFunc := ⟨8, [(.tmp 2)], c63⟩
theorem n63 : a63.ntmps = 8 := id rfl
theorem r63 : a63.results = [(.tmp 2)] := rfl
theorem b63 : a63.body = c63 := rfl
def c64 : ACode := (.seq (.ops [i 5 (.box (t 0)), i 6 (.box (t 1))]) (.seq (.drawn 0 [i 13 (.load1 (t 3)), i 14 (.fieldAddr 1 (t 5)), i 15 (.load1 (t 14)), i 16 (.lookup (.int .i64) (.int .i64 0) false (t 13) (t 15)), i 17 (.load1 (t 3)), i 18 (.fieldAddr 2 (t 5)), i 19 (.load1 (t 18)), i 20 (.lookup (.int .i64) (.int .i64 0) false (t 17) (t 19)), i 21 (.idxAddrA 50 1 (t 6) (t 20)), i 22 (.load1 (t 21)), i 8 (.mov (t 16)), i 9 (.mov (t 22))]) (.seq (.seq (.ops [i 23 (.mov (t 9)), i 24 (.bin .lss (t 23) (k (.int .i64 0)))]) (.cond (t 24) .ret .skip)) (.seq (.ops [i 26 (.loadN 8 (t 5)), i 27 (.mov (t 9)), i 28 (.call .any (.func 65) [(t 26), (t 27)]), i 25 (.mov (t 28)), i 29 (.extract 0 (t 25)), i 30 (.extract 1 (t 25)), i 10 (.alloc [(.int .i64 0), (.int .i64 0)]), ⟨none, none, (.store 2 (t 10) (t 29)), none, []⟩, i 11 (.mov (t 30))]) (.seq (.ops [i 31 (.fieldAddr 0 (t 10)), i 32 (.load1 (t 31)), i 33 (.fieldAddr 5 (t 5)), i 34 (.load1 (t 33)), i 35 (.bin .sub (t 32) (t 34)), i 12 (.mov (t 35))]) (.seq (.ops [i 36 (.mov (t 11)), i 37 (.mov (t 36)), ⟨(some 38), (some (37, true)), (.mov (t 12)), none, []⟩, ⟨(some 39), (some (37, true)), (.load1 (t 4)), none, []⟩, ⟨(some 40), (some (37, true)), (.bin .sub (t 39) (k (.int .i64 86400))), none, []⟩, ⟨(some 41), (some (37, true)), (.bin .geq (t 38) (t 40)), none, []⟩, i 42 (.pick (t 37) (t 41) (k (.bool false))), i 43 (.mov (t 42)), ⟨(some 44), (some (43, true)), (.mov (t 12)), none, []⟩, ⟨(some 45), (some (43, true)), (.mov (t 2)), none, []⟩, ⟨(some 46), (some (43, true)), (.mov (t 8)), none, []⟩, ⟨(some 47), (some (43, true)), (.nilCheck (t 45)), none, []⟩, ⟨(some 48), (some (43, true)), (.idxAddrA 50 1 (t 47) (t 46)), none, []⟩, ⟨(some 49), (some (43, true)), (.load1 (t 48)), none, []⟩, ⟨(some 50), (some (43, true)), (.bin .gtr (t 44) (t 49)), none, []⟩, i 51 (.pick (t 43) (t 50) (k (.bool false)))]) (.cond (t 51) (.ops [i 52 (.mov (t 2)), i 53 (.mov (t 8)), i 54 (.mov (t 12)), i 55 (.nilCheck (t 52)), i 56 (.idxAddrA 50 1 (t 55) (t 53)), ⟨none, none, (.store 1 (t 56) (t 54)), none, []⟩]) .skip)))))))
def a64 : AFunc := ⟨57, [], c64⟩
def ga65_1 : ACode := (.ops [i 7 (.alloc [(.int .i64 0), (.int .i64 0)]), ⟨none, none, (.store 2 (t 7) (t 31)), none, []⟩])
def gb65_1 : ACode := (.block 1 (.seq (.ops [i 32 (.fieldAddr 1 (t 7)), i 33 (.load1 (t 32)), i 34 (.load1 (t 3)), i 35 (.bin .leq (t 33) (t 34))]) (.cond (t 35) (.seq (.ops [i 36 (.loadN 2 (t 7)), ⟨none, none, (.store 2 (t 4) (t 36)), none, []⟩, ⟨none, none, (.store 1 (t 5) (k (.bool true))), none, []⟩]) .retR) .skip)))
def c65 : ACode := (.seq (.seq (.ops [i 2 (.box (t 0)), i 3 (.box (t 1)), i 4 (.alloc [(.int .i64 0), (.int .i64 0)]), i 5 (.alloc [(.bool false)])]) (.seq (.seq (.ops [i 8 (.loadN 8 (t 2)), i 9 (.call .any (.func 96) [(t 8)]), i 10 (.un .not (t 9)), i 11 (.mov (t 10)), ⟨(some 12), (some (11, false)), (.load1 (t 3)), none, []⟩, ⟨(some 13), (some (11, false)), (.fieldAddr 3 (t 2)), none, []⟩, ⟨(some 14), (some (11, false)), (.load1 (t 13)), none, []⟩, ⟨(some 15), (some (11, false)), (.fieldAddr 4 (t 2)), none, []⟩, ⟨(some 16), (some (11, false)), (.load1 (t 15)), none, []⟩, ⟨(some 17), (some (11, false)), (.bin .add (t 14) (t 16)), none, []⟩, ⟨(some 18), (some (11, false)), (.bin .lss (t 12) (t 17)), none, []⟩, i 19 (.pick (t 11) (k (.bool true)) (t 18))]) (.cond (t 19) (.seq (.ops [i 20 (.build [(.int .i64 0), (.int .i64 0)] []), ⟨none, none, (.store 2 (t 4) (t 20)), none, []⟩, ⟨none, none, (.store 1 (t 5) (k (.bool false))), none, []⟩]) .retM) .skip)) (.seq (.ops [i 21 (.load1 (t 3)), i 22 (.minmax false [(t 21), (k (.int .i64 1051898399))]), ⟨none, none, (.store 1 (t 3) (t 22)), none, []⟩]) (.seq (.ops [i 23 (.load1 (t 3)), i 24 (.fieldAddr 4 (t 2)), i 25 (.load1 (t 24)), i 26 (.bin .sub (t 23) (t 25)), i 27 (.bin .quo (t 26) (k (.int .i64 1440))), i 6 (.mov (t 27))]) (.seq (.seq (.ops [i 28 (.loadN 8 (t 2)), i 29 (.mov (t 6)), i 30 (.call .any (.func 103) [(t 28), (t 29), (k (.int .i64 (-1)))])]) (.block 0 (.rangeF (t 30) [31] ga65_1 gb65_1))) (.seq (.ops [i 37 (.build [(.int .i64 0), (.int .i64 0)] []), ⟨none, none, (.store 2 (t 4) (t 37)), none, []⟩, ⟨none, none, (.store 1 (t 5) (k (.bool false))), none, []⟩]) .retM)))))) .retM)
def a65 : AFunc := ⟨38, [(.cellN 2 4), (.cell1 5)], c65⟩
def l66_1 : ACode := (.seq (.ops [i 24 (.bin .lss (t 23) (t 22))]) (.seq (.cond (t 24) .skip (.exit 2)) (.seq (.block 3 (.seq (.ops [i 25 (.idxAddrS 8 (t 21) (t 23)), i 26 (.loadN 8 (t 25)), i 11 (.alloc [(.int .i64 0), (.int .i64 0), (.int .i64 0), (.int .i64 0), (.int .i64 0), (.int .i64 0), (.int .i64 0), (.int .u8 0)]), ⟨none, none, (.store 8 (t 11) (t 26)), none, []⟩]) (.ops [i 27 (.mov (t 2)), i 28 (.loadN 8 (t 11)), i 29 (.loadN 50 (t 8)), i 30 (.call .any (t 27) [(t 28), (t 29), (t 9)])]))) (.ops [i 31 (.bin .add (t 23) (k (.int .i64 1))), i 23 (.mov (t 31))]))))
def l66_2 : ACode := (.block 1 (.seq (.ops [i 14 (.mov (t 7)), i 15 (.mov (t 7)), i 16 (.lenSlice (t 15)), i 17 (.bin .sub (t 16) (k (.int .i64 1))), i 18 (.idxAddrS 50 (t 14) (t 17)), i 19 (.loadN 50 (t 18)), i 8 (.alloc [(.int .i64 0), (.int .i64 0), (.int .i64 0), (.int .i64 0), (.int .i64 0), (.int .i64 0), (.int .i64 0), (.int .i64 0), (.int .i64 0), (.int .i64 0), (.int .i64 0), (.int .i64 0), (.int .i64 0), (.int .i64 0), (.int .i64 0), (.int .i64 0), (.int .i64 0), (.int .i64 0), (.int .i64 0), (.int .i64 0), (.int .i64 0), (.int .i64 0), (.int .i64 0), (.int .i64 0), (.int .i64 0), (.int .i64 0), (.int .i64 0), (.int .i64 0), (.int .i64 0), (.int .i64 0), (.int .i64 0), (.int .i64 0), (.int .i64 0), (.int .i64 0), (.int .i64 0), (.int .i64 0), (.int .i64 0), (.int .i64 0), (.int .i64 0), (.int .i64 0), (.int .i64 0), (.int .i64 0), (.int .i64 0), (.int .i64 0), (.int .i64 0), (.int .i64 0), (.int .i64 0), (.int .i64 0), (.int .i64 0), (.int .i64 0)]), ⟨none, none, (.store 50 (t 8) (t 19)), none, []⟩]) (.seq (.ops [i 20 (.loadN 50 (t 8)), i 9 (.alloc [(.int .i64 0), (.int .i64 0), (.int .i64 0), (.int .i64 0), (.int .i64 0), (.int .i64 0), (.int .i64 0), (.int .i64 0), (.int .i64 0), (.int .i64 0), (.int .i64 0), (.int .i64 0), (.int .i64 0), (.int .i64 0), (.int .i64 0), (.int .i64 0), (.int .i64 0), (.int .i64 0), (.int .i64 0), (.int .i64 0), (.int .i64 0), (.int .i64 0), (.int .i64 0), (.int .i64 0), (.int .i64 0), (.int .i64 0), (.int .i64 0), (.int .i64 0), (.int .i64 0), (.int .i64 0), (.int .i64 0), (.int .i64 0), (.int .i64 0), (.int .i64 0), (.int .i64 0), (.int .i64 0), (.int .i64 0), (.int .i64 0), (.int .i64 0), (.int .i64 0), (.int .i64 0), (.int .i64 0), (.int .i64 0), (.int .i64 0), (.int .i64 0), (.int .i64 0), (.int .i64 0), (.int .i64 0), (.int .i64 0), (.int .i64 0)]), ⟨none, none, (.store 50 (t 9) (t 20)), none, []⟩]) (.seq (.seq (.ops [i 21 (.mov (t 1)), i 22 (.lenSlice (t 21)), i 23 (.mov (k (.int .i64 0)))]) (.block 2 (.loop l66_1))) (.seq (.seq (.ops [i 32 (.loadN 50 (t 9)), i 33 (.loadN 50 (t 8)), i 34 (.eqv false (.agg [(.int .i64), (.int .i64), (.int .i64), (.int .i64), (.int .i64), (.int .i64), (.int .i64), (.int .i64), (.int .i64), (.int .i64), (.int .i64), (.int .i64), (.int .i64), (.int .i64), (.int .i64), (.int .i64), (.int .i64), (.int .i64), (.int .i64), (.int .i64), (.int .i64), (.int .i64), (.int .i64), (.int .i64), (.int .i64), (.int .i64), (.int .i64), (.int .i64), (.int .i64), (.int .i64), (.int .i64), (.int .i64), (.int .i64), (.int .i64), (.int .i64), (.int .i64), (.int .i64), (.int .i64), (.int .i64), (.int .i64), (.int .i64), (.int .i64), (.int .i64), (.int .i64), (.int .i64), (.int .i64), (.int .i64), (.int .i64), (.int .i64), (.int .i64)]) (t 32) (t 33))]) (.cond (t 34) (.seq (.ops [i 35 (.mov (t 7)), i 6 (.mov (t 35))]) .ret) .skip)) (.ops [i 36 (.mov (t 7)), i 37 (.loadN 50 (t 9)), i 38 (.buildSlice 1 [(.int .i64 0), (.int .i64 0), (.int .i64 0), (.int .i64 0), (.int .i64 0), (.int .i64 0), (.int .i64 0), (.int .i64 0), (.int .i64 0), (.int .i64 0), (.int .i64 0), (.int .i64 0), (.int .i64 0), (.int .i64 0), (.int .i64 0), (.int .i64 0), (.int .i64 0), (.int .i64 0), (.int .i64 0), (.int .i64 0), (.int .i64 0), (.int .i64 0), (.int .i64 0), (.int .i64 0), (.int .i64 0), (.int .i64 0), (.int .i64 0), (.int .i64 0), (.int .i64 0), (.int .i64 0), (.int .i64 0), (.int .i64 0), (.int .i64 0), (.int .i64 0), (.int .i64 0), (.int .i64 0), (.int .i64 0), (.int .i64 0), (.int .i64 0), (.int .i64 0), (.int .i64 0), (.int .i64 0), (.int .i64 0), (.int .i64 0), (.int .i64 0), (.int .i64 0), (.int .i64 0), (.int .i64 0), (.int .i64 0), (.int .i64 0)] [(0, (50, (t 37)))]), i 39 (.append 50 400 false (t 36) (t 38)), i 7 (.mov (t 39))]))))))
def c66 : ACode := (.seq (.ops [i 3 (.box (t 0)), i 6 (.mov (k (.slice none 0 0)))]) (.seq (.ops [i 12 (.loadN 50 (t 3)), i 13 (.buildSlice 1 [(.int .i64 0), (.int .i64 0), (.int .i64 0), (.int .i64 0), (.int .i64 0), (.int .i64 0), (.int .i64 0), (.int .i64 0), (.int .i64 0), (.int .i64 0), (.int .i64 0), (.int .i64 0), (.int .i64 0), (.int .i64 0), (.int .i64 0), (.int .i64 0), (.int .i64 0), (.int .i64 0), (.int .i64 0), (.int .i64 0), (.int .i64 0), (.int .i64 0), (.int .i64 0), (.int .i64 0), (.int .i64 0), (.int .i64 0), (.int .i64 0), (.int .i64 0), (.int .i64 0), (.int .i64 0), (.int .i64 0), (.int .i64 0), (.int .i64 0), (.int .i64 0), (.int .i64 0), (.int .i64 0), (.int .i64 0), (.int .i64 0), (.int .i64 0), (.int .i64 0), (.int .i64 0), (.int .i64 0), (.int .i64 0), (.int .i64 0), (.int .i64 0), (.int .i64 0), (.int .i64 0), (.int .i64 0), (.int .i64 0), (.int .i64 0)] [(0, (50, (t 12)))]), i 7 (.mov (t 13))]) (.block 0 (.loop l66_2))))
def a66 : AFunc := ⟨40, [(.tmp 6)], c66⟩
theorem n66 : a66.ntmps = 40 := id rfl
theorem r66 : a66.results = [(.tmp 6)] := rfl
theorem b66 : a66.body = c66 := rfl
def l67_1 : ACode := (.seq (.ops [i 8 (.bin .lss (t 7) (k (.int .i64 50)))]) (.seq (.cond (t 8) .skip (.exit 0)) (.seq (.block 1 (.seq (.ops [i 9 (.mov (t 7)), i 6 (.mov (t 9))]) (.ops [i 10 (.mov (t 6)), i 11 (.idxAddrA 50 1 (t 5) (t 10)), ⟨none, none, (.store 1 (t 11) (k (.int .i64 (-1)))), none, []⟩]))) (.ops [i 12 (.bin .add (t 7) (k (.int .i64 1))), i 7 (.mov (t 12))]))))
def c67 : ACode := (.seq (.ops [i 4 (.alloc [(.int .i64 0), (.int .i64 0), (.int .i64 0), (.int .i64 0), (.int .i64 0), (.int .i64 0), (.int .i64 0), (.int .i64 0), (.int .i64 0), (.int .i64 0), (.int .i64 0), (.int .i64 0), (.int .i64 0), (.int .i64 0), (.int .i64 0), (.int .i64 0), (.int .i64 0), (.int .i64 0), (.int .i64 0), (.int .i64 0), (.int .i64 0), (.int .i64 0), (.int .i64 0), (.int .i64 0), (.int .i64 0), (.int .i64 0), (.int .i64 0), (.int .i64 0), (.int .i64 0), (.int .i64 0), (.int .i64 0), (.int .i64 0), (.int .i64 0), (.int .i64 0), (.int .i64 0), (.int .i64 0), (.int .i64 0), (.int .i64 0), (.int .i64 0), (.int .i64 0), (.int .i64 0), (.int .i64 0), (.int .i64 0), (.int .i64 0), (.int .i64 0), (.int .i64 0), (.int .i64 0), (.int .i64 0), (.int .i64 0), (.int .i64 0)])]) (.seq (.ops [i 5 (.alloc [(.int .i64 0), (.int .i64 0), (.int .i64 0), (.int .i64 0), (.int .i64 0), (.int .i64 0), (.int .i64 0), (.int .i64 0), (.int .i64 0), (.int .i64 0), (.int .i64 0), (.int .i64 0), (.int .i64 0), (.int .i64 0), (.int .i64 0), (.int .i64 0), (.int .i64 0), (.int .i64 0), (.int .i64 0), (.int .i64 0), (.int .i64 0), (.int .i64 0), (.int .i64 0), (.int .i64 0), (.int .i64 0), (.int .i64 0), (.int .i64 0), (.int .i64 0), (.int .i64 0), (.int .i64 0), (.int .i64 0), (.int .i64 0), (.int .i64 0), (.int .i64 0), (.int .i64 0), (.int .i64 0), (.int .i64 0), (.int .i64 0), (.int .i64 0), (.int .i64 0), (.int .i64 0), (.int .i64 0), (.int .i64 0), (.int .i64 0), (.int .i64 0), (.int .i64 0), (.int .i64 0), (.int .i64 0), (.int .i64 0), (.int .i64 0)])]) (.seq (.seq (.ops [i 7 (.mov (k (.int .i64 0)))]) (.block 0 (.loop l67_1))) (.seq (.ops [i 13 (.mov (t 0)), i 14 (.mov (t 1)), i 15 (.idxAddrA 50 1 (t 5) (t 13)), ⟨none, none, (.store 1 (t 15) (t 14)), none, []⟩]) (.seq (.ops [i 16 (.loadN 50 (t 5)), ⟨none, none, (.store 50 (t 4) (t 16)), none, []⟩]) .ret)))))
def a67 : AFunc := ⟨17, [(.cellN 50 4)], c67⟩
theorem n67 : a67.ntmps = 17 := id rfl
theorem r67 : a67.results = [(.cellN 50 4)] := rfl
theorem b67 : a67.body = c67 := rfl
def l68_1 : ACode := (.seq (.ops [i 9 (.bin .lss (t 8) (t 7))]) (.seq (.cond (t 9) .skip (.exit 0)) (.seq (.block 1 (.seq (.ops [i 10 (.mov (t 8)), i 5 (.mov (t 10))]) (.seq (.ops [i 11 (.mov (t 1)), i 12 (.mov (t 0)), i 13 (.mov (t 5)), i 14 (.idxAddrS 8 (t 12) (t 13)), i 15 (.loadN 8 (t 14)), i 16 (.call .any (t 11) [(t 15)])]) (.cond (t 16) (.seq (.ops [i 17 (.mov (t 5)), i 4 (.mov (t 17))]) .ret) .skip)))) (.ops [i 18 (.bin .add (t 8) (k (.int .i64 1))), i 8 (.mov (t 18))]))))
def c68 : ACode := (.seq (.ops [i 4 (.mov (k (.int .i64 0)))]) (.seq (.seq (.ops [i 6 (.mov (t 0)), i 7 (.lenSlice (t 6)), i 8 (.mov (k (.int .i64 0)))]) (.block 0 (.loop l68_1))) (.seq (.ops [i 4 (.mov (k (.int .i64 (-1))))]) .ret)))
def a68 : AFunc := ⟨19, [(.tmp 4)], c68⟩
def c69 : ACode := (.seq (.ops [i 2 (.box (t 0)), i 3 (.mov (k (.bool false)))]) (.seq (.ops [i 4 (.fieldAddr 0 (t 2)), i 5 (.load1 (t 4)), i 6 (.load1 (t 1)), i 7 (.bin .eql (t 5) (t 6)), i 3 (.mov (t 7))]) .ret))
def a69 : AFunc := ⟨8, [(.tmp 3)], c69⟩
def l71_1 : ACode := (.seq (.ops [i 9 (.bin .lss (t 8) (t 7))]) (.seq (.cond (t 9) .skip (.exit 0)) (.seq (.block 1 (.seq (.ops [i 10 (.mov (t 8)), i 5 (.mov (t 10))]) (.seq (.ops [i 11 (.mov (t 1)), i 12 (.mov (t 0)), i 13 (.mov (t 5)), i 14 (.idxAddrS 50 (t 12) (t 13)), i 15 (.loadN 50 (t 14)), i 16 (.call .any (t 11) [(t 15)])]) (.cond (t 16) (.seq (.ops [i 17 (.mov (t 5)), i 4 (.mov (t 17))]) .ret) .skip)))) (.ops [i 18 (.bin .add (t 8) (k (.int .i64 1))), i 8 (.mov (t 18))]))))
def c71 : ACode := (.seq (.ops [i 4 (.mov (k (.int .i64 0)))]) (.seq (.seq (.ops [i 6 (.mov (t 0)), i 7 (.lenSlice (t 6)), i 8 (.mov (k (.int .i64 0)))]) (.block 0 (.loop l71_1))) (.seq (.ops [i 4 (.mov (k (.int .i64 (-1))))]) .ret)))
def a71 : AFunc := ⟨19, [(.tmp 4)], c71⟩
def c72 : ACode := (.seq (.ops [i 3 (.box (t 0)), i 4 (.mov (k (.bool false)))]) (.seq (.drawn 0 [i 5 (.load1 (t 1)), i 6 (.idxAddrA 50 1 (t 3) (t 5)), i 7 (.load1 (t 6)), i 8 (.load1 (t 2)), i 9 (.bin .eql (t 7) (t 8)), i 4 (.mov (t 9))]) .ret))
def a72 : AFunc := ⟨10, [(.tmp 4)], c72⟩
def l73_1 : ACode := (.seq (.ops [i 33 (.bin .lss (t 32) (t 31))]) (.seq (.cond (t 33) .skip (.exit 2)) (.seq (.block 3 (.seq (.ops [i 34 (.idxAddrS 8 (t 30) (t 32)), i 35 (.loadN 8 (t 34)), i 13 (.alloc [(.int .i64 0), (.int .i64 0), (.int .i64 0), (.int .i64 0), (.int .i64 0), (.int .i64 0), (.int .i64 0), (.int .u8 0)]), ⟨none, none, (.store 8 (t 13) (t 35)), none, []⟩]) (.seq (.ops [i 36 (.mov (t 1)), i 37 (.fieldAddr 2 (t 13)), i 38 (.load1 (t 37)), i 39 (.lookup (.int .i64) (.int .i64 0) false (t 36) (t 38)), i 40 (.idxAddrA 50 1 (t 10) (t 39)), i 41 (.load1 (t 40)), i 14 (.mov (t 41))]) (.seq (.seq (.ops [i 42 (.mov (t 14)), i 43 (.bin .lss (t 42) (k (.int .i64 0)))]) (.cond (t 43) (.exit 3) .skip)) (.seq (.ops [i 45 (.loadN 8 (t 13)), i 46 (.mov (t 14)), i 47 (.call .any (.func 65) [(t 45), (t 46)]), i 44 (.mov (t 47)), i 48 (.extract 0 (t 44)), i 49 (.extract 1 (t 44)), i 15 (.alloc [(.int .i64 0), (.int .i64 0)]), ⟨none, none, (.store 2 (t 15) (t 48)), none, []⟩, i 16 (.mov (t 49))]) (.seq (.ops [i 50 (.mov (t 16))]) (.cond (t 50) (.drawn 0 [i 51 (.mov (t 1)), i 52 (.fieldAddr 1 (t 13)), i 53 (.load1 (t 52)), i 54 (.lookup (.int .i64) (.int .i64 0) false (t 51) (t 53)), i 55 (.mov (t 1)), i 56 (.fieldAddr 1 (t 13)), i 57 (.load1 (t 56)), i 58 (.lookup (.int .i64) (.int .i64 0) false (t 55) (t 57)), i 59 (.idxAddrA 50 1 (t 11) (t 58)), i 60 (.load1 (t 59)), i 61 (.fieldAddr 0 (t 15)), i 62 (.load1 (t 61)), i 63 (.fieldAddr 5 (t 13)), i 64 (.load1 (t 63)), i 65 (.bin .sub (t 62) (t 64)), i 66 (.minmax true [(t 60), (t 65)]), i 67 (.idxAddrA 50 1 (t 11) (t 54)), ⟨none, none, (.store 1 (t 67) (t 66)), none, []⟩]) .skip))))))) (.ops [i 68 (.bin .add (t 32) (k (.int .i64 1))), i 32 (.mov (t 68))]))))
def l73_2 : ACode := (.seq (.ops [i 21 (.bin .lss (t 20) (t 19))]) (.seq (.cond (t 21) .skip (.exit 0)) (.seq (.block 1 (.seq (.drawn 2 [i 22 (.mov (t 9)), i 23 (.mov (t 9)), i 24 (.lenSlice (t 23)), i 25 (.bin .sub (t 24) (k (.int .i64 1))), i 26 (.idxAddrS 50 (t 22) (t 25)), ⟨(some 27), none, (.loadN 50 (t 26)), none, [0, 1]⟩, ⟨(some 28), none, (.call .pure (.func 67) [(k (.int .i64 0)), (k (.int .i64 (-1)))]), none, [0, 1]⟩, ⟨(some 10), none, (.alloc [(.int .i64 0), (.int .i64 0), (.int .i64 0), (.int .i64 0), (.int .i64 0), (.int .i64 0), (.int .i64 0), (.int .i64 0), (.int .i64 0), (.int .i64 0), (.int .i64 0), (.int .i64 0), (.int .i64 0), (.int .i64 0), (.int .i64 0), (.int .i64 0), (.int .i64 0), (.int .i64 0), (.int .i64 0), (.int .i64 0), (.int .i64 0), (.int .i64 0), (.int .i64 0), (.int .i64 0), (.int .i64 0), (.int .i64 0), (.int .i64 0), (.int .i64 0), (.int .i64 0), (.int .i64 0), (.int .i64 0), (.int .i64 0), (.int .i64 0), (.int .i64 0), (.int .i64 0), (.int .i64 0), (.int .i64 0), (.int .i64 0), (.int .i64 0), (.int .i64 0), (.int .i64 0), (.int .i64 0), (.int .i64 0), (.int .i64 0), (.int .i64 0), (.int .i64 0), (.int .i64 0), (.int .i64 0), (.int .i64 0), (.int .i64 0)]), (some 0), []⟩, ⟨(some 11), none, (.alloc [(.int .i64 0), (.int .i64 0), (.int .i64 0), (.int .i64 0), (.int .i64 0), (.int .i64 0), (.int .i64 0), (.int .i64 0), (.int .i64 0), (.int .i64 0), (.int .i64 0), (.int .i64 0), (.int .i64 0), (.int .i64 0), (.int .i64 0), (.int .i64 0), (.int .i64 0), (.int .i64 0), (.int .i64 0), (.int .i64 0), (.int .i64 0), (.int .i64 0), (.int .i64 0), (.int .i64 0), (.int .i64 0), (.int .i64 0), (.int .i64 0), (.int .i64 0), (.int .i64 0), (.int .i64 0), (.int .i64 0), (.int .i64 0), (.int .i64 0), (.int .i64 0), (.int .i64 0), (.int .i64 0), (.int .i64 0), (.int .i64 0), (.int .i64 0), (.int .i64 0), (.int .i64 0), (.int .i64 0), (.int .i64 0), (.int .i64 0), (.int .i64 0), (.int .i64 0), (.int .i64 0), (.int .i64 0), (.int .i64 0), (.int .i64 0)]), (some 1), []⟩, ⟨none, none, (.store 50 (t 10) (t 27)), none, []⟩, ⟨none, none, (.store 50 (t 11) (t 28)), none, []⟩]) (.seq (.seq (.ops [i 29 (.fieldAddr 1 (t 4)), i 30 (.load1 (t 29)), i 31 (.lenSlice (t 30)), i 32 (.mov (k (.int .i64 0)))]) (.block 2 (.loop l73_1))) (.ops [i 69 (.mov (t 9)), i 70 (.loadN 50 (t 11)), i 71 (.buildSlice 1 [(.int .i64 0), (.int .i64 0), (.int .i64 0), (.int .i64 0), (.int .i64 0), (.int .i64 0), (.int .i64 0), (.int .i64 0), (.int .i64 0), (.int .i64 0), (.int .i64 0), (.int .i64 0), (.int .i64 0), (.int .i64 0), (.int .i64 0), (.int .i64 0), (.int .i64 0), (.int .i64 0), (.int .i64 0), (.int .i64 0), (.int .i64 0), (.int .i64 0), (.int .i64 0), (.int .i64 0), (.int .i64 0), (.int .i64 0), (.int .i64 0), (.int .i64 0), (.int .i64 0), (.int .i64 0), (.int .i64 0), (.int .i64 0), (.int .i64 0), (.int .i64 0), (.int .i64 0), (.int .i64 0), (.int .i64 0), (.int .i64 0), (.int .i64 0), (.int .i64 0), (.int .i64 0), (.int .i64 0), (.int .i64 0), (.int .i64 0), (.int .i64 0), (.int .i64 0), (.int .i64 0), (.int .i64 0), (.int .i64 0), (.int .i64 0)] [(0, (50, (t 70)))]), i 72 (.append 50 400 false (t 69) (t 71)), i 9 (.mov (t 72))])))) (.ops [i 73 (.bin .add (t 20) (k (.int .i64 1))), i 20 (.mov (t 73))]))))
def c73 : ACode := (.seq (.ops [i 4 (.box (t 0)), i 6 (.box (t 2)), i 8 (.mov (k (.slice none 0 0)))]) (.seq (.ops [i 17 (.loadN 50 (t 6)), i 18 (.buildSlice 1 [(.int .i64 0), (.int .i64 0), (.int .i64 0), (.int .i64 0), (.int .i64 0), (.int .i64 0), (.int .i64 0), (.int .i64 0), (.int .i64 0), (.int .i64 0), (.int .i64 0), (.int .i64 0), (.int .i64 0), (.int .i64 0), (.int .i64 0), (.int .i64 0), (.int .i64 0), (.int .i64 0), (.int .i64 0), (.int .i64 0), (.int .i64 0), (.int .i64 0), (.int .i64 0), (.int .i64 0), (.int .i64 0), (.int .i64 0), (.int .i64 0), (.int .i64 0), (.int .i64 0), (.int .i64 0), (.int .i64 0), (.int .i64 0), (.int .i64 0), (.int .i64 0), (.int .i64 0), (.int .i64 0), (.int .i64 0), (.int .i64 0), (.int .i64 0), (.int .i64 0), (.int .i64 0), (.int .i64 0), (.int .i64 0), (.int .i64 0), (.int .i64 0), (.int .i64 0), (.int .i64 0), (.int .i64 0), (.int .i64 0), (.int .i64 0)] [(0, (50, (t 17)))]), i 9 (.mov (t 18))]) (.seq (.seq (.ops [i 19 (.mov (t 3)), i 20 (.mov (k (.int .i64 0)))]) (.block 0 (.loop l73_2))) (.seq (.ops [i 74 (.mov (t 9)), i 8 (.mov (t 74))]) .ret))))
def a73 : AFunc := ⟨75, [(.tmp 8)], c73⟩
def ga78_1 : ACode := (.ops [i 7 (.alloc [(.int .i64 0), (.int .i64 0)]), ⟨none, none, (.store 2 (t 7) (t 26)), none, []⟩])
def gb78_1 : ACode := (.block 1 (.seq (.ops [i 27 (.fieldAddr 0 (t 7)), i 28 (.load1 (t 27)), i 29 (.fieldAddr 5 (t 2)), i 30 (.load1 (t 29)), i 31 (.bin .sub (t 28) (t 30)), i 32 (.load1 (t 3)), i 33 (.bin .geq (t 31) (t 32))]) (.cond (t 33) (.seq (.ops [i 34 (.loadN 2 (t 7)), ⟨none, none, (.store 2 (t 4) (t 34)), none, []⟩, ⟨none, none, (.store 1 (t 5) (k (.bool true))), none, []⟩]) .retR) .skip)))
def c78 : ACode := (.seq (.seq (.ops [i 2 (.box (t 0)), i 3 (.box (t 1)), i 4 (.alloc [(.int .i64 0), (.int .i64 0)]), i 5 (.alloc [(.bool false)])]) (.seq (.seq (.ops [i 8 (.loadN 8 (t 2)), i 9 (.call .any (.func 96) [(t 8)]), i 10 (.un .not (t 9)), i 11 (.mov (t 10)), ⟨(some 12), (some (11, false)), (.load1 (t 3)), none, []⟩, ⟨(some 13), (some (11, false)), (.bin .gtr (t 12) (k (.int .i64 1051898399))), none, []⟩, i 14 (.pick (t 11) (k (.bool true)) (t 13))]) (.cond (t 14) (.seq (.ops [i 15 (.build [(.int .i64 0), (.int .i64 0)] []), ⟨none, none, (.store 2 (t 4) (t 15)), none, []⟩, ⟨none, none, (.store 1 (t 5) (k (.bool false))), none, []⟩]) .retM) .skip)) (.seq (.ops [i 16 (.load1 (t 3)), i 17 (.minmax true [(t 16), (k (.int .i64 0))]), ⟨none, none, (.store 1 (t 3) (t 17)), none, []⟩]) (.seq (.ops [i 18 (.load1 (t 3)), i 19 (.fieldAddr 5 (t 2)), i 20 (.load1 (t 19)), i 21 (.bin .add (t 18) (t 20)), i 22 (.bin .quo (t 21) (k (.int .i64 1440))), i 6 (.mov (t 22))]) (.seq (.seq (.ops [i 23 (.loadN 8 (t 2)), i 24 (.mov (t 6)), i 25 (.call .any (.func 103) [(t 23), (t 24), (k (.int .i64 1))])]) (.block 0 (.rangeF (t 25) [26] ga78_1 gb78_1))) (.seq (.ops [i 35 (.build [(.int .i64 0), (.int .i64 0)] []), ⟨none, none, (.store 2 (t 4) (t 35)), none, []⟩, ⟨none, none, (.store 1 (t 5) (k (.bool false))), none, []⟩]) .retM)))))) .retM)
def a78 : AFunc := ⟨36, [(.cellN 2 4), (.cell1 5)], c78⟩
theorem n78 : a78.ntmps = 36 := id rfl
theorem r78 : a78.results = [(.cellN 2 4), (.cell1 5)] := rfl
theorem b78 : a78.body = c78 := rfl
def c79 : ACode := (.seq (.ops [i 2 (.box (t 0)), i 4 (.alloc [(.int .i64 0), (.int .i64 0)]), i 5 (.mov (k (.bool false)))]) (.seq (.seq (.ops [i 6 (.loadN 8 (t 2)), i 7 (.call .any (.func 96) [(t 6)]), i 8 (.un .not (t 7)), i 9 (.mov (t 8)), ⟨(some 10), (some (9, false)), (.mov (t 1)), none, []⟩, ⟨(some 11), (some (9, false)), (.bin .lss (t 10) (k (.int .i64 0))), none, []⟩, i 12 (.pick (t 9) (k (.bool true)) (t 11)), i 13 (.mov (t 12)), ⟨(some 14), (some (13, false)), (.mov (t 1)), none, []⟩, ⟨(some 15), (some (13, false)), (.bin .gtr (t 14) (k (.int .i64 730484))), none, []⟩, i 16 (.pick (t 13) (k (.bool true)) (t 15))]) (.cond (t 16) (.seq (.ops [i 17 (.build [(.int .i64 0), (.int .i64 0)] []), ⟨none, none, (.store 2 (t 4) (t 17)), none, []⟩, i 5 (.mov (k (.bool false)))]) .ret) .skip)) (.seq (.ops [i 18 (.loadN 8 (t 2)), i 19 (.mov (t 1)), i 20 (.call .any (.func 109) [(t 18), (t 19)]), i 21 (.extract 0 (t 20)), i 22 (.extract 1 (t 20)), ⟨none, none, (.store 2 (t 4) (t 21)), none, []⟩, i 5 (.mov (t 22))]) .ret)))
def a79 : AFunc := ⟨23, [(.cellN 2 4), (.tmp 5)], c79⟩
def c83 : ACode := (.seq (.ops [i 0 (.alloc [(.slice none 0 0), (.slice none 0 0)])]) (.seq (.ops [i 1 (.buildSlice 2 [(.int .i64 0), (.int .i64 0)] [(0, (1, (k (.int .i64 1)))), (1, (1, (k (.int .i64 2))))]), i 2 (.build [(.int .i64 0), (.int .i64 0), (.int .i64 0), (.int .i64 0), (.int .i64 0), (.int .i64 0), (.int .i64 0), (.int .u8 0)] [(0, (1, (k (.int .i64 1)))), (1, (1, (k (.int .i64 1)))), (2, (1, (k (.int .i64 2)))), (3, (1, (k (.int .i64 600)))), (4, (1, (k (.int .i64 60)))), (6, (1, (k (.int .i64 1000)))), (7, (1, (k (.int .u8 127))))]), i 3 (.buildSlice 1 [(.int .i64 0), (.int .i64 0), (.int .i64 0), (.int .i64 0), (.int .i64 0), (.int .i64 0), (.int .i64 0), (.int .u8 0)] [(0, (8, (t 2)))]), i 4 (.build [(.slice none 0 0), (.slice none 0 0)] [(0, (1, (t 1))), (1, (1, (t 3)))]), ⟨none, none, (.store 2 (t 0) (t 4)), none, []⟩]) .ret))
def a83 : AFunc := ⟨5, [(.cellN 2 0)], c83⟩
theorem n83 : a83.ntmps = 5 := id rfl
theorem r83 : a83.results = [(.cellN 2 0)] := rfl
theorem b83 : a83.body = c83 := rfl
def l86_1 : ACode := (.seq (.ops [i 19 (.bin .lss (t 18) (t 17))]) (.seq (.cond (t 19) .skip (.exit 0)) (.seq (.block 1 (.seq (.ops [i 20 (.mov (t 18)), i 21 (.idxAddrS 7 (t 16) (t 18)), i 22 (.loadN 7 (t 21)), i 7 (.alloc [(.int .i64 0), (.int .i64 0), (.int .i64 0), (.int .u8 0), (.int .i64 0), (.int .i64 0), (.int .i64 0)]), i 6 (.mov (t 20)), ⟨none, none, (.store 7 (t 7) (t 22)), none, []⟩]) (.block 2 (.seq (.seq (.ops [i 24 (.fieldAddr 0 (t 7)), i 25 (.loadN 6 (t 24)), i 26 (.buildSlice 1 [(.int .i64 0), (.int .i64 0), (.int .i64 0), (.int .u8 0), (.int .i64 0), (.int .i64 0)] [(0, (6, (t 25)))]), i 27 (.call .any (.func 114) [(t 26)]), i 28 (.un .not (t 27)), i 23 (.mov (t 28))]) (.cond (t 23) .skip (.seq (.ops [i 29 (.fieldAddr 6 (t 7)), i 30 (.load1 (t 29)), i 31 (.bin .lss (t 30) (k (.int .i64 0))), i 23 (.mov (t 31))]) (.cond (t 23) .skip (.ops [i 32 (.fieldAddr 6 (t 7)), i 33 (.load1 (t 32)), i 34 (.bin .gtr (t 33) (k (.int .i64 1051898399))), i 23 (.mov (t 34))]))))) (.cond (t 23) (.seq (.ops [i 4 (.mov (k (.int .i64 2)))]) .ret) (.seq (.drawn 0 [i 36 (.mov (t 6)), i 37 (.bin .gtr (t 36) (k (.int .i64 0))), i 38 (.mov (t 37)), ⟨(some 39), (some (38, true)), (.fieldAddr 0 (t 7)), none, []⟩, ⟨(some 40), (some (38, true)), (.fieldAddr 0 (t 39)), none, []⟩, ⟨(some 41), (some (38, true)), (.load1 (t 40)), none, []⟩, ⟨(some 42), (some (38, true)), (.mov (t 1)), none, []⟩, ⟨(some 43), (some (38, true)), (.idxAddrS 7 (t 42) (k (.int .i64 0))), none, []⟩, ⟨(some 44), (some (38, true)), (.fieldAddr 0 (t 43)), none, []⟩, ⟨(some 45), (some (38, true)), (.fieldAddr 0 (t 44)), none, []⟩, ⟨(some 46), (some (38, true)), (.load1 (t 45)), none, []⟩, ⟨(some 47), (some (38, true)), (.bin .neq (t 41) (t 46)), none, []⟩, ⟨(some 48), (some (38, true)), (.mov (t 47)), none, []⟩, ⟨(some 49), (some (48, false)), (.fieldAddr 6 (t 7)), none, []⟩, ⟨(some 50), (some (48, false)), (.load1 (t 49)), none, []⟩, ⟨(some 51), (some (48, false)), (.mov (t 1)), none, []⟩, ⟨(some 52), (some (48, false)), (.mov (t 6)), none, []⟩, ⟨(some 53), (some (48, false)), (.bin .sub (t 52) (k (.int .i64 1))), none, []⟩, ⟨(some 54), (some (48, false)), (.idxAddrS 7 (t 51) (t 53)), none, []⟩, ⟨(some 55), (some (48, false)), (.fieldAddr 6 (t 54)), none, []⟩, ⟨(some 56), (some (48, false)), (.load1 (t 55)), none, []⟩, ⟨(some 57), (some (48, false)), (.bin .lss (t 50) (t 56)), none, []⟩, ⟨(some 58), (some (38, true)), (.pick (t 48) (k (.bool true)) (t 57)), none, []⟩, i 59 (.pick (t 38) (t 58) (k (.bool false))), i 35 (.mov (t 59))]) (.cond (t 35) (.seq (.ops [i 4 (.mov (k (.int .i64 2)))]) .ret) .skip))))))) (.ops [i 60 (.bin .add (t 18) (k (.int .i64 1))), i 18 (.mov (t 60))]))))
def c86 : ACode := (.seq (.ops [i 2 (.box (t 0)), i 4 (.mov (k (.int .i64 0)))]) (.seq (.seq (.ops [i 8 (.loadN 2 (t 2)), i 9 (.call .any (.func 55) [(t 8)]), i 5 (.mov (t 9))]) (.seq (.ops [i 10 (.mov (t 5)), i 11 (.bin .neq (t 10) (k (.int .i64 0)))]) (.cond (t 11) (.seq (.ops [i 12 (.mov (t 5)), i 4 (.mov (t 12))]) .ret) .skip))) (.seq (.seq (.ops [i 13 (.mov (t 1)), i 14 (.lenSlice (t 13)), i 15 (.bin .gtr (t 14) (k (.int .i64 40)))]) (.cond (t 15) (.seq (.ops [i 4 (.mov (k (.int .i64 5)))]) .ret) .skip)) (.seq (.seq (.ops [i 16 (.mov (t 1)), i 17 (.lenSlice (t 16)), i 18 (.mov (k (.int .i64 0)))]) (.block 0 (.loop l86_1))) (.seq (.ops [i 4 (.mov (k (.int .i64 0)))]) .ret)))))
def a86 : AFunc := ⟨61, [(.tmp 4)], c86⟩
theorem n86 : a86.ntmps = 61 := id rfl
theorem r86 : a86.results = [(.tmp 4)] := rfl
theorem b86 : a86.body = c86 := rfl
def c87 : ACode := (.seq (.ops [i 1 (.box (t 0)), i 2 (.mov (k (.pointer none)))]) (.seq (.ops [i 3 (.loadN 2 (t 1)), i 4 (.makeMap none), i 5 (.build [(.slice none 0 0), (.slice none 0 0), (.map none)] [(0, (2, (t 3))), (2, (1, (t 4)))]), i 6 (.box (t 5)), i 2 (.mov (t 6))]) .ret))
def a87 : AFunc := ⟨7, [(.tmp 2)], c87⟩
theorem n87 : a87.ntmps = 7 := id rfl
theorem r87 : a87.results = [(.tmp 2)] := rfl
theorem b87 : a87.body = c87 := rfl
def l88_1 : ACode := (.seq (.seq (.ops [i 19 (.mov (t 8)), i 20 (.mov (t 2)), i 21 (.lenSlice (t 20)), i 22 (.bin .lss (t 19) (t 21))]) (.cond (t 22) .skip (.exit 0))) (.seq (.block 1 (.seq (.drawn 1 [i 25 (.mov (t 2)), i 26 (.mov (t 8)), i 27 (.bin .sub (t 26) (k (.int .i64 1))), i 28 (.idxAddrS 1 (t 25) (t 27)), ⟨(some 29), none, (.load1 (t 28)), none, [0]⟩, i 30 (.mov (t 2)), i 31 (.mov (t 8)), i 32 (.idxAddrS 1 (t 30) (t 31)), ⟨(some 33), none, (.load1 (t 32)), none, [0]⟩, i 34 (.build [(.int .i64 0), (.int .i64 0), (.int .i64 0)] [(0, (1, (t 29))), (1, (1, (t 33)))]), ⟨(some 9), none, (.alloc [(.int .i64 0), (.int .i64 0), (.int .i64 0)]), (some 0), []⟩, ⟨none, none, (.store 3 (t 9) (t 34)), none, []⟩]) (.seq (.drawn 0 [i 35 (.mov (t 0)), i 36 (.mov (t 1)), i 37 (.fieldAddr 0 (t 9)), i 38 (.load1 (t 37)), i 39 (.idxAddrS 7 (t 36) (t 38)), i 40 (.loadN 7 (t 39)), i 41 (.mov (t 1)), i 42 (.fieldAddr 1 (t 9)), i 43 (.load1 (t 42)), i 44 (.idxAddrS 7 (t 41) (t 43)), i 45 (.loadN 7 (t 44)), i 46 (.call .any (.func 92) [(t 35), (t 40), (t 45)]), i 47 (.fieldAddr 2 (t 9)), ⟨none, none, (.store 1 (t 47) (t 46)), none, []⟩]) (.seq (.ops [i 48 (.fieldAddr 2 (t 7)), i 49 (.load1 (t 48)), i 50 (.fieldAddr 2 (t 9)), i 51 (.load1 (t 50)), i 52 (.bin .add (t 49) (t 51)), i 53 (.fieldAddr 2 (t 7)), ⟨none, none, (.store 1 (t 53) (t 52)), none, []⟩]) (.ops [i 54 (.fieldAddr 1 (t 7)), i 55 (.load1 (t 54)), i 56 (.loadN 3 (t 9)), i 57 (.buildSlice 1 [(.int .i64 0), (.int .i64 0), (.int .i64 0)] [(0, (3, (t 56)))]), i 58 (.append 3 24 false (t 55) (t 57)), i 59 (.fieldAddr 1 (t 7)), ⟨none, none, (.store 1 (t 59) (t 58)), none, []⟩]))))) (.ops [i 23 (.mov (t 8)), i 24 (.bin .add (t 23) (k (.int .i64 1))), i 8 (.mov (t 24))])))
def c88 : ACode := (.seq (.ops [i 6 (.alloc [(.slice none 0 0), (.slice none 0 0), (.int .i64 0)])]) (.seq (.ops [i 10 (.mov (t 2)), i 11 (.call .any (.func 63) [(t 10)]), i 12 (.mov (t 1)), i 13 (.lenSlice (t 12)), i 14 (.mov (t 2)), i 15 (.lenSlice (t 14)), i 16 (.bin .sub (t 13) (t 15)), i 17 (.bin .mul (k (.int .i64 30)) (t 16)), i 18 (.build [(.slice none 0 0), (.slice none 0 0), (.int .i64 0)] [(0, (1, (t 11))), (2, (1, (t 17)))]), i 7 (.alloc [(.slice none 0 0), (.slice none 0 0), (.int .i64 0)]), ⟨none, none, (.store 3 (t 7) (t 18)), none, []⟩]) (.seq (.seq (.ops [i 8 (.mov (k (.int .i64 1)))]) (.block 0 (.loop l88_1))) (.seq (.ops [i 60 (.loadN 3 (t 7)), ⟨none, none, (.store 3 (t 6) (t 60)), none, []⟩]) .ret))))
def a88 : AFunc := ⟨61, [(.cellN 3 6)], c88⟩
theorem n88 : a88.ntmps = 61 := id rfl
theorem r88 : a88.results = [(.cellN 3 6)] := rfl
theorem b88 : a88.body = c88 := rfl
def l89_1 : ACode := (.seq (.seq (.ops [i 119 (.mov (t 16)), i 120 (.bin .geq (t 119) (k (.int .i64 0)))]) (.cond (t 120) .skip (.exit 6))) (.seq (.block 7 (.ops [i 126 (.mov (t 15)), i 127 (.mov (t 16)), i 128 (.buildSlice 1 [(.int .i64 0)] [(0, (1, (t 127)))]), i 129 (.append 1 8 false (t 126) (t 128)), i 15 (.mov (t 129))])) (.ops [i 121 (.mov (t 5)), i 122 (.mov (t 16)), i 123 (.idxAddrS 3 (t 121) (t 122)), i 124 (.fieldAddr 2 (t 123)), i 125 (.load1 (t 124)), i 16 (.mov (t 125))])))
def l89_2 : ACode := (.seq (.seq (.ops [i 87 (.mov (t 13)), i 88 (.bin .geq (t 87) (k (.int .i64 0)))]) (.cond (t 88) .skip (.exit 4))) (.seq (.block 5 (.seq (.drawn 1 [i 91 (.mov (t 13)), i 92 (.bin .mul (k (.int .i64 30)) (t 91)), i 93 (.mov (t 5)), i 94 (.mov (t 13)), i 95 (.idxAddrS 3 (t 93) (t 94)), i 96 (.fieldAddr 0 (t 95)), ⟨(some 97), none, (.load1 (t 96)), none, [0]⟩, i 98 (.bin .add (t 92) (t 97)), i 99 (.mov (t 5)), i 100 (.mov (t 13)), i 101 (.idxAddrS 3 (t 99) (t 100)), i 102 (.fieldAddr 1 (t 101)), ⟨(some 103), none, (.load1 (t 102)), none, [0]⟩, i 104 (.mov (t 13)), i 105 (.build [(.int .i64 0), (.int .i64 0), (.int .i64 0)] [(0, (1, (t 98))), (1, (1, (t 103))), (2, (1, (t 104)))]), ⟨(some 14), none, (.alloc [(.int .i64 0), (.int .i64 0), (.int .i64 0)]), (some 0), []⟩, ⟨none, none, (.store 3 (t 14) (t 105)), none, []⟩]) (.seq (.ops [i 106 (.fieldAddr 2 (t 12)), i 107 (.load1 (t 106)), i 108 (.bin .lss (t 107) (k (.int .i64 0))), i 109 (.mov (t 108)), ⟨(some 110), (some (109, false)), (.mov (t 6)), none, []⟩, ⟨(some 111), (some (109, false)), (.loadN 3 (t 12)), none, []⟩, ⟨(some 112), (some (109, false)), (.loadN 3 (t 14)), none, []⟩, ⟨(some 113), (some (109, false)), (.call .any (t 110) [(t 111), (t 112)]), none, []⟩, ⟨(some 114), (some (109, false)), (.un .not (t 113)), none, []⟩, i 115 (.pick (t 109) (k (.bool true)) (t 114))]) (.cond (t 115) (.ops [i 116 (.loadN 3 (t 14)), ⟨none, none, (.store 3 (t 12) (t 116)), none, []⟩]) .skip)))) (.ops [i 89 (.mov (t 13)), i 90 (.bin .sub (t 89) (k (.int .i64 1))), i 13 (.mov (t 90))])))
def l89_3 : ACode := (.seq (.seq (.ops [i 37 (.mov (t 9)), i 38 (.mov (t 7)), i 39 (.bin .gtr (t 37) (t 38))]) (.cond (t 39) .skip (.exit 2))) (.seq (.block 3 (.seq (.ops [i 42 (.mov (t 9)), i 43 (.mov (t 7)), i 44 (.bin .sub (t 42) (t 43)), i 45 (.bin .sub (t 44) (k (.int .i64 1))), i 46 (.bin .mul (k (.int .i64 30)) (t 45)), i 10 (.mov (t 46))]) (.seq (.drawn 1 [i 47 (.mov (t 0)), i 48 (.mov (t 1)), i 49 (.mov (t 7)), i 50 (.idxAddrS 7 (t 48) (t 49)), ⟨(some 51), none, (.loadN 7 (t 50)), none, [0]⟩, i 52 (.mov (t 1)), i 53 (.mov (t 9)), i 54 (.idxAddrS 7 (t 52) (t 53)), ⟨(some 55), none, (.loadN 7 (t 54)), none, [0]⟩, i 57 (.mov (t 10)), i 59 (.mov (t 5)), i 60 (.mov (t 9)), i 61 (.idxAddrS 3 (t 59) (t 60)), i 62 (.fieldAddr 0 (t 61)), ⟨(some 63), none, (.load1 (t 62)), none, [0]⟩, i 65 (.mov (t 5)), i 66 (.mov (t 9)), i 67 (.idxAddrS 3 (t 65) (t 66)), i 68 (.fieldAddr 1 (t 67)), ⟨(some 69), none, (.load1 (t 68)), none, [0]⟩, i 70 (.bin .add (t 69) (k (.int .i64 1))), i 71 (.mov (t 9)), ⟨(some 11), none, (.alloc [(.int .i64 0), (.int .i64 0), (.int .i64 0)]), (some 0), []⟩, ⟨(some 56), none, (.call .maps (.func 92) [(t 47), (t 51), (t 55)]), none, [0]⟩, i 58 (.bin .add (t 56) (t 57)), i 64 (.bin .add (t 58) (t 63)), i 72 (.build [(.int .i64 0), (.int .i64 0), (.int .i64 0)] [(0, (1, (t 64))), (1, (1, (t 70))), (2, (1, (t 71)))]), ⟨none, none, (.store 3 (t 11) (t 72)), none, []⟩]) (.seq (.ops [i 73 (.mov (t 6)), i 74 (.loadN 3 (t 8)), i 75 (.loadN 3 (t 11)), i 76 (.call .any (t 73) [(t 74), (t 75)]), i 77 (.un .not (t 76))]) (.cond (t 77) (.ops [i 78 (.loadN 3 (t 11)), ⟨none, none, (.store 3 (t 8) (t 78)), none, []⟩]) .skip))))) (.ops [i 40 (.mov (t 9)), i 41 (.bin .sub (t 40) (k (.int .i64 1))), i 9 (.mov (t 41))])))
def l89_4 : ACode := (.seq (.seq (.ops [i 23 (.mov (t 7)), i 24 (.bin .geq (t 23) (k (.int .i64 0)))]) (.cond (t 24) .skip (.exit 0))) (.seq (.block 1 (.seq (.ops [i 27 (.mov (t 1)), i 28 (.lenSlice (t 27)), i 29 (.bin .sub (t 28) (k (.int .i64 1))), i 30 (.mov (t 7)), i 31 (.bin .sub (t 29) (t 30)), i 32 (.bin .mul (k (.int .i64 30)) (t 31)), i 33 (.build [(.int .i64 0), (.int .i64 0), (.int .i64 0)] [(0, (1, (t 32))), (1, (1, (k (.int .i64 1)))), (2, (1, (k (.int .i64 (-1)))))]), i 8 (.alloc [(.int .i64 0), (.int .i64 0), (.int .i64 0)]), ⟨none, none, (.store 3 (t 8) (t 33)), none, []⟩]) (.seq (.seq (.ops [i 34 (.mov (t 1)), i 35 (.lenSlice (t 34)), i 36 (.bin .sub (t 35) (k (.int .i64 1))), i 9 (.mov (t 36))]) (.block 2 (.loop l89_3))) (.ops [i 79 (.mov (t 5)), i 80 (.mov (t 7)), i 81 (.loadN 3 (t 8)), i 82 (.idxAddrS 3 (t 79) (t 80)), ⟨none, none, (.store 3 (t 82) (t 81)), none, []⟩])))) (.ops [i 25 (.mov (t 7)), i 26 (.bin .sub (t 25) (k (.int .i64 1))), i 7 (.mov (t 26))])))
def c89 : ACode := (.seq (.ops [i 4 (.mov (k (.slice none 0 0)))]) (.seq (.ops [i 17 (.mov (t 1)), i 18 (.lenSlice (t 17)), i 19 (.makeSlice 3 24 [(.int .i64 0), (.int .i64 0), (.int .i64 0)] (t 18) (t 18)), i 5 (.mov (t 19))]) (.seq (.ops [i 6 (.mov (.func 115))]) (.seq (.seq (.ops [i 20 (.mov (t 1)), i 21 (.lenSlice (t 20)), i 22 (.bin .sub (t 21) (k (.int .i64 1))), i 7 (.mov (t 22))]) (.block 0 (.loop l89_4))) (.seq (.ops [i 83 (.build [(.int .i64 0), (.int .i64 0), (.int .i64 0)] [(2, (1, (k (.int .i64 (-1)))))]), i 12 (.alloc [(.int .i64 0), (.int .i64 0), (.int .i64 0)]), ⟨none, none, (.store 3 (t 12) (t 83)), none, []⟩]) (.seq (.seq (.ops [i 84 (.mov (t 1)), i 85 (.lenSlice (t 84)), i 86 (.bin .sub (t 85) (k (.int .i64 1))), i 13 (.mov (t 86))]) (.block 4 (.loop l89_2))) (.seq (.ops [i 15 (.mov (k (.slice none 0 0)))]) (.seq (.seq (.ops [i 117 (.fieldAddr 2 (t 12)), i 118 (.load1 (t 117)), i 16 (.mov (t 118))]) (.block 6 (.loop l89_1))) (.seq (.ops [i 130 (.mov (t 15)), i 4 (.mov (t 130))]) .ret)))))))))
def a89 : AFunc := ⟨131, [(.tmp 4)], c89⟩
theorem n89 : a89.ntmps = 131 := id rfl
theorem r89 : a89.results = [(.tmp 4)] := rfl
theorem b89 : a89.body = c89 := rfl
def c92 : ACode := (.seq (.ops [i 4 (.box (t 1)), i 5 (.box (t 2)), i 6 (.mov (k (.int .i64 0)))]) (.seq (.block 0 (.seq (.ops [i 10 (.fieldAddr 0 (t 4)), i 11 (.fieldAddr 3 (t 10)), i 12 (.load1 (t 11)), i 13 (.bin .eql (t 12) (k (.int .u8 4))), i 9 (.mov (t 13))]) (.cond (t 9) (.seq (.ops [i 6 (.mov (k (.int .i64 80)))]) .ret) (.seq (.ops [i 15 (.fieldAddr 0 (t 4)), i 16 (.fieldAddr 1 (t 15)), i 17 (.load1 (t 16)), i 18 (.fieldAddr 0 (t 5)), i 19 (.fieldAddr 1 (t 18)), i 20 (.load1 (t 19)), i 21 (.bin .eql (t 17) (t 20)), i 14 (.mov (t 21))]) (.cond (t 14) (.seq (.ops [i 6 (.mov (k (.int .i64 0)))]) .ret) .skip))))) (.seq (.drawn 0 [i 22 (.mov (t 0)), i 23 (.nilCheck (t 22)), i 24 (.fieldAddr 0 (t 23)), i 25 (.fieldAddr 0 (t 24)), i 26 (.load1 (t 25)), i 27 (.fieldAddr 0 (t 5)), i 28 (.fieldAddr 1 (t 27)), i 29 (.load1 (t 28)), i 30 (.call .pure (.func 117) [(t 26), (t 29)]), i 7 (.mov (t 30))]) (.seq (.seq (.ops [i 31 (.mov (t 7)), i 32 (.bin .lss (t 31) (k (.int .i64 0)))]) (.cond (t 32) (.seq (.ops [i 6 (.mov (k (.int .i64 80)))]) .ret) .skip)) (.seq (.ops [i 33 (.mov (t 0)), i 34 (.fieldAddr 0 (t 4)), i 35 (.fieldAddr 1 (t 34)), i 36 (.load1 (t 35)), i 37 (.fieldAddr 6 (t 4)), i 38 (.load1 (t 37)), i 39 (.call .any (.func 118) [(t 33), (t 36), (t 38)]), i 8 (.mov (t 39))]) (.seq (.seq (.ops [i 40 (.mov (t 7)), i 41 (.mov (t 8)), i 42 (.lenSlice (t 41)), i 43 (.bin .geq (t 40) (t 42)), i 44 (.mov (t 43)), ⟨(some 45), (some (44, false)), (.mov (t 8)), none, []⟩, ⟨(some 46), (some (44, false)), (.mov (t 7)), none, []⟩, ⟨(some 47), (some (44, false)), (.idxAddrS 1 (t 45) (t 46)), none, []⟩, ⟨(some 48), (some (44, false)), (.load1 (t 47)), none, []⟩, ⟨(some 49), (some (44, false)), (.bin .lss (t 48) (k (.int .i64 0))), none, []⟩, i 50 (.pick (t 44) (k (.bool true)) (t 49))]) (.cond (t 50) (.seq (.ops [i 6 (.mov (k (.int .i64 80)))]) .ret) .skip)) (.seq (.drawn 0 [i 51 (.mov (t 8)), i 52 (.mov (t 7)), i 53 (.idxAddrS 1 (t 51) (t 52)), i 54 (.load1 (t 53)), i 55 (.fieldAddr 6 (t 5)), i 56 (.load1 (t 55)), i 57 (.bin .sub (t 54) (t 56)), i 58 (.minmax true [(t 57), (k (.int .i64 0))]), i 59 (.minmax false [(t 58), (k (.int .i64 60))]), i 6 (.mov (t 59))]) .ret)))))))
def a92 : AFunc := ⟨60, [(.tmp 6)], c92⟩
theorem n92 : a92.ntmps = 60 := id rfl
theorem r92 : a92.results = [(.tmp 6)] := rfl
theorem b92 : a92.body = c92 := rfl
def l96_1 : ACode := (.seq (.ops [i 34 (.bin .lss (t 33) (k (.int .i64 8)))]) (.seq (.cond (t 34) .skip (.exit 0)) (.seq (.block 1 (.seq (.ops [i 35 (.idxA 8 3 true (t 32) (t 33)), i 5 (.alloc [(.int .i64 0), (.int .i64 0), (.int .i64 0)]), ⟨none, none, (.store 3 (t 5) (t 35)), none, []⟩]) (.seq (.ops [i 36 (.fieldAddr 0 (t 5)), i 37 (.load1 (t 36)), i 38 (.fieldAddr 1 (t 5)), i 39 (.load1 (t 38)), i 40 (.bin .lss (t 37) (t 39)), i 41 (.mov (t 40)), ⟨(some 42), (some (41, false)), (.fieldAddr 0 (t 5)), none, []⟩, ⟨(some 43), (some (41, false)), (.load1 (t 42)), none, []⟩, ⟨(some 44), (some (41, false)), (.fieldAddr 2 (t 5)), none, []⟩, ⟨(some 45), (some (41, false)), (.load1 (t 44)), none, []⟩, ⟨(some 46), (some (41, false)), (.bin .gtr (t 43) (t 45)), none, []⟩, i 47 (.pick (t 41) (k (.bool true)) (t 46))]) (.cond (t 47) (.seq (.ops [i 2 (.mov (k (.bool false)))]) .ret) .skip)))) (.ops [i 48 (.bin .add (t 33) (k (.int .i64 1))), i 33 (.mov (t 48))]))))
def c96 : ACode := (.seq (.ops [i 1 (.box (t 0)), i 2 (.mov (k (.bool false)))]) (.seq (.ops [i 6 (.fieldAddr 0 (t 1)), i 7 (.load1 (t 6)), i 8 (.build [(.int .i64 0), (.int .i64 0), (.int .i64 0)] [(0, (1, (t 7))), (1, (1, (k (.int .i64 1)))), (2, (1, (k (.int .i64 999999))))]), i 9 (.fieldAddr 1 (t 1)), i 10 (.load1 (t 9)), i 11 (.build [(.int .i64 0), (.int .i64 0), (.int .i64 0)] [(0, (1, (t 10))), (1, (1, (k (.int .i64 1)))), (2, (1, (k (.int .i64 999999))))]), i 12 (.fieldAddr 2 (t 1)), i 13 (.load1 (t 12)), i 14 (.build [(.int .i64 0), (.int .i64 0), (.int .i64 0)] [(0, (1, (t 13))), (1, (1, (k (.int .i64 1)))), (2, (1, (k (.int .i64 999999))))]), i 15 (.fieldAddr 3 (t 1)), i 16 (.load1 (t 15)), i 17 (.build [(.int .i64 0), (.int .i64 0), (.int .i64 0)] [(0, (1, (t 16))), (1, (1, (k (.int .i64 0)))), (2, (1, (k (.int .i64 1439))))]), i 18 (.fieldAddr 4 (t 1)), i 19 (.load1 (t 18)), i 20 (.build [(.int .i64 0), (.int .i64 0), (.int .i64 0)] [(0, (1, (t 19))), (1, (1, (k (.int .i64 1)))), (2, (1, (k (.int .i64 20160))))]), i 21 (.fieldAddr 5 (t 1)), i 22 (.load1 (t 21)), i 23 (.build [(.int .i64 0), (.int .i64 0), (.int .i64 0)] [(0, (1, (t 22))), (1, (1, (k (.int .i64 0)))), (2, (1, (k (.int .i64 10080))))]), i 24 (.fieldAddr 6 (t 1)), i 25 (.load1 (t 24)), i 26 (.build [(.int .i64 0), (.int .i64 0), (.int .i64 0)] [(0, (1, (t 25))), (1, (1, (k (.int .i64 0)))), (2, (1, (k (.int .i64 1000000000))))]), i 27 (.fieldAddr 7 (t 1)), i 28 (.load1 (t 27)), i 29 (.conv .i64 (t 28)), i 30 (.build [(.int .i64 0), (.int .i64 0), (.int .i64 0)] [(0, (1, (t 29))), (1, (1, (k (.int .i64 1)))), (2, (1, (k (.int .i64 127))))]), i 31 (.build [(.int .i64 0), (.int .i64 0), (.int .i64 0), (.int .i64 0), (.int .i64 0), (.int .i64 0), (.int .i64 0), (.int .i64 0), (.int .i64 0), (.int .i64 0), (.int .i64 0), (.int .i64 0), (.int .i64 0), (.int .i64 0), (.int .i64 0), (.int .i64 0), (.int .i64 0), (.int .i64 0), (.int .i64 0), (.int .i64 0), (.int .i64 0), (.int .i64 0), (.int .i64 0), (.int .i64 0)] [(0, (3, (t 8))), (3, (3, (t 11))), (6, (3, (t 14))), (9, (3, (t 17))), (12, (3, (t 20))), (15, (3, (t 23))), (18, (3, (t 26))), (21, (3, (t 30)))]), i 3 (.alloc [(.int .i64 0), (.int .i64 0), (.int .i64 0), (.int .i64 0), (.int .i64 0), (.int .i64 0), (.int .i64 0), (.int .i64 0), (.int .i64 0), (.int .i64 0), (.int .i64 0), (.int .i64 0), (.int .i64 0), (.int .i64 0), (.int .i64 0), (.int .i64 0), (.int .i64 0), (.int .i64 0), (.int .i64 0), (.int .i64 0), (.int .i64 0), (.int .i64 0), (.int .i64 0), (.int .i64 0)]), ⟨none, none, (.store 24 (t 3) (t 31)), none, []⟩]) (.seq (.seq (.ops [i 32 (.loadN 24 (t 3)), i 33 (.mov (k (.int .i64 0)))]) (.block 0 (.loop l96_1))) (.seq (.ops [i 49 (.fieldAddr 1 (t 1)), i 50 (.load1 (t 49)), i 51 (.fieldAddr 2 (t 1)), i 52 (.load1 (t 51)), i 53 (.bin .neq (t 50) (t 52)), i 2 (.mov (t 53))]) .ret))))
def a96 : AFunc := ⟨54, [(.tmp 2)], c96⟩
theorem n96 : a96.ntmps = 54 := id rfl
theorem r96 : a96.results = [(.tmp 2)] := rfl
theorem b96 : a96.body = c96 := rfl
def l101_1 : ACode := (.seq (.ops [i 14 (.bin .lss (t 13) (t 12))]) (.seq (.cond (t 14) .skip (.exit 0)) (.seq (.block 1 (.seq (.ops [i 15 (.mov (t 13)), i 16 (.idxAddrS 1 (t 11) (t 13)), i 17 (.load1 (t 16)), i 4 (.mov (t 15)), i 5 (.mov (t 17))]) (.ops [i 18 (.mov (t 3)), i 19 (.mov (t 5)), i 20 (.mov (t 4)), ⟨none, none, (.mapUpdate (.int .i64) (t 18) (t 19) (t 20)), none, []⟩]))) (.ops [i 21 (.bin .add (t 13) (k (.int .i64 1))), i 13 (.mov (t 21))]))))
def c101 : ACode := (.seq (.ops [i 1 (.box (t 0)), i 2 (.mov (k (.map none)))]) (.seq (.ops [i 6 (.fieldAddr 0 (t 1)), i 7 (.load1 (t 6)), i 8 (.lenSlice (t 7)), i 9 (.makeMap (some (t 8))), i 3 (.mov (t 9))]) (.seq (.seq (.ops [i 10 (.fieldAddr 0 (t 1)), i 11 (.load1 (t 10)), i 12 (.lenSlice (t 11)), i 13 (.mov (k (.int .i64 0)))]) (.block 0 (.loop l101_1))) (.seq (.ops [i 22 (.mov (t 3)), i 2 (.mov (t 22))]) .ret))))
def a101 : AFunc := ⟨23, [(.tmp 2)], c101⟩
theorem n101 : a101.ntmps = 23 := id rfl
theorem r101 : a101.results = [(.tmp 2)] := rfl
theorem b101 : a101.body = c101 := rfl
def c102 : ACode := (.seq (.ops [i 5 (.box (t 0)), i 6 (.box (t 1))]) (.seq (.drawn 0 [i 12 (.load1 (t 3)), i 13 (.fieldAddr 1 (t 5)), i 14 (.load1 (t 13)), i 15 (.lookup (.int .i64) (.int .i64 0) false (t 12) (t 14)), i 16 (.idxAddrA 50 1 (t 6) (t 15)), i 17 (.load1 (t 16)), i 18 (.load1 (t 3)), i 19 (.fieldAddr 2 (t 5)), i 20 (.load1 (t 19)), i 21 (.lookup (.int .i64) (.int .i64 0) false (t 18) (t 20)), i 8 (.mov (t 17)), i 9 (.mov (t 21))]) (.seq (.seq (.ops [i 22 (.mov (t 8)), i 23 (.bin .lss (t 22) (k (.int .i64 0)))]) (.cond (t 23) .ret .skip)) (.seq (.ops [i 25 (.loadN 8 (t 5)), i 26 (.mov (t 8)), i 27 (.call .any (.func 78) [(t 25), (t 26)]), i 24 (.mov (t 27)), i 28 (.extract 0 (t 24)), i 29 (.extract 1 (t 24)), i 10 (.alloc [(.int .i64 0), (.int .i64 0)]), ⟨none, none, (.store 2 (t 10) (t 28)), none, []⟩, i 11 (.mov (t 29))]) (.seq (.drawn 0 [i 30 (.mov (t 11)), i 31 (.mov (t 30)), ⟨(some 32), (some (31, true)), (.fieldAddr 1 (t 10)), none, []⟩, ⟨(some 33), (some (31, true)), (.load1 (t 32)), none, []⟩, ⟨(some 34), (some (31, true)), (.load1 (t 4)), none, []⟩, ⟨(some 35), (some (31, true)), (.bin .add (t 34) (k (.int .i64 86400))), none, []⟩, ⟨(some 36), (some (31, true)), (.bin .leq (t 33) (t 35)), none, []⟩, i 37 (.pick (t 31) (t 36) (k (.bool false))), i 38 (.mov (t 37)), ⟨(some 39), (some (38, true)), (.mov (t 2)), none, []⟩, ⟨(some 40), (some (38, true)), (.mov (t 9)), none, []⟩, ⟨(some 41), (some (38, true)), (.nilCheck (t 39)), none, []⟩, ⟨(some 42), (some (38, true)), (.idxAddrA 50 1 (t 41) (t 40)), none, []⟩, ⟨(some 43), (some (38, true)), (.load1 (t 42)), none, []⟩, ⟨(some 44), (some (38, true)), (.bin .lss (t 43) (k (.int .i64 0))), none, []⟩, ⟨(some 45), (some (38, true)), (.mov (t 44)), none, []⟩, ⟨(some 46), (some (45, false)), (.fieldAddr 1 (t 10)), none, []⟩, ⟨(some 47), (some (45, false)), (.load1 (t 46)), none, []⟩, ⟨(some 48), (some (45, false)), (.mov (t 2)), none, []⟩, ⟨(some 49), (some (45, false)), (.mov (t 9)), none, []⟩, ⟨(some 50), (some (45, false)), (.nilCheck (t 48)), none, []⟩, ⟨(some 51), (some (45, false)), (.idxAddrA 50 1 (t 50) (t 49)), none, []⟩, ⟨(some 52), (some (45, false)), (.load1 (t 51)), none, []⟩, ⟨(some 53), (some (45, false)), (.bin .lss (t 47) (t 52)), none, []⟩, ⟨(some 54), (some (38, true)), (.pick (t 45) (k (.bool true)) (t 53)), none, []⟩, i 55 (.pick (t 38) (t 54) (k (.bool false)))]) (.cond (t 55) (.drawn 0 [i 56 (.mov (t 2)), i 57 (.mov (t 9)), i 58 (.fieldAddr 1 (t 10)), i 59 (.load1 (t 58)), i 60 (.nilCheck (t 56)), i 61 (.idxAddrA 50 1 (t 60) (t 57)), ⟨none, none, (.store 1 (t 61) (t 59)), none, []⟩]) .skip))))))
def a102 : AFunc := ⟨62, [], c102⟩
theorem n102 : a102.ntmps = 62 := id rfl
theorem r102 : a102.results = [] := rfl
theorem b102 : a102.body = c102 := rfl
def c103 : ACode := (.seq (.ops [i 3 (.box (t 0)), i 4 (.box (t 1)), i 5 (.box (t 2)), i 6 (.mov (k .nilFunc))]) (.seq (.ops [i 7 (.makeFunc 120 [] [(t 4), (t 5), (t 3)]), i 6 (.mov (t 7))]) .ret))
def a103 : AFunc := ⟨8, [(.tmp 6)], c103⟩
theorem n103 : a103.ntmps = 8 := id rfl
theorem r103 : a103.results = [(.tmp 6)] := rfl
theorem b103 : a103.body = c103 := rfl
def c105 : ACode := (.seq (.ops [i 2 (.mov (k (.slice none 0 0)))]) (.seq (.ops [i 3 (.mov (t 0)), i 4 (.call .any (.func 121) [(k (.slice none 0 0)), (t 3)]), i 2 (.mov (t 4))]) .ret))
def a105 : AFunc := ⟨5, [(.tmp 2)], c105⟩
def l107_1 : ACode := (.seq (.ops [i 8 (.bin .lss (t 7) (t 6))]) (.seq (.cond (t 8) .skip (.exit 0)) (.seq (.block 1 (.seq (.ops [i 9 (.idxAddrS 8 (t 5) (t 7)), i 10 (.loadN 8 (t 9)), i 4 (.alloc [(.int .i64 0), (.int .i64 0), (.int .i64 0), (.int .i64 0), (.int .i64 0), (.int .i64 0), (.int .i64 0), (.int .u8 0)]), ⟨none, none, (.store 8 (t 4) (t 10)), none, []⟩]) (.seq (.ops [i 11 (.mov (t 0)), i 12 (.loadN 8 (t 4)), i 13 (.call .any (t 11) [(t 12)]), i 14 (.un .not (t 13))]) (.cond (t 14) .ret .skip)))) (.ops [i 15 (.bin .add (t 7) (k (.int .i64 1))), i 7 (.mov (t 15))]))))
def c107 : ACode := (.seq (.ops [i 5 (.load1 (t 1)), i 6 (.lenSlice (t 5)), i 7 (.mov (k (.int .i64 0)))]) (.block 0 (.loop l107_1)))
def a107 : AFunc := ⟨16, [], c107⟩
def c109 : ACode := (.seq (.ops [i 2 (.box (t 0)), i 4 (.alloc [(.int .i64 0), (.int .i64 0)]), i 5 (.mov (k (.bool false)))]) (.seq (.ops [i 7 (.mov (t 1)), i 8 (.bin .mul (k (.int .i64 1440)) (t 7)), i 9 (.fieldAddr 3 (t 2)), i 10 (.load1 (t 9)), i 11 (.bin .add (t 8) (t 10)), i 6 (.mov (t 11))]) (.seq (.seq (.ops [i 12 (.fieldAddr 7 (t 2)), i 13 (.load1 (t 12)), i 14 (.mov (t 1)), i 15 (.bin .rem (t 14) (k (.int .i64 7))), i 16 (.bin .shr (t 13) (t 15)), i 17 (.bin .and (t 16) (k (.int .u8 1))), i 18 (.bin .eql (t 17) (k (.int .u8 0))), i 19 (.mov (t 18)), ⟨(some 20), (some (19, false)), (.mov (t 6)), none, []⟩, ⟨(some 21), (some (19, false)), (.fieldAddr 5 (t 2)), none, []⟩, ⟨(some 22), (some (19, false)), (.load1 (t 21)), none, []⟩, ⟨(some 23), (some (19, false)), (.bin .sub (t 20) (t 22)), none, []⟩, ⟨(some 24), (some (19, false)), (.bin .lss (t 23) (k (.int .i64 0))), none, []⟩, i 25 (.pick (t 19) (k (.bool true)) (t 24)), i 26 (.mov (t 25)), ⟨(some 27), (some (26, false)), (.mov (t 6)), none, []⟩, ⟨(some 28), (some (26, false)), (.fieldAddr 4 (t 2)), none, []⟩, ⟨(some 29), (some (26, false)), (.load1 (t 28)), none, []⟩, ⟨(some 30), (some (26, false)), (.bin .add (t 27) (t 29)), none, []⟩, ⟨(some 31), (some (26, false)), (.bin .gtr (t 30) (k (.int .i64 1051898399))), none, []⟩, i 32 (.pick (t 26) (k (.bool true)) (t 31))]) (.cond (t 32) (.seq (.ops [i 33 (.build [(.int .i64 0), (.int .i64 0)] []), ⟨none, none, (.store 2 (t 4) (t 33)), none, []⟩, i 5 (.mov (k (.bool false)))]) .ret) .skip)) (.seq (.ops [i 34 (.mov (t 6)), i 35 (.mov (t 6)), i 36 (.fieldAddr 4 (t 2)), i 37 (.load1 (t 36)), i 38 (.bin .add (t 35) (t 37)), i 39 (.build [(.int .i64 0), (.int .i64 0)] [(0, (1, (t 34))), (1, (1, (t 38)))]), ⟨none, none, (.store 2 (t 4) (t 39)), none, []⟩, i 5 (.mov (k (.bool true)))]) .ret))))
def a109 : AFunc := ⟨40, [(.cellN 2 4), (.tmp 5)], c109⟩
theorem n109 : a109.ntmps = 40 := id rfl
theorem r109 : a109.results = [(.cellN 2 4), (.tmp 5)] := rfl
theorem b109 : a109.body = c109 := rfl
def l114_1 : ACode := (.seq (.ops [i 11 (.bin .lss (t 10) (t 9))]) (.seq (.cond (t 11) .skip (.exit 0)) (.seq (.block 1 (.seq (.ops [i 12 (.idxAddrS 6 (t 8) (t 10)), i 13 (.loadN 6 (t 12)), i 4 (.alloc [(.int .i64 0), (.int .i64 0), (.int .i64 0), (.int .u8 0), (.int .i64 0), (.int .i64 0)]), ⟨none, none, (.store 6 (t 4) (t 13)), none, []⟩]) (.seq (.ops [i 14 (.loadN 6 (t 4)), i 15 (.call .any (.func 124) [(t 14)]), i 16 (.un .not (t 15))]) (.cond (t 16) (.seq (.ops [i 2 (.mov (k (.bool false)))]) .ret) .skip)))) (.ops [i 17 (.bin .add (t 10) (k (.int .i64 1))), i 10 (.mov (t 17))]))))
def c114 : ACode := (.seq (.ops [i 2 (.mov (k (.bool false)))]) (.seq (.seq (.ops [i 5 (.mov (t 0)), i 6 (.lenSlice (t 5)), i 7 (.bin .gtr (t 6) (k (.int .i64 2000)))]) (.cond (t 7) (.seq (.ops [i 2 (.mov (k (.bool false)))]) .ret) .skip)) (.seq (.seq (.ops [i 8 (.mov (t 0)), i 9 (.lenSlice (t 8)), i 10 (.mov (k (.int .i64 0)))]) (.block 0 (.loop l114_1))) (.seq (.ops [i 2 (.mov (k (.bool true)))]) .ret))))
def a114 : AFunc := ⟨18, [(.tmp 2)], c114⟩
theorem n114 : a114.ntmps = 18 := id rfl
theorem r114 : a114.results = [(.tmp 2)] := rfl
theorem b114 : a114.body = c114 := rfl
def c115 : ACode := (.seq (.ops [i 2 (.box (t 0)), i 3 (.box (t 1)), i 4 (.mov (k (.bool false)))]) (.seq (.ops [i 5 (.fieldAddr 0 (t 2)), i 6 (.load1 (t 5)), i 7 (.fieldAddr 0 (t 3)), i 8 (.load1 (t 7)), i 9 (.bin .lss (t 6) (t 8)), i 10 (.mov (t 9)), ⟨(some 11), (some (10, false)), (.fieldAddr 0 (t 2)), none, []⟩, ⟨(some 12), (some (10, false)), (.load1 (t 11)), none, []⟩, ⟨(some 13), (some (10, false)), (.fieldAddr 0 (t 3)), none, []⟩, ⟨(some 14), (some (10, false)), (.load1 (t 13)), none, []⟩, ⟨(some 15), (some (10, false)), (.bin .eql (t 12) (t 14)), none, []⟩, ⟨(some 16), (some (10, false)), (.mov (t 15)), none, []⟩, ⟨(some 17), (some (16, true)), (.fieldAddr 1 (t 2)), none, []⟩, ⟨(some 18), (some (16, true)), (.load1 (t 17)), none, []⟩, ⟨(some 19), (some (16, true)), (.fieldAddr 1 (t 3)), none, []⟩, ⟨(some 20), (some (16, true)), (.load1 (t 19)), none, []⟩, ⟨(some 21), (some (16, true)), (.bin .gtr (t 18) (t 20)), none, []⟩, ⟨(some 22), (some (10, false)), (.pick (t 16) (t 21) (k (.bool false))), none, []⟩, i 23 (.pick (t 10) (k (.bool true)) (t 22)), i 4 (.mov (t 23))]) .ret))
def a115 : AFunc := ⟨24, [(.tmp 4)], c115⟩
theorem n115 : a115.ntmps = 24 := id rfl
theorem r115 : a115.results = [(.tmp 4)] := rfl
theorem b115 : a115.body = c115 := rfl
def l117_1 : ACode := (.seq (.ops [i 9 (.bin .lss (t 8) (t 7))]) (.seq (.cond (t 9) .skip (.exit 0)) (.seq (.block 1 (.seq (.ops [i 10 (.mov (t 8)), i 5 (.mov (t 10))]) (.seq (.ops [i 11 (.mov (t 1)), i 12 (.mov (t 0)), i 13 (.mov (t 5)), i 14 (.idxAddrS 1 (t 12) (t 13)), i 15 (.load1 (t 14)), i 16 (.bin .eql (t 11) (t 15))]) (.cond (t 16) (.seq (.ops [i 17 (.mov (t 5)), i 4 (.mov (t 17))]) .ret) .skip)))) (.ops [i 18 (.bin .add (t 8) (k (.int .i64 1))), i 8 (.mov (t 18))]))))
def c117 : ACode := (.seq (.ops [i 4 (.mov (k (.int .i64 0)))]) (.seq (.seq (.ops [i 6 (.mov (t 0)), i 7 (.lenSlice (t 6)), i 8 (.mov (k (.int .i64 0)))]) (.block 0 (.loop l117_1))) (.seq (.ops [i 4 (.mov (k (.int .i64 (-1))))]) .ret)))
def a117 : AFunc := ⟨19, [(.tmp 4)], c117⟩
theorem n117 : a117.ntmps = 19 := id rfl
theorem r117 : a117.results = [(.tmp 4)] := rfl
theorem b117 : a117.body = c117 := rfl
def c118 : ACode := (.seq (.ops [i 6 (.mov (k (.slice none 0 0)))]) (.seq (.ops [i 11 (.mov (t 1)), i 12 (.mov (t 2)), i 13 (.build [(.int .i64 0), (.int .i64 0)] [(0, (1, (t 11))), (1, (1, (t 12)))]), i 7 (.alloc [(.int .i64 0), (.int .i64 0)]), ⟨none, none, (.store 2 (t 7) (t 13)), none, []⟩]) (.seq (.drawn 0 [i 15 (.mov (t 0)), i 16 (.nilCheck (t 15)), i 17 (.fieldAddr 2 (t 16)), i 18 (.load1 (t 17)), i 19 (.loadN 2 (t 7)), i 20 (.lookup (.ints [.i64, .i64]) (.slice none 0 0) true (t 18) (t 19)), i 14 (.mov (t 20)), i 21 (.extract 0 (t 14)), i 22 (.extract 1 (t 14)), i 8 (.mov (t 21)), i 9 (.mov (t 22))]) (.seq (.seq (.ops [i 23 (.mov (t 9)), i 24 (.un .not (t 23))]) (.cond (t 24) (.seq (.ops [i 10 (.mov (k (.int .i64 0)))]) (.seq (.seq (.ops [i 26 (.mov (t 0)), i 27 (.nilCheck (t 26)), i 28 (.fieldAddr 0 (t 27)), i 29 (.loadN 2 (t 28)), i 30 (.mov (t 1)), i 31 (.mov (t 2)), i 32 (.call .any (.func 23) [(t 29), (t 30), (t 31)]), i 25 (.mov (t 32)), i 33 (.extract 0 (t 25)), i 34 (.extract 1 (t 25)), i 8 (.mov (t 33)), i 10 (.mov (t 34))]) (.seq (.ops [i 35 (.mov (t 10)), i 36 (.bin .neq (t 35) (k (.int .i64 0)))]) (.cond (t 36) (.ops [i 8 (.mov (k (.slice none 0 0)))]) .skip))) (.drawn 0 [i 37 (.mov (t 0)), i 38 (.nilCheck (t 37)), i 39 (.fieldAddr 2 (t 38)), i 40 (.load1 (t 39)), i 41 (.loadN 2 (t 7)), i 42 (.mov (t 8)), ⟨none, none, (.mapUpdate (.ints [.i64, .i64]) (t 40) (t 41) (t 42)), none, []⟩]))) .skip)) (.seq (.ops [i 43 (.mov (t 8)), i 6 (.mov (t 43))]) .ret)))))
def a118 : AFunc := ⟨44, [(.tmp 6)], c118⟩
theorem n118 : a118.ntmps = 44 := id rfl
theorem r118 : a118.results = [(.tmp 6)] := rfl
theorem b118 : a118.body = c118 := rfl
def l120_1 : ACode := (.seq (.seq (.ops [i 7 (.load1 (t 1)), i 8 (.bin .geq (t 7) (k (.int .i64 0))), i 9 (.mov (t 8)), ⟨(some 10), (some (9, true)), (.load1 (t 1)), none, []⟩, ⟨(some 11), (some (9, true)), (.bin .leq (t 10) (k (.int .i64 730484))), none, []⟩, i 12 (.pick (t 9) (t 11) (k (.bool false)))]) (.cond (t 12) .skip (.exit 0))) (.seq (.block 1 (.seq (.ops [i 17 (.loadN 8 (t 3)), i 18 (.load1 (t 1)), i 19 (.call .any (.func 109) [(t 17), (t 18)]), i 16 (.mov (t 19)), i 20 (.extract 0 (t 16)), i 21 (.extract 1 (t 16)), i 5 (.alloc [(.int .i64 0), (.int .i64 0)]), ⟨none, none, (.store 2 (t 5) (t 20)), none, []⟩, i 6 (.mov (t 21))]) (.seq (.ops [i 22 (.mov (t 6)), i 23 (.mov (t 22)), ⟨(some 24), (some (23, true)), (.mov (t 0)), none, []⟩, ⟨(some 25), (some (23, true)), (.loadN 2 (t 5)), none, []⟩, ⟨(some 26), (some (23, true)), (.call .any (t 24) [(t 25)]), none, []⟩, ⟨(some 27), (some (23, true)), (.un .not (t 26)), none, []⟩, i 28 (.pick (t 23) (t 27) (k (.bool false)))]) (.cond (t 28) .ret .skip)))) (.ops [i 13 (.load1 (t 1)), i 14 (.load1 (t 2)), i 15 (.bin .add (t 13) (t 14)), ⟨none, none, (.store 1 (t 1) (t 15)), none, []⟩])))
def c120 : ACode := (.block 0 (.loop l120_1))
def a120 : AFunc := ⟨29, [], c120⟩
theorem n120 : a120.ntmps = 29 := id rfl
theorem r120 : a120.results = [] := rfl
theorem b120 : a120.body = c120 := rfl
def ga121_1 : ACode := (.ops [i 5 (.alloc [(.int .i64 0), (.int .i64 0), (.int .i64 0), (.int .i64 0), (.int .i64 0), (.int .i64 0), (.int .i64 0), (.int .u8 0)]), ⟨none, none, (.store 8 (t 5) (t 7)), none, []⟩])
def gb121_1 : ACode := (.block 1 (.ops [i 8 (.load1 (t 2)), i 9 (.loadN 8 (t 5)), i 10 (.buildSlice 1 [(.int .i64 0), (.int .i64 0), (.int .i64 0), (.int .i64 0), (.int .i64 0), (.int .i64 0), (.int .i64 0), (.int .u8 0)] [(0, (8, (t 9)))]), i 11 (.append 8 64 false (t 8) (t 10)), ⟨none, none, (.store 1 (t 2) (t 11)), none, []⟩]))
def c121 : ACode := (.seq (.seq (.ops [i 2 (.box (t 0)), i 4 (.mov (k (.slice none 0 0)))]) (.seq (.seq (.ops [i 6 (.mov (t 1))]) (.block 0 (.rangeF (t 6) [7] ga121_1 gb121_1))) (.seq (.ops [i 12 (.load1 (t 2)), i 4 (.mov (t 12))]) .retM))) .retM)
def a121 : AFunc := ⟨13, [(.tmp 4)], c121⟩
def c124 : ACode := (.seq (.ops [i 1 (.box (t 0)), i 2 (.mov (k (.bool false)))]) (.seq (.ops [i 3 (.fieldAddr 0 (t 1)), i 4 (.load1 (t 3)), i 5 (.call .any (.func 135) [(t 4)]), i 6 (.mov (t 5)), ⟨(some 7), (some (6, true)), (.fieldAddr 1 (t 1)), none, []⟩, ⟨(some 8), (some (6, true)), (.load1 (t 7)), none, []⟩, ⟨(some 9), (some (6, true)), (.call .any (.func 135) [(t 8)]), none, []⟩, i 10 (.pick (t 6) (t 9) (k (.bool false))), i 11 (.mov (t 10)), ⟨(some 12), (some (11, true)), (.fieldAddr 2 (t 1)), none, []⟩, ⟨(some 13), (some (11, true)), (.load1 (t 12)), none, []⟩, ⟨(some 14), (some (11, true)), (.call .any (.func 135) [(t 13)]), none, []⟩, i 15 (.pick (t 11) (t 14) (k (.bool false))), i 16 (.mov (t 15)), ⟨(some 17), (some (16, true)), (.fieldAddr 3 (t 1)), none, []⟩, ⟨(some 18), (some (16, true)), (.load1 (t 17)), none, []⟩, ⟨(some 19), (some (16, true)), (.bin .geq (t 18) (k (.int .u8 1))), none, []⟩, i 20 (.pick (t 16) (t 19) (k (.bool false))), i 21 (.mov (t 20)), ⟨(some 22), (some (21, true)), (.fieldAddr 3 (t 1)), none, []⟩, ⟨(some 23), (some (21, true)), (.load1 (t 22)), none, []⟩, ⟨(some 24), (some (21, true)), (.bin .leq (t 23) (k (.int .u8 4))), none, []⟩, i 25 (.pick (t 21) (t 24) (k (.bool false))), i 26 (.mov (t 25)), ⟨(some 27), (some (26, true)), (.fieldAddr 4 (t 1)), none, []⟩, ⟨(some 28), (some (26, true)), (.load1 (t 27)), none, []⟩, ⟨(some 29), (some (26, true)), (.call .any (.func 136) [(t 28)]), none, []⟩, i 30 (.pick (t 26) (t 29) (k (.bool false))), i 31 (.mov (t 30)), ⟨(some 32), (some (31, true)), (.fieldAddr 5 (t 1)), none, []⟩, ⟨(some 33), (some (31, true)), (.load1 (t 32)), none, []⟩, ⟨(some 34), (some (31, true)), (.call .any (.func 136) [(t 33)]), none, []⟩, i 35 (.pick (t 31) (t 34) (k (.bool false))), i 2 (.mov (t 35))]) .ret))
def a124 : AFunc := ⟨36, [(.tmp 2)], c124⟩
theorem n124 : a124.ntmps = 36 := id rfl
theorem r124 : a124.results = [(.tmp 2)] := rfl
theorem b124 : a124.body = c124 := rfl
def c135 : ACode := (.seq (.ops [i 2 (.mov (k (.bool false)))]) (.seq (.ops [i 3 (.mov (t 0)), i 4 (.bin .geq (t 3) (k (.int .i64 1))), i 5 (.mov (t 4)), ⟨(some 6), (some (5, true)), (.mov (t 0)), none, []⟩, ⟨(some 7), (some (5, true)), (.bin .leq (t 6) (k (.int .i64 999999))), none, []⟩, i 8 (.pick (t 5) (t 7) (k (.bool false))), i 2 (.mov (t 8))]) .ret))
def a135 : AFunc := ⟨9, [(.tmp 2)], c135⟩
theorem n135 : a135.ntmps = 9 := id rfl
theorem r135 : a135.results = [(.tmp 2)] := rfl
theorem b135 : a135.body = c135 := rfl
def c136 : ACode := (.seq (.ops [i 2 (.mov (k (.bool false)))]) (.seq (.ops [i 3 (.mov (t 0)), i 4 (.bin .geq (t 3) (k (.int .i64 0))), i 5 (.mov (t 4)), ⟨(some 6), (some (5, true)), (.mov (t 0)), none, []⟩, ⟨(some 7), (some (5, true)), (.bin .leq (t 6) (k (.int .i64 1051898399))), none, []⟩, i 8 (.pick (t 5) (t 7) (k (.bool false))), i 2 (.mov (t 8))]) .ret))
def a136 : AFunc := ⟨9, [(.tmp 2)], c136⟩
theorem n136 : a136.ntmps = 9 := id rfl
theorem r136 : a136.results = [(.tmp 2)] := rfl
theorem b136 : a136.body = c136 := rfl
def table : List (FuncId × AFunc) := [(12, a12), (14, a14), (22, a22), (23, a23), (24, a24), (25, a25), (28, a28), (32, a32), (35, a35), (38, a38), (41, a41), (42, a42), (45, a45), (53, a53), (54, a54), (55, a55), (56, a56), (61, a61), (62, a62), (63, a63), (64, a64), (65, a65), (66, a66), (67, a67), (68, a68), (69, a69), (71, a71), (72, a72), (73, a73), (78, a78), (79, a79), (83, a83), (86, a86), (87, a87), (88, a88), (89, a89), (92, a92), (96, a96), (101, a101), (102, a102), (103, a103), (105, a105), (107, a107), (109, a109), (114, a114), (115, a115), (117, a117), (118, a118), (120, a120), (121, a121), (124, a124), (135, a135), (136, a136)]
def tr (g : FuncId) : Option AFunc := table.lookup g
theorem e12 : tr 12 = some a12 := rfl
theorem e23 : tr 23 = some a23 := rfl
theorem e28 : tr 28 = some a28 := rfl
theorem e38 : tr 38 = some a38 := rfl
theorem e41 : tr 41 = some a41 := rfl
theorem e42 : tr 42 = some a42 := rfl
theorem e45 : tr 45 = some a45 := rfl
theorem e53 : tr 53 = some a53 := rfl
theorem e54 : tr 54 = some a54 := rfl
theorem e55 : tr 55 = some a55 := rfl
theorem e56 : tr 56 = some a56 := rfl
theorem e61 : tr 61 = some a61 := rfl
theorem e62 : tr 62 = some a62 := rfl
theorem e63 : tr 63 = some a63 := rfl
theorem e66 : tr 66 = some a66 := rfl
theorem e67 : tr 67 = some a67 := rfl
theorem e78 : tr 78 = some a78 := rfl
theorem e83 : tr 83 = some a83 := rfl
theorem e86 : tr 86 = some a86 := rfl
theorem e87 : tr 87 = some a87 := rfl
theorem e88 : tr 88 = some a88 := rfl
theorem e89 : tr 89 = some a89 := rfl
theorem e92 : tr 92 = some a92 := rfl
theorem e96 : tr 96 = some a96 := rfl
theorem e101 : tr 101 = some a101 := rfl
theorem e102 : tr 102 = some a102 := rfl
theorem e103 : tr 103 = some a103 := rfl
theorem e109 : tr 109 = some a109 := rfl
theorem e114 : tr 114 = some a114 := rfl
theorem e115 : tr 115 = some a115 := rfl
theorem e117 : tr 117 = some a117 := rfl
theorem e118 : tr 118 = some a118 := rfl
theorem e120 : tr 120 = some a120 := rfl
theorem e124 : tr 124 = some a124 := rfl
theorem e135 : tr 135 = some a135 := rfl
theorem e136 : tr 136 = some a136 := rfl
end Go.Proofs.Ytcmhnincbkbncaa.Fn

set_option linter.unusedVariables false
set_option linter.unusedSimpArgs false
namespace Go.AM
section
variable {α : Type}
def gt [Inhabited α] (l : List α) (i : Nat) : α := l.getD i default
theorem gt_lt [Inhabited α] {l : List α} {i : Nat} (h : i < l.length) : gt l i = l[i] := by simp [gt, List.getD_eq_getElem?_getD, List.getElem?_eq_getElem h]
theorem gt_cons_succ [Inhabited α] {x : α} {l : List α} {i : Nat} : gt (x :: l) (i + 1) = gt l i := by simp [gt]
theorem gt_mem [Inhabited α] {l : List α} {i : Nat} (h : i < l.length) : gt l i ∈ l := by rw [gt_lt h]; exact List.getElem_mem h
def addrOf (p : Option Addr) : Addr := p.getD ⟨0, 0, none⟩
def elt (p : Option Addr) (e i : Nat) : Addr := (addrOf p).add (i * e)
def Sl (H : Heap) (enc : α → List Value) (e : Nat) (p : Option Addr) (l : List α) : Prop :=
  match p with
  | none => l = []
  | some a => a.spot = none ∧ (l ≠ [] → ∃ ro c, hget H a.block = .cells ro c ∧ a.off + l.length * e ≤ c.length ∧ (c.drop a.off).take (l.length * e) = l.flatMap enc)
theorem hget_alive {H : Heap} {i : Nat} {ro : Bool} {c : List Value} (h : hget H i = .cells ro c) : i < H.length := by
  rcases Nat.lt_or_ge i H.length with h1 | h1
  · exact h1
  · unfold hget at h
    rw [List.getD_eq_getElem?_getD, List.getElem?_eq_none h1] at h
    cases h
def cellsOf : Blk → List Value | .cells _ c => c | _ => []
def isCells : Blk → Bool | .cells _ _ => true | _ => false
theorem Sl.app {H : Heap} {enc : α → List Value} {e : Nat} {p : Option Addr} {l : List α} (h : Sl H enc e p l) (X : Heap) : Sl (H ++ X) enc e p l := by
  cases p with
  | none => exact h
  | some a =>
    refine ⟨h.1, fun hn => ?_⟩
    obtain ⟨ro, c, h2, h3⟩ := h.2 hn
    exact ⟨ro, c, by rw [hget_old (hget_alive h2)]; exact h2, h3⟩
theorem Sl.sim {H G : Heap} {enc : α → List Value} {e : Nat} {p : Option Addr} {l : List α} (h : Sl H enc e p l) (hG : ∀ b ro c, hget H b = .cells ro c → hget G b = .cells ro c) : Sl G enc e p l := by
  cases p with
  | none => exact h
  | some a =>
    refine ⟨h.1, fun hn => ?_⟩
    obtain ⟨ro, c, h2, h3⟩ := h.2 hn
    exact ⟨ro, c, hG _ _ _ h2, h3⟩
theorem flat_len {enc : α → List Value} {e : Nat} (he : ∀ x, (enc x).length = e) (l : List α) : (l.flatMap enc).length = l.length * e := by
  induction l with
  | nil => simp
  | cons x l ih => simp [ih, he, Nat.add_mul, Nat.add_comm]
theorem flat_drop {enc : α → List Value} {e : Nat} (he : ∀ x, (enc x).length = e) : ∀ (l : List α) (i : Nat), i < l.length → [Inhabited α] → ((l.flatMap enc).drop (i * e)).take e = enc (gt l i)
  | [], i, h, _ => by simp at h
  | x :: l, 0, _, _ => by
    rw [List.flatMap_cons, Nat.zero_mul, List.drop_zero, List.take_append_of_le_length (by rw [he]; exact Nat.le_refl _), List.take_of_length_le (by rw [he]; exact Nat.le_refl _)]
    rfl
  | x :: l, i + 1, h, _ => by
    rw [List.flatMap_cons, List.drop_append, List.drop_eq_nil_of_le (by rw [he, Nat.add_mul]; omega), List.nil_append, he, show (i + 1) * e - e = i * e by rw [Nat.add_mul]; omega]
    have := flat_drop he l i (by simpa using h)
    rw [this, gt_cons_succ]
variable [Inhabited α] {H : Heap} {enc : α → List Value} {e : Nat} {p : Option Addr} {l : List α}
theorem Sl.loadCells (h : Sl H enc e p l) (he : ∀ x, (enc x).length = e) {i : Nat} (hi : i < l.length) : AM.loadCells H (elt p e i) e = some (enc (gt l i)) := by
  cases p with
  | none => simp only [Sl] at h; subst h; simp at hi
  | some a =>
    obtain ⟨b, o, s⟩ := a
    obtain ⟨ro, c, h2, h4, h3⟩ := h.2 (by rintro rfl; simp at hi)
    have h1 := h.1
    simp only at h1 h2 h3 h4; subst h1
    have hie : i * e + e ≤ l.length * e := by
      have := Nat.mul_le_mul_right e (Nat.succ_le_of_lt hi)
      rw [Nat.succ_mul] at this; exact this
    have hf := flat_drop he l i hi
    rw [← h3, List.drop_take, List.take_take, List.drop_drop] at hf
    simp only [elt, addrOf, Option.getD_some, addr_add, AM.loadCells, h2]
    rw [if_pos (by omega), ← hf, Nat.min_eq_left (by omega)]
theorem Sl.loadCell (h : Sl H enc e p l) (he : ∀ x, (enc x).length = e) {i j : Nat} (hi : i < l.length) (hj : j < e) : AM.loadCell H ((elt p e i).add j) = (enc (gt l i))[j]? := by
  have h0 := h.loadCells he hi
  cases p with
  | none => simp only [Sl] at h; subst h; simp at hi
  | some a =>
    obtain ⟨b, o, s⟩ := a
    obtain ⟨ro, c, h2, h4, h3⟩ := h.2 (by rintro rfl; simp at hi)
    have h1 := h.1
    simp only at h1 h2 h3 h4; subst h1
    simp only [elt, addrOf, Option.getD_some, addr_add, AM.loadCells, h2] at h0
    split at h0
    · simp only [Option.some.injEq] at h0
      rw [← h0]
      simp only [elt, addrOf, Option.getD_some, addr_add, AM.loadCell, h2, List.getElem?_take, List.getElem?_drop, if_pos hj, Nat.add_assoc]
    · cases h0
theorem Sl.loadCell0 (h : Sl H enc e p l) (he : ∀ x, (enc x).length = e) {i : Nat} (hi : i < l.length) (hj : 0 < e) : AM.loadCell H (elt p e i) = (enc (gt l i))[0]? := by
  rw [← h.loadCell he hi hj]
  congr 1
omit [Inhabited α] in
theorem Sl.idx (h : Sl H enc e p l) {i c : Nat} {k : IntKind} {H1 : Heap} (hi : i < l.length) : idxK e (.slice p l.length c) (.int k (i : Int)) H1 = some (.pointer (some (elt p e i)), H1) := by
  cases p with
  | none => simp only [Sl] at h; subst h; simp at hi
  | some a => exact idxK_nat hi
end
theorem hget_set_eq {X : Heap} {j : Nat} {b : Blk} (h : j < X.length) : hget (X.set j b) j = b := by
  unfold hget; rw [List.getD_eq_getElem?_getD, List.getElem?_set_self h]; rfl
theorem hget_set_ne {X : Heap} {i j : Nat} {b : Blk} (h : i ≠ j) : hget (X.set j b) i = hget X i := by
  unfold hget; rw [List.getD_eq_getElem?_getD, List.getD_eq_getElem?_getD, List.getElem?_set_ne (Ne.symm h)]
theorem idxK_zero {e len c : Nat} {p : Addr} {k : IntKind} {H : Heap} (h : 0 < len) : idxK e (.slice (some p) len c) (.int k 0) H = some (.pointer (some (p.add 0)), H) := by
  have := idxK_nat (e := e) (n := 0) (len := len) (c := c) (p := p) (k := k) (H := H) h
  rw [Nat.zero_mul] at this
  exact this
theorem keyOk_int {k : IntKind} {n : Int} : keyOk (.int k) (.int k n) = true := by simp [keyOk]
theorem keyOk_str {b : ByteArray} : keyOk .str (.string b) = true := id rfl
theorem findKey_pair {k k' : IntKind} {a b c d : Int} {v : Value} {es : List (Value × Value)} {i : Nat} : findKey (.agg #[.int k a, .int k' b]) ((.agg #[.int k c, .int k' d], v) :: es) i = if a = c ∧ b = d then some (some (i, v)) else findKey (.agg #[.int k a, .int k' b]) es (i + 1) := by
  simp only [findKey, keyEq, intsEq, if_true, Option.map_some, Bool.and_true]
  by_cases h : a = c ∧ b = d
  · obtain ⟨rfl, rfl⟩ := h
    simp
  · rw [if_neg h]
    have e : ((a == c) && (b == d)) = false := by
      cases he : ((a == c) && (b == d)) with
      | false => rfl
      | true =>
        simp only [Bool.and_eq_true, beq_iff_eq] at he
        exact absurd he h
    simp [e]
theorem findKey_nil {v : Value} {i : Nat} : findKey v [] i = some none := rfl
theorem findKey_int {k : IntKind} {a b : Int} {v : Value} {es : List (Value × Value)} {i : Nat} : findKey (.int k a) ((.int k b, v) :: es) i = if a = b then some (some (i, v)) else findKey (.int k a) es (i + 1) := by
  simp only [findKey, keyEq, if_true]
  by_cases h : a = b
  · simp [h]
  · have e : (a == b) = false := by simpa using h
    simp [h, e]
theorem mapEntries_some {H : Heap} {r : Nat} : mapEntries H (.map (some r)) = (match hget H r with | .map es => some es | _ => none) := rfl
theorem mapEntries_none {H : Heap} : mapEntries H (.map none) = some [] := rfl
theorem findKey_no {α : Type} {k : IntKind} {a : Int} {f : α → Int} {g : α → Value} : ∀ {l : List α} {i : Nat}, (∀ x ∈ l, f x ≠ a) → findKey (.int k a) (l.map fun x => (.int k (f x), g x)) i = some none
  | [], _, _ => rfl
  | x :: l, i, h => by
    rw [List.map_cons, findKey_int, if_neg (fun e => h x (by simp) e.symm)]
    exact findKey_no fun y hy => h y (by simp [hy])
theorem findKey_yes {α : Type} {k : IntKind} {a : Int} {f : α → Int} {g : α → Value} {v : Value} : ∀ {l : List α} {i : Nat}, (∃ x ∈ l, f x = a) → (∀ x ∈ l, f x = a → g x = v) → ∃ j, findKey (.int k a) (l.map fun x => (.int k (f x), g x)) i = some (some (j, v))
  | [], _, h, _ => by obtain ⟨x, hx, _⟩ := h; simp at hx
  | x :: l, i, h, hv => by
    rw [List.map_cons, findKey_int]
    by_cases e : a = f x
    · exact ⟨i, by rw [if_pos e, hv x (by simp) e.symm]⟩
    · rw [if_neg e]
      refine findKey_yes ?_ fun y hy => hv y (by simp [hy])
      obtain ⟨y, hy, hy2⟩ := h
      rcases List.mem_cons.1 hy with rfl | hy
      · exact absurd hy2.symm e
      · exact ⟨y, hy, hy2⟩
def Ext (H G : Heap) : Prop := ∃ X, G = H ++ X
section
variable {H G : Heap}
theorem Ext.refl : Ext H H := ⟨[], by simp⟩
theorem Ext.app (h : Ext H G) {X : Heap} : Ext H (G ++ X) := by
  obtain ⟨Y, rfl⟩ := h
  exact ⟨Y ++ X, by simp⟩
theorem Ext.trans {K : Heap} (h : Ext H G) (k : Ext G K) : Ext H K := by
  obtain ⟨Y, rfl⟩ := k
  exact h.app
theorem Ext.len (h : Ext H G) : H.length ≤ G.length := by
  obtain ⟨Y, rfl⟩ := h
  simp
theorem Ext.sl {α : Type} {enc : α → List Value} {e : Nat} {p : Option Addr} {l : List α} (h : Ext H G) (hs : Sl H enc e p l) : Sl G enc e p l := by
  obtain ⟨Y, rfl⟩ := h
  exact hs.app Y
theorem Ext.cells (h : Ext H G) {b : Nat} {ro : Bool} {c : List Value} (hs : hget H b = .cells ro c) : hget G b = .cells ro c := by
  obtain ⟨Y, rfl⟩ := h
  rw [hget_old (hget_alive hs)]; exact hs
end
section
variable {E : Env} {af : AFunc} {lim : Nat} {K : List AItem} {fr : Nat → Value} {H : Heap} {R : Value → Heap → Prop} {b : ACode}
theorem Ret_rounds {S : Type} (m : S → Nat) (I : S → (Nat → Value) → Heap → Prop) (s : S) (h0 : I s fr H)
    (step : ∀ s fr H, I s fr H → (∀ s' fr' H', I s' fr' H' → m s' < m s → Ret E af lim (.inLoop b :: K) fr' H' R) → Ret E af lim (.code b :: .inLoop b :: K) fr H R) :
    Ret E af lim (.code (.loop b) :: K) fr H R := by
  rw [Ret_loop, ← Ret_inLoop]
  have key : ∀ n s fr H, m s ≤ n → I s fr H → Ret E af lim (.inLoop b :: K) fr H R := by
    intro n
    induction n with
    | zero =>
      intro s fr H hm hi
      rw [Ret_inLoop]
      exact step s fr H hi fun s' fr' H' _ hl => absurd hl (by omega)
    | succ n ih =>
      intro s fr H hm hi
      rw [Ret_inLoop]
      exact step s fr H hi fun s' fr' H' hi' hl => ih s' fr' H' (by omega) hi'
  exact key _ s fr H (Nat.le_refl _) h0
theorem CallR.mono {mp : Bool} {g : FuncId} {as : List Value} {Q Q' : Value → Heap → Prop} (h : CallR E mp lim g as H Q) (hq : ∀ v H', Q v H' → Q' v H') : CallR E mp lim g as H Q' := by
  obtain ⟨n, v, H', h1, h2⟩ := h
  exact ⟨n, v, H', h1, hq v H' h2⟩
theorem Ret.mono {k : List AItem} {R' : Value → Heap → Prop} (h : Ret E af lim k fr H R) (hq : ∀ v H', R v H' → R' v H') : Ret E af lim k fr H R' := by
  obtain ⟨n, v, H', h1, h2⟩ := h
  exact ⟨n, v, H', h1, hq v H' h2⟩
theorem Ret_pad {k : List AItem} (h : Ret E af lim k fr (H ++ []) R) : Ret E af lim k fr H R := by rwa [List.append_nil] at h
theorem Ret_exit_eq {k k' : List AItem} {id : Nat} (h : aExit id k = aExit id k') : Ret E af lim (.code (.exit id) :: k) fr H R = Ret E af lim (.code (.exit id) :: k') fr H R := by
  cases hk : aExit id k' with
  | some K' => rw [Ret_exit (h.trans hk), Ret_exit hk]
  | none =>
    have key : ∀ {k : List AItem}, aExit id k = none → ¬ Ret E af lim (.code (.exit id) :: k) fr H R := by
      rintro k hk ⟨n, v, H', hx, _⟩
      cases n with
      | zero => simp [aRun] at hx
      | succ n => rw [aRun.eq_def] at hx; simp only [hk] at hx; cases hx
    exact propext ⟨fun q => absurd q (key (h.trans hk)), fun q => absurd q (key hk)⟩
theorem Ret_exit_code {id : Nat} {c : ACode} : Ret E af lim (.code (.exit id) :: .code c :: K) fr H R = Ret E af lim (.code (.exit id) :: K) fr H R := Ret_exit_eq (by simp [aExit])
theorem Ret_exit_loop {id : Nat} {c : ACode} : Ret E af lim (.code (.exit id) :: .inLoop c :: K) fr H R = Ret E af lim (.code (.exit id) :: K) fr H R := Ret_exit_eq (by simp [aExit])
theorem Ret_exit_other {id id' : Nat} (h : id' ≠ id) : Ret E af lim (.code (.exit id) :: .inBlock id' :: K) fr H R = Ret E af lim (.code (.exit id) :: K) fr H R := Ret_exit_eq (by simp [aExit, h])
theorem Ret_exit_here {id : Nat} : Ret E af lim (.code (.exit id) :: .inBlock id :: K) fr H R = Ret E af lim K fr H R := Ret_exit (by simp [aExit])
theorem Ret_first {k : List AItem} {r : Option (Value × Heap)} (h : ∀ n, aRun E (n + 1) af lim k fr H = r) : Ret E af lim k fr H R = opK r R := by
  apply propext
  constructor
  · rintro ⟨n, v, H', hx, hr⟩
    cases n with
    | zero => simp [aRun] at hx
    | succ n => rw [h] at hx; rw [hx]; exact hr
  · intro hk
    cases hx : r with
    | none => rw [hx] at hk; exact hk.elim
    | some p => rw [hx] at hk; exact ⟨1, p.1, p.2, by rw [h, hx], hk⟩
def shutK (r : Option Heap) (f : Heap → Prop) (_ : Bx f := ⟨⟩) : Prop := match r with | some H' => f H' | none => False
theorem shutK_some {f : Heap → Prop} : shutK (some H) f = f H := rfl
theorem Ret_retM : Ret E af lim (.code .retM :: K) fr H R = shutK (shut lim (marks K) H) fun H' => opK ((result fr H' af.results).map (·, H')) R := by
  rw [Ret_first (r := match shut lim (marks K) H with | some H' => (result fr H' af.results).map (·, H') | none => none) fun n => by rw [aRun.eq_def]; rfl]
  cases shut lim (marks K) H <;> rfl
theorem marks_nil : marks [] = [] := rfl
theorem marks_code {c : ACode} : marks (.code c :: K) = marks K := rfl
theorem marks_loop {c : ACode} : marks (.inLoop c :: K) = marks K := rfl
theorem marks_block {id : Nat} : marks (.inBlock id :: K) = marks K := rfl
theorem marks_mark {i : Nat} : marks (.mark i :: K) = marks K ++ [i] := rfl
theorem shut_nil : shut lim [] H = some H := rfl
theorem shut_cons {i : Nat} {l : List Nat} (h : hget H i = .dfr) (hl : lim ≤ i) : shut lim (i :: l) H = shut lim l (H.set i .dead) := by simp only [shut, h, if_pos hl]
def endB (i : Nat) (j : Option ACode) (H : Heap) (b : Blk) : Option (Value × Heap) := match b with | .loop x => some (.bool j.isNone, H.set i (.loop { x with st := if j.isNone then 0 else 2, pend := j })) | _ => none
theorem endB_on {i st N : Nat} {p : Option ACode} {g : Nat → Value} {ps : List Nat} {a b : ACode} : endB i none H (.loop ⟨st, p, g, N, ps, a, b⟩) = some (.bool true, H.set i (.loop ⟨0, none, g, N, ps, a, b⟩)) := rfl
theorem endB_off {i st N : Nat} {p : Option ACode} {g : Nat → Value} {ps : List Nat} {a b c : ACode} : endB i (some c) H (.loop ⟨st, p, g, N, ps, a, b⟩) = some (.bool false, H.set i (.loop ⟨2, some c, g, N, ps, a, b⟩)) := rfl
theorem endRound_get {i : Nat} {j : Option ACode} : endRound i j H = endB i j H (hget H i) := by unfold endRound endB; cases hget H i <;> rfl
theorem Ret_round {i : Nat} (hl : lim ≤ i) : Ret E af lim (.round i :: K) fr H R = opK (endB i none H (hget H i)) R := by
  rw [← endRound_get]; exact Ret_first fun n => by rw [aRun.eq_def]; simp only [if_pos hl]
def begK (b : Blk) (f : LoopB → Prop) (_ : Bx f := ⟨⟩) : Prop := match b with | .loop x => if x.st = 0 then f x else False | _ => False
theorem begK_loop {N : Nat} {p : Option ACode} {g : Nat → Value} {ps : List Nat} {a b : ACode} {f : LoopB → Prop} : begK (.loop ⟨0, p, g, N, ps, a, b⟩) f = f ⟨0, p, g, N, ps, a, b⟩ := by simp [begK]
theorem Ret_begin {i : Nat} (hl : lim ≤ i) : Ret E af lim (.begin i :: K) fr H R = begK (hget H i) fun x => Ret E af lim K fr (H.set i (.loop { x with st := 1 })) R := by
  unfold begK
  have never : (∀ n, aRun E (n + 1) af lim (.begin i :: K) fr H = none) → Ret E af lim (.begin i :: K) fr H R = False := fun h => by rw [Ret_first (r := none) h]; rfl
  cases hb : hget H i with
  | loop x =>
    simp only
    split
    · rename_i hs
      exact Ret.succ fun n => by rw [aRun.eq_def]; simp only [hb, if_pos (And.intro hs hl)]
    · rename_i hs
      exact never fun n => by rw [aRun.eq_def]; simp only [hb, hs, false_and, if_false]
  | _ => exact never fun n => by rw [aRun.eq_def]; simp only [hb]
theorem Ret_never {k : List AItem} (h : ∀ n, aRun E (n + 1) af lim k fr H = none) : Ret E af lim k fr H R = False := by rw [Ret_first (r := none) h]; rfl
theorem Ret_retR_eq {k k' : List AItem} (h : roundOf k = roundOf k') : Ret E af lim (.code .retR :: k) fr H R = Ret E af lim (.code .retR :: k') fr H R := by
  rw [Ret_first (r := match roundOf k with | some i => if lim ≤ i then endRound i (some .retM) H else none | none => none) fun n => by rw [aRun.eq_def]; rfl,
    Ret_first (k := .code .retR :: k') (r := match roundOf k' with | some i => if lim ≤ i then endRound i (some .retM) H else none | none => none) fun n => by rw [aRun.eq_def]; rfl, h]
theorem Ret_retR_code {c : ACode} : Ret E af lim (.code .retR :: .code c :: K) fr H R = Ret E af lim (.code .retR :: K) fr H R := Ret_retR_eq rfl
theorem Ret_retR_loop {c : ACode} : Ret E af lim (.code .retR :: .inLoop c :: K) fr H R = Ret E af lim (.code .retR :: K) fr H R := Ret_retR_eq rfl
theorem Ret_retR_block {id : Nat} : Ret E af lim (.code .retR :: .inBlock id :: K) fr H R = Ret E af lim (.code .retR :: K) fr H R := Ret_retR_eq rfl
theorem Ret_retR_round {i : Nat} (hl : lim ≤ i) : Ret E af lim (.code .retR :: .round i :: K) fr H R = opK (endB i (some .retM) H (hget H i)) R := by
  rw [← endRound_get]; exact Ret_first fun n => by rw [aRun.eq_def]; simp only [roundOf, if_pos hl]
theorem Ret_exitR_eq {k k' : List AItem} {id : Nat} (h : aExit id k = aExit id k') (h2 : roundOf k = roundOf k') : Ret E af lim (.code (.exitR id) :: k) fr H R = Ret E af lim (.code (.exitR id) :: k') fr H R := by
  cases hk : aExit id k' with
  | some K' =>
    exact (Ret.succ (k1 := K') (fr1 := fr) (H1 := H) fun n => by rw [aRun.eq_def]; simp only [h.trans hk]).trans (Ret.succ fun n => by rw [aRun.eq_def]; simp only [hk]).symm
  | none =>
    rw [Ret_first (r := match roundOf k with | some i => if lim ≤ i then endRound i (some (.exit id)) H else none | none => none) fun n => by rw [aRun.eq_def]; simp only [h.trans hk]; rfl,
      Ret_first (k := .code (.exitR id) :: k') (r := match roundOf k' with | some i => if lim ≤ i then endRound i (some (.exit id)) H else none | none => none) fun n => by rw [aRun.eq_def]; simp only [hk]; rfl, h2]
theorem Ret_exitR_code {id : Nat} {c : ACode} : Ret E af lim (.code (.exitR id) :: .code c :: K) fr H R = Ret E af lim (.code (.exitR id) :: K) fr H R := Ret_exitR_eq (by simp [aExit]) rfl
theorem Ret_exitR_loop {id : Nat} {c : ACode} : Ret E af lim (.code (.exitR id) :: .inLoop c :: K) fr H R = Ret E af lim (.code (.exitR id) :: K) fr H R := Ret_exitR_eq (by simp [aExit]) rfl
theorem Ret_exitR_other {id id' : Nat} (h : id' ≠ id) : Ret E af lim (.code (.exitR id) :: .inBlock id' :: K) fr H R = Ret E af lim (.code (.exitR id) :: K) fr H R := Ret_exitR_eq (by simp [aExit, h]) rfl
theorem Ret_exitR_here {id : Nat} : Ret E af lim (.code (.exitR id) :: .inBlock id :: K) fr H R = Ret E af lim K fr H R := Ret.succ fun n => by rw [aRun.eq_def]; simp [aExit]
theorem Ret_exitR_round {id i : Nat} (hl : lim ≤ i) : Ret E af lim (.code (.exitR id) :: .round i :: []) fr H R = opK (endB i (some (.exit id)) H (hget H i)) R := by
  rw [← endRound_get]; exact Ret_first fun n => by rw [aRun.eq_def]; simp only [aExit, roundOf, if_pos hl]
def pendI (x : LoopB) : List AItem := match x.pend with | none => [] | some c => [.code c]
theorem pendI_none {st N : Nat} {g : Nat → Value} {ps : List Nat} {a b : ACode} : pendI ⟨st, none, g, N, ps, a, b⟩ = [] := rfl
theorem pendI_some {st N : Nat} {g : Nat → Value} {ps : List Nat} {a b c : ACode} : pendI ⟨st, some c, g, N, ps, a, b⟩ = [.code c] := rfl
def calL (c : Option ((FuncId ⊕ Nat) × List Value)) (f : FuncId → List Value → Prop) (_ : Bx f := ⟨⟩) : Prop := match c with | some (.inl g, as) => f g as | _ => False
theorem calL_some {g : FuncId} {as : List Value} {f : FuncId → List Value → Prop} : calL (some (.inl g, as)) f = f g as := rfl
def endK (b : Blk) (f : LoopB → Prop) (_ : Bx f := ⟨⟩) : Prop := match b with | .loop x => if x.st = 1 then False else f x | _ => False
theorem endK_0 {N : Nat} {p : Option ACode} {g : Nat → Value} {ps : List Nat} {a b : ACode} {f : LoopB → Prop} : endK (.loop ⟨0, p, g, N, ps, a, b⟩) f = f ⟨0, p, g, N, ps, a, b⟩ := by simp [endK]
theorem endK_2 {N : Nat} {p : Option ACode} {g : Nat → Value} {ps : List Nat} {a b : ACode} {f : LoopB → Prop} : endK (.loop ⟨2, p, g, N, ps, a, b⟩) f = f ⟨2, p, g, N, ps, a, b⟩ := by simp [endK]
theorem endK_loop {x : LoopB} {f : LoopB → Prop} (h : x.st ≠ 1) : endK (.loop x) f = f x := by simp [endK, h]
theorem Ret_rangeF0 {f : Operand} {ps : List Nat} {a b : ACode} {g : FuncId} {as : List Value} (hc : callee (ev fr f) [.func (.yield (H.length + 1)) #[] #[]] = some (.inl g, as)) :
    Ret E af lim (.code (.rangeF f ps a b) :: K) fr H R = CallR E false lim g as (H ++ [.dfr, .loop ⟨0, none, fr, af.ntmps, ps, a, b⟩]) fun _ H2 =>
      endK (hget H2 (H.length + 1)) fun x => Ret E af lim (pendI x ++ (K ++ [.mark H.length])) fr (H2.set (H.length + 1) .dead) R := by
  apply propext
  constructor
  · rintro ⟨n, v, H', hx, hr⟩
    cases n with
    | zero => simp [aRun] at hx
    | succ n =>
    rw [aRun.eq_def] at hx
    simp only [hc] at hx
    split at hx
    case h_2 => cases hx
    rename_i v2 H2 hcall
    refine ⟨n, v2, H2, hcall, ?_⟩
    split at hx
    case h_2 => cases hx
    rename_i x hb
    split at hx
    · cases hx
    rename_i hst
    rw [hb, endK_loop hst]
    exact ⟨n, v, H', hx, hr⟩
  · rintro ⟨n, v2, H2, hcall, hk⟩
    unfold endK at hk
    split at hk
    case h_2 => exact hk.elim
    rename_i x hb
    split at hk
    · exact hk.elim
    rename_i hst
    obtain ⟨m, v, H', hx, hr⟩ := hk
    refine ⟨max n m + 1, v, H', ?_, hr⟩
    rw [aRun.eq_def]
    have e : callWith E (aRun E (max n m)) false lim (.inl g) as (H ++ [.dfr, .loop ⟨0, none, fr, af.ntmps, ps, a, b⟩]) = some (v2, H2) := aCall_le E (Nat.le_max_left n m) _ _ _ _ _ _ hcall
    simp only [hc, e, hb, if_neg hst]
    exact aRun_le E (Nat.le_max_right n m) hx
theorem Ret_rangeF {f : Operand} {ps : List Nat} {a b : ACode} :
    Ret E af lim (.code (.rangeF f ps a b) :: K) fr H R = calL (callee (ev fr f) [.func (.yield (H.length + 1)) #[] #[]]) fun g as => CallR E false lim g as (H ++ [.dfr, .loop ⟨0, none, fr, af.ntmps, ps, a, b⟩]) fun _ H2 =>
      endK (hget H2 (H.length + 1)) fun x => Ret E af lim (pendI x ++ (K ++ [.mark H.length])) fr (H2.set (H.length + 1) .dead) R := by
  unfold calL
  split
  · rename_i g as hc; exact Ret_rangeF0 hc
  · rename_i hc
    refine Ret_never fun n => ?_
    rw [aRun.eq_def]
    simp only
theorem CallY.det {mp : Bool} {i : Nat} {as : List Value} {Q : Value → Heap → Prop} {n : Nat} {v : Value} {H' : Heap} (h : aCall E n mp lim (.inr i) as H = some (v, H')) : CallY E mp lim i as H Q = Q v H' := by
  apply propext
  constructor
  · rintro ⟨m, v', H1, h1, h2⟩
    have e1 := aCall_le E (Nat.le_max_left n m) _ _ _ _ _ _ h
    have e2 := aCall_le E (Nat.le_max_right n m) _ _ _ _ _ _ h1
    rw [e1] at e2; cases e2; exact h2
  · exact fun hq => ⟨n, v, H', h, hq⟩
theorem CallY.mono {mp : Bool} {i : Nat} {as : List Value} {Q Q' : Value → Heap → Prop} (h : CallY E mp lim i as H Q) (hq : ∀ v H', Q v H' → Q' v H') : CallY E mp lim i as H Q' := by
  obtain ⟨n, v, H', h1, h2⟩ := h
  exact ⟨n, v, H', h1, hq v H' h2⟩
theorem CallY_run {i : Nat} {as : List Value} {Q : Value → Heap → Prop} {x : LoopB} (hb : hget H i = .loop x) (hl : lim ≤ i) (hlen : as.length = x.params.length) (hp : (x.params.all (· < x.N)) = true) :
    CallY E false lim i as H Q = Ret E ⟨x.N, [], .skip⟩ lim [.code x.assign, .begin i, .code x.body, .round i] (setParams x.fr x.params as) H Q := by
  unfold CallY Ret aCall callWith
  simp only [hb, if_pos (And.intro hl (And.intro hlen hp)), Bool.false_eq_true, if_false]
theorem Ret_code {c c' : ACode} (h : c = c') : Ret E af lim (.code c :: K) fr H R = Ret E af lim (.code c' :: K) fr H R := by rw [h]
theorem loadCell_lit {b o : Nat} {s : Option Nat} : AM.loadCell H ⟨b, o, s⟩ = (match hget H b with | .cells _ c => c[o]? | _ => none) := rfl
theorem loadCells_lit {b o n : Nat} {s : Option Nat} : AM.loadCells H ⟨b, o, s⟩ n = (match hget H b with | .cells _ c => if o + n ≤ c.length then some ((c.drop o).take n) else none | _ => none) := rfl
theorem storeAt_lit {b o : Nat} {s : Option Nat} {vs : List Value} : AM.storeAt lim H ⟨b, o, s⟩ vs = (match hget H b with | .cells false c => if lim ≤ b ∧ o + vs.length ≤ c.length then some (H.set b (.cells false (setAll c o vs))) else none | _ => none) := rfl
end
section
variable {p q : Prop} {t b : Bool}
theorem wantK_undef : wantK undef b p q = q := by unfold undef wantK; rfl
theorem wantK_not : wantK (.bool (!t)) b p q = wantK (.bool t) (!b) p q := by cases t <;> cases b <;> simp [wantK]
theorem condK_not : condK (.bool (!t)) p q = condK (.bool t) q p := by cases t <;> rfl
end
theorem int_lt_cast {a b : Nat} : ((a : Int) < (b : Int)) = (a < b) := by simp
theorem int_le_cast {a b : Nat} : ((a : Int) ≤ (b : Int)) = (a ≤ b) := by simp
theorem int_zero_lt {a : Nat} : ((0 : Int) < (a : Int)) = (0 < a) := by simp
theorem wrap_id {n : Int} (h1 : -2 ^ 63 ≤ n) (h2 : n < 2 ^ 63) : IntKind.i64.wrap n = n := by
  by_cases h : 0 ≤ n
  · have h1 : n % 2 ^ 64 = n := Int.emod_eq_of_lt h (by omega)
    simp only [IntKind.wrap, IntKind.bits, IntKind.signed, h1]
    rw [if_neg (by simp; omega)]
  · have h1 : n % 2 ^ 64 = n + 2 ^ 64 := by
      rw [← Int.add_emod_right, Int.emod_eq_of_lt (by omega) (by omega)]
    simp only [IntKind.wrap, IntKind.bits, IntKind.signed, h1]
    rw [if_pos (by simp; omega)]
    omega
theorem hget_cells {H : Heap} {b : Nat} (h : isCells (hget H b) = true) : ∃ ro, hget H b = .cells ro (cellsOf (hget H b)) := by
  cases hb : hget H b with
  | cells ro c => exact ⟨ro, by simp [cellsOf]⟩
  | _ => rw [hb] at h; simp [isCells] at h
theorem Sl.lit {α : Type} {H : Heap} {enc : α → List Value} {e b : Nat} {l : List α} (he : ∀ x, (enc x).length = e) (h : isCells (hget H b) = true) (hc : cellsOf (hget H b) = l.flatMap enc) : Sl H enc e (some ⟨b, 0, none⟩) l := by
  obtain ⟨ro, h1⟩ := hget_cells h
  refine ⟨rfl, fun _ => ⟨ro, _, h1, ?_, ?_⟩⟩
  · rw [hc, flat_len he]; simp
  · rw [hc, List.drop_zero, List.take_of_length_le (by rw [flat_len he]; exact Nat.le_refl _)]
theorem cells_slice {a : Option Addr} {n c : Nat} : (Value.slice a n c).cells = #[.slice a n c] := rfl
theorem cells_ptr {a : Option Addr} : (Value.pointer a).cells = #[.pointer a] := rfl
theorem cells_str {s : ByteArray} : (Value.string s).cells = #[.string s] := rfl
theorem arr1 {v : Value} : (#[v] : Array Value).toList = [v] := rfl
theorem size1 {v : Value} : (#[v] : Array Value).size = 1 := rfl
theorem cells_map {a : Option Nat} : (Value.map a).cells = #[.map a] := rfl
theorem cells_func {f : Fn} {a b : Array Value} : (Value.func f a b).cells = #[.func f a b] := rfl
theorem fillV_slice {off : Nat} {a : Option Addr} {n m : Nat} {c : List Value} (h : off < c.length) : fillV off 1 (.slice a n m) c = some (c.set off (.slice a n m)) := fillV_one rfl rfl h
theorem fillV_ptr {off : Nat} {a : Option Addr} {c : List Value} (h : off < c.length) : fillV off 1 (.pointer a) c = some (c.set off (.pointer a)) := fillV_one rfl rfl h
theorem fillV_str {off : Nat} {a : ByteArray} {c : List Value} (h : off < c.length) : fillV off 1 (.string a) c = some (c.set off (.string a)) := fillV_one rfl rfl h
theorem fillV_map {off : Nat} {a : Option Nat} {c : List Value} (h : off < c.length) : fillV off 1 (.map a) c = some (c.set off (.map a)) := fillV_one rfl rfl h
theorem pad_4 : List.replicate 4 Blk.dead = [.dead, .dead, .dead, .dead] := rfl
theorem pad_5 : List.replicate 5 Blk.dead = [.dead, .dead, .dead, .dead, .dead] := rfl
theorem pad_6 : List.replicate 6 Blk.dead = [.dead, .dead, .dead, .dead, .dead, .dead] := rfl
theorem pad_7 : List.replicate 7 Blk.dead = [.dead, .dead, .dead, .dead, .dead, .dead, .dead] := rfl
theorem pad_8 : List.replicate 8 Blk.dead = [.dead, .dead, .dead, .dead, .dead, .dead, .dead, .dead] := rfl
theorem pad_9 : List.replicate 9 Blk.dead = [.dead, .dead, .dead, .dead, .dead, .dead, .dead, .dead, .dead] := rfl
theorem pad_10 : List.replicate 10 Blk.dead = [.dead, .dead, .dead, .dead, .dead, .dead, .dead, .dead, .dead, .dead] := rfl
theorem pad_11 : List.replicate 11 Blk.dead = [.dead, .dead, .dead, .dead, .dead, .dead, .dead, .dead, .dead, .dead, .dead] := rfl
theorem pad_12 : List.replicate 12 Blk.dead = [.dead, .dead, .dead, .dead, .dead, .dead, .dead, .dead, .dead, .dead, .dead, .dead] := rfl
theorem bytesOf_nil : bytesOf [] = some [] := rfl
theorem bytesOf_cons {n : Int} {l : List Value} : bytesOf (.int .u8 n :: l) = (bytesOf l).map (UInt8.ofNat n.toNat :: ·) := by
  simp only [bytesOf]; cases bytesOf l <;> rfl
theorem int_eq_cast {a b : Nat} : ((a : Int) = (b : Int)) = (a = b) := propext Int.ofNat_inj
theorem setAll_skip {v : Value} {c vs : List Value} : ∀ {o : Nat}, setAll (v :: c) (o + 1) vs = v :: setAll c o vs := by
  induction vs generalizing c with
  | nil => intro o; rfl
  | cons u vs ih => intro o; rw [setAll_cons, setAll_cons, List.set_cons_succ]; exact ih
theorem take_all {l : List Value} {n : Nat} (h : l.length = n) : l.take n = l := by subst h; exact List.take_length
theorem nat_not_neg {n : Nat} : ((n : Int) < 0) = False := by simp
theorem setAll_full {c vs : List Value} (h : vs.length = c.length) : setAll c 0 vs = vs := by
  have key : ∀ (vs c pre : List Value), vs.length = c.length → setAll (pre ++ c) pre.length vs = pre ++ vs := by
    intro vs
    induction vs with
    | nil => intro c pre h; have : c = [] := List.length_eq_zero_iff.1 h.symm; subst this; rfl
    | cons v vs ih =>
      intro c pre h
      match c, h with
      | x :: c, h =>
        rw [setAll_cons]
        have e1 : (pre ++ x :: c).set pre.length v = (pre ++ [v]) ++ c := by simp
        rw [e1]
        have := ih c (pre ++ [v]) (by simpa using h)
        rw [List.length_append] at this
        simp only [List.length_cons, List.length_nil, Nat.zero_add] at this
        rw [this]; simp
  exact key vs c [] h
def b2sV (v : Value) (H : Heap) : Option (Value × Heap) := match v with
  | .slice none n _ => if n = 0 then some (.string .empty, H) else none
  | .slice (some a) n _ => match loadCells H a n with
    | some cs => match bytesOf cs with
      | some bs => some (.string ⟨bs.toArray⟩, H)
      | none => none
    | none => none
  | _ => none
theorem b2sV_some {a : Addr} {n c : Nat} {H : Heap} : b2sV (.slice (some a) n c) H = (match AM.loadCells H a n with
    | some cs => match bytesOf cs with
      | some bs => some (.string ⟨bs.toArray⟩, H)
      | none => none
    | none => none) := rfl
theorem on_b2sV {E : Env} {lim : Nat} {dest : Option Nat} {mask : List Nat} {fr : Nat → Value} {H : Heap} {Q : Value → Heap → Prop} {qx : Operand} : oK E lim none dest mask (.b2s qx) fr H Q = opK (b2sV (ev fr qx) H) Q := oK_none rfl
theorem ob_b2sV {E : Env} {lim b : Nat} {dest : Option Nat} {mask : List Nat} {fr : Nat → Value} {H : Heap} {Q : Value → Heap → Prop} {qx : Operand} : oK E lim (some b) dest mask (.b2s qx) fr H Q = opK (b2sV (ev fr qx) (maskH b mask H)) fun v H' => Q v (unmaskH b mask H H') := oK_some rfl
def unV : Operand → Value
  | .const v => v
  | _ => undef
def sliceV (e : Nat) (v : Value) (lo hi mx : Option Value) : Option Value := aSliceS e unV v (lo.map .const) (hi.map .const) (mx.map .const)
theorem aSliceS_V {e : Nat} {ρ : Operand → Value} {v : Value} {lo hi mx : Option Operand} : aSliceS e ρ v lo hi mx = sliceV e v (lo.map ρ) (hi.map ρ) (mx.map ρ) := by
  unfold sliceV aSliceS
  cases v with
  | slice a n c => cases lo <;> cases hi <;> cases mx <;> rfl
  | _ => rfl
def copyV (lim esz : Nat) (d x : Value) (H : Heap) : Option (Value × Heap) := match d, lenOf x with
    | .slice base dl _, some sl => match copyCells H esz (min sl dl) x with
      | some cs => match base with
        | some a => if min sl dl = 0 then some (.int .i64 0, H) else (storeAt lim H a cs).map (.int .i64 (min sl dl : Nat), ·)
        | none => if dl = 0 then some (.int .i64 0, H) else none
      | none => none
    | _, _ => none
theorem on_copyV {E : Env} {lim e : Nat} {dest : Option Nat} {mask : List Nat} {fr : Nat → Value} {H : Heap} {Q : Value → Heap → Prop} {d x : Operand} : oK E lim none dest mask (.copy e d x) fr H Q = opK (copyV lim e (ev fr d) (ev fr x) H) Q := oK_none rfl
theorem ob_copyV {E : Env} {lim b e : Nat} {dest : Option Nat} {mask : List Nat} {fr : Nat → Value} {H : Heap} {Q : Value → Heap → Prop} {d x : Operand} : oK E lim (some b) dest mask (.copy e d x) fr H Q = opK (copyV lim e (ev fr d) (ev fr x) (maskH b mask H)) fun v H' => Q v (unmaskH b mask H H') := oK_some rfl
def sliceAV (n e : Nat) (v : Value) (lo hi mx : Option Value) : Option Value := match v with
  | .pointer (some a) => match bounds unV n n (lo.map .const) (hi.map .const) (mx.map .const) with
    | some (l, h, m) => if m < 2 ^ 62 then some (.slice (some (if m = l then a else a.add (l * e))) (h - l) (m - l)) else none
    | none => none
  | _ => none
theorem sliceA_V {lim n e : Nat} {dest : Option Nat} {ρ : Operand → Value} {x : Operand} {lo hi mx : Option Operand} {H : Heap} : aOp lim dest (.sliceA n e x lo hi mx) ρ H = (sliceAV n e (ρ x) (lo.map ρ) (hi.map ρ) (mx.map ρ)).map (·, H) := by
  have hb : bounds unV n n ((lo.map ρ).map .const) ((hi.map ρ).map .const) ((mx.map ρ).map .const) = bounds ρ n n lo hi mx := by
    cases lo <;> cases hi <;> cases mx <;> rfl
  simp only [aOp, sliceAV, hb]
  cases ρ x with
  | pointer a =>
    cases a with
    | none => rfl
    | some a =>
      simp only
      cases bounds ρ n n lo hi mx with
      | none => rfl
      | some p =>
        obtain ⟨l, h, m⟩ := p
        simp only
        split <;> rfl
  | _ => rfl
theorem on_sliceAV {E : Env} {lim n e : Nat} {dest : Option Nat} {mask : List Nat} {fr : Nat → Value} {H : Heap} {Q : Value → Heap → Prop} {x : Operand} {lo hi mx : Option Operand} : oK E lim none dest mask (.sliceA n e x lo hi mx) fr H Q = opK ((sliceAV n e (ev fr x) (lo.map (ev fr)) (hi.map (ev fr)) (mx.map (ev fr))).map (·, H)) Q := by
  rw [oK_none rfl, sliceA_V]
theorem ob_sliceAV {E : Env} {lim b n e : Nat} {dest : Option Nat} {mask : List Nat} {fr : Nat → Value} {H : Heap} {Q : Value → Heap → Prop} {x : Operand} {lo hi mx : Option Operand} : oK E lim (some b) dest mask (.sliceA n e x lo hi mx) fr H Q = opK ((sliceAV n e (ev fr x) (lo.map (ev fr)) (hi.map (ev fr)) (mx.map (ev fr))).map (·, maskH b mask H)) fun v H' => Q v (unmaskH b mask H H') := by
  rw [oK_some rfl, sliceA_V]
def appendLV (lim : Nat) (dest : Option Nat) (esz bytes : Nat) (str : Bool) (s x : Value) (H : Heap) : Option (Value × Heap) := match s with
    | .slice none n c => aAppend lim dest esz bytes str (.slice none n c) x H
    | .slice (some a) n c => if c = loose esz ∨ c = n then aAppend lim dest esz bytes str (.slice (some a) n c) x H else none
    | _ => none
theorem on_appendLV {E : Env} {lim e b : Nat} {str : Bool} {dest : Option Nat} {mask : List Nat} {fr : Nat → Value} {H : Heap} {Q : Value → Heap → Prop} {s x : Operand} : oK E lim none dest mask (.appendL e b str s x) fr H Q = opK (appendLV lim none e b str (ev fr s) (ev fr x) H) Q := oK_none rfl
theorem ob_appendLV {E : Env} {lim e b' b : Nat} {str : Bool} {dest : Option Nat} {mask : List Nat} {fr : Nat → Value} {H : Heap} {Q : Value → Heap → Prop} {s x : Operand} : oK E lim (some b) dest mask (.appendL e b' str s x) fr H Q = opK (appendLV lim (dest.map (b + ·)) e b' str (ev fr s) (ev fr x) (maskH b mask H)) fun v H' => Q v (unmaskH b mask H H') := oK_some rfl
theorem appendLV_none {lim e b n c : Nat} {str : Bool} {dest : Option Nat} {x : Value} {H : Heap} : appendLV lim dest e b str (.slice none n c) x H = aAppend lim dest e b str (.slice none n c) x H := rfl
theorem appendLV_some {lim e b n c : Nat} {str : Bool} {dest : Option Nat} {x : Value} {H : Heap} {a : Addr} : appendLV lim dest e b str (.slice (some a) n c) x H = if c = loose e ∨ c = n then aAppend lim dest e b str (.slice (some a) n c) x H else none := rfl
end Go.AM

set_option linter.unusedVariables false
set_option linter.unusedSimpArgs false
namespace Go.AM
section
variable {α : Type}
variable [Inhabited α] {enc : α → List Value} {G X : Heap} {B e i : Nat} {d : Array α} {p : Option Addr} {lim : Nat}
omit [Inhabited α] in
theorem flat_set (he : ∀ x, (enc x).length = e) (y : α) : ∀ (l : List α) (i : Nat), i < l.length → setAll (l.flatMap enc) (i * e) (enc y) = (l.set i y).flatMap enc := by
  have key : ∀ (vs a b c : List Value) , vs.length = b.length → setAll (a ++ b ++ c) a.length vs = a ++ vs ++ c := by
    intro vs
    induction vs with
    | nil => intro a b c h; simp at h; have : b = [] := List.length_eq_zero_iff.1 h.symm; subst this; rfl
    | cons v vs ih =>
      intro a b c h
      match b, h with
      | x :: b, h =>
        rw [setAll_cons]
        have e1 : (a ++ x :: b ++ c).set a.length v = (a ++ [v]) ++ b ++ c := by simp
        rw [e1]
        have := ih (a ++ [v]) b c (by simpa using h)
        rw [List.length_append] at this
        simp only [List.length_cons, List.length_nil, Nat.zero_add] at this
        rw [this]; simp
  intro l i hi
  have e1 : l.flatMap enc = (l.take i).flatMap enc ++ enc l[i] ++ (l.drop (i + 1)).flatMap enc := by
    have e0 : l = l.take i ++ l[i] :: l.drop (i + 1) := by rw [← List.drop_eq_getElem_cons hi, List.take_append_drop]
    have := congrArg (List.flatMap enc) e0
    rw [List.flatMap_append, List.flatMap_cons] at this
    rw [this, List.append_assoc]
  have e2 : (l.set i y).flatMap enc = (l.take i).flatMap enc ++ enc y ++ (l.drop (i + 1)).flatMap enc := by
    rw [List.set_eq_take_append_cons_drop, if_pos hi]; simp
  have e3 : i * e = ((l.take i).flatMap enc).length := by rw [flat_len he, List.length_take, Nat.min_eq_left (by omega)]
  rw [e1, e2, e3]
  exact key _ _ _ _ (by rw [he, he])
end
end Go.AM

set_option linter.unusedVariables false
set_option linter.unusedSimpArgs false
set_option linter.defProp false
namespace Go.AM
set_option maxRecDepth 100000
def SB := And.intro @Ret_seq (And.intro @wantK_tt (And.intro @wantK_ff (And.intro @wantK_tf (And.intro @wantK_ft (And.intro @condK_tt (And.intro @condK_ff (And.intro @int_beq (And.intro @int_bne (And.intro @not_dec (And.intro @fillParts_cons (And.intro @fillParts_nil (And.intro @fillK_some (And.intro @fillV_int (And.intro @fillV_bool (And.intro @fillV_agg (And.intro @setAll_nil (And.intro @setAll_cons (And.intro @Ret_cops (And.intro @Ret_exit_code (And.intro @Ret_exit_loop (And.intro @Ret_exit_other (And.intro @Ret_exit_here (And.intro @Ret_skip (And.intro @Ret_block (And.intro @Ret_inBlock (And.intro @Ret_cond (And.intro @Ret_is (And.intro @Ret_in (And.intro @false_and (And.intro @and_false (And.intro @Ret_ops_nil (And.intro @Ret_ret (And.intro @decide_true (And.intro @gK_none (And.intro @gK_some (And.intro @on_mov (And.intro @on_pick (And.intro @on_bin (And.intro @on_eqv (And.intro @on_un (And.intro @on_conv (And.intro @on_alloc (And.intro @on_box (And.intro @on_build (And.intro @on_buildSlice (And.intro @on_load1 (And.intro @on_loadN (And.intro @on_store (And.intro @on_nilCheck (And.intro @on_fieldAddr (And.intro @on_field1 (And.intro @on_fieldN (And.intro @on_idxAddrA (And.intro @on_idxAddrS (And.intro @on_idxA (And.intro @on_idxStr (And.intro @on_sliceS (And.intro @on_sliceStr (And.intro @on_lenStr (And.intro @on_lenSlice (And.intro @on_lenMap (And.intro @on_lenK (And.intro @on_append (And.intro @on_append0 (And.intro @on_minmax (And.intro @on_makeSlice (And.intro @on_makeMap (And.intro @on_lookup (And.intro @on_mapUpdate (And.intro @on_delete (And.intro @on_makeFunc (And.intro @on_extract (And.intro @on_strId (And.intro @on_rowMark (And.intro @ob_mov (And.intro @ob_pick (And.intro @ob_bin (And.intro @ob_eqv (And.intro @ob_un (And.intro @ob_conv (And.intro @ob_alloc (And.intro @ob_box (And.intro @ob_build (And.intro @ob_buildSlice (And.intro @ob_load1 (And.intro @ob_loadN (And.intro @ob_store (And.intro @ob_nilCheck (And.intro @ob_fieldAddr (And.intro @ob_field1 (And.intro @ob_fieldN (And.intro @ob_idxAddrA (And.intro @ob_idxAddrS (And.intro @ob_idxA (And.intro @ob_idxStr (And.intro @ob_sliceS (And.intro @ob_sliceStr (And.intro @ob_lenStr (And.intro @ob_lenSlice (And.intro @ob_lenMap (And.intro @ob_lenK (And.intro @ob_append (And.intro @ob_append0 (And.intro @ob_minmax (And.intro @ob_makeSlice (And.intro @ob_makeMap (And.intro @ob_lookup (And.intro @ob_mapUpdate (And.intro @ob_delete (And.intro @ob_makeFunc (And.intro @ob_extract (And.intro @ob_strId (And.intro @ob_rowMark (And.intro @oK_call (And.intro @oK_callB (And.intro @oK_maps (And.intro @oK_mapsB (And.intro @on_capSlice (And.intro @ob_capSlice (And.intro @on_growNil (And.intro @ob_growNil (And.intro @calK_some (And.intro @pure_any (And.intro @pure_pure (And.intro @pure_mk (And.intro @lim_any (And.intro @lim_pure (And.intro @lim_mk (And.intro @CallT_inl (And.intro @CallT_inr (And.intro @Ret_retM (And.intro @marks_nil (And.intro @marks_code (And.intro @marks_loop (And.intro @marks_block (And.intro @marks_mark (And.intro @shut_nil (And.intro @shut_cons (And.intro @shutK_some (And.intro @Ret_round (And.intro @Ret_begin (And.intro @begK_loop (And.intro @endB_on (And.intro @endB_off (And.intro @Ret_retR_code (And.intro @Ret_retR_loop (And.intro @Ret_retR_block (And.intro @Ret_retR_round (And.intro @Ret_exitR_code (And.intro @Ret_exitR_loop (And.intro @Ret_exitR_other (And.intro @Ret_exitR_here (And.intro @Ret_exitR_round (And.intro @calL_some (And.intro @endK_0 (And.intro @endK_2 (And.intro @pendI_none (And.intro @pendI_some (And.intro @Ret_rangeF (And.intro @List.map_cons.{0,0} (And.intro @List.map_nil.{0,0} (And.intro @Option.map_none.{0,0} (And.intro @mask_nil (And.intro @mask_cons (And.intro @unmask_cons (And.intro @pad_one (And.intro @pad_zero (And.intro @pad_two (And.intro @pad_three (And.intro @Ret_drawn (And.intro @Nat.add_assoc (And.intro @unmask_nil (And.intro @unmask_mask (And.intro @ev_tmp (And.intro @ev_const (And.intro @ev_func (And.intro @upd_same (And.intro @upd_ne (And.intro @not_false_eq_true (And.intro @opK_some (And.intro @Option.map_some.{0,0} (And.intro @List.getD_cons_zero.{0} (And.intro @List.getD_cons_succ.{0} (And.intro @decide_false (And.intro @Bool.false_eq_true (And.intro @not_true_eq_false (And.intro @and_true (And.intro @true_and (And.intro @hget_new (And.intro @hget_new0 (And.intro @hget_old (And.intro @set_new (And.intro @set_new0 (And.intro @List.set_cons_zero.{0} (And.intro @List.set_cons_succ.{0} (And.intro @List.append_assoc.{0} (And.intro @List.cons_append.{0} (And.intro @List.nil_append.{0} (And.intro @storeAt_lit (And.intro @loadCell_lit (And.intro @loadCells_lit (And.intro @idxK_nat (And.intro @List.length_cons.{0} (And.intro @List.length_nil.{0} (And.intro @addr_add (And.intro @List.drop_zero.{0} (And.intro @List.drop_succ_cons.{0} (And.intro @List.take_succ_cons.{0} (And.intro @List.take_zero.{0} (And.intro @Nat.le_refl (And.intro @Nat.le_add_right (And.intro @Nat.zero_add (And.intro @Nat.add_zero (And.intro @result_fin (And.intro @resAll_nil (And.intro @resAll_cons (And.intro @consK_some (And.intro @finK_one (And.intro @finK_more (And.intro @finK_nil (And.intro @cells_agg (And.intro @cells_int (And.intro @cells_bool (And.intro @arr_list (And.intro @arr_size (And.intro @Option.some.injEq.{0} (And.intro @Prod.mk.injEq.{0,0} (And.intro @List.length_append.{0} (And.intro @List.getElem?_cons_zero.{0} (And.intro @List.getElem?_cons_succ.{0} (And.intro @Nat.lt_irrefl (And.intro @and_self (And.intro @int_lt_cast (And.intro @int_le_cast (And.intro @wantK_not (And.intro @condK_not (And.intro @Bool.not_true (And.intro @Bool.not_false (And.intro @Nat.le_add_right_of_le (And.intro @int_zero_lt (And.intro @wantK_undef (And.intro @keyOk_int (And.intro @keyOk_str (And.intro @findKey_nil (And.intro @findKey_int (And.intro @mapEntries_some (And.intro @mapEntries_none (And.intro @Int.cast_ofNat_Int (And.intro @idxK_zero (And.intro @Ret_nil (And.intro @cells_slice (And.intro @cells_ptr (And.intro @cells_str (And.intro @cells_map (And.intro @cells_func (And.intro @arr1 (And.intro @size1 (And.intro @fillV_slice (And.intro @fillV_ptr (And.intro @fillV_str (And.intro @fillV_map (And.intro @nat_not_neg (And.intro @setAll_full (And.intro @Option.isNone_none.{0} (And.intro @Option.isNone_some.{0} (And.intro @Int.toNat_natCast (And.intro @take_all (And.intro @setAll_skip (And.intro @pad_4 (And.intro @pad_5 (And.intro @pad_6 (And.intro @pad_7 (And.intro @pad_8 (And.intro @pad_9 (And.intro @pad_10 (And.intro @pad_11 (And.intro @pad_12 (And.intro @bytesOf_cons (And.intro @bytesOf_nil (And.intro @int_eq_cast (And.intro @on_b2sV (And.intro @ob_b2sV (And.intro @b2sV_some (And.intro @aSliceS_V (And.intro @on_copyV (And.intro @ob_copyV (And.intro @on_sliceAV (And.intro @ob_sliceAV (And.intro @on_appendLV (And.intro @ob_appendLV (And.intro @appendLV_none (@appendLV_some))))))))))))))))))))))))))))))))))))))))))))))))))))))))))))))))))))))))))))))))))))))))))))))))))))))))))))))))))))))))))))))))))))))))))))))))))))))))))))))))))))))))))))))))))))))))))))))))))))))))))))))))))))))))))))))))))))))))))))))))))))))))))))))))))))))))))))))))))))))))))))))))))))
theorem frame0_at {args : List Value} {t : Nat} : frame0 args t = args.getD t undef := id rfl
def FB := And.intro @upd_same (And.intro @upd_ne (And.intro @ne_eq.{1} (And.intro @not_false_eq_true (And.intro @frame0_at (And.intro @List.getD_cons_zero.{0} @List.getD_cons_succ.{0})))))
end Go.AM

