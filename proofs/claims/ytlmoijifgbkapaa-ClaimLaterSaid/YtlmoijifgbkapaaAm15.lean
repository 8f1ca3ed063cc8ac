/-
  The abstract machine, part 15: every operation but calls is sound.
-/
import Derived.Test.YtlmoijifgbkapaaAm14
set_option linter.unusedVariables false
set_option linter.unusedSimpArgs false
namespace Go.AM
open Go.MapKept

section
variable {P : Program} {pureF : FuncId → Bool} {W : Nat → Prop} {lim : Nat} {σ : Sig} {H H' : Heap} {w : World} {dest : Option Nat} {ρ ρ' : Operand → Value} {v : Value}

theorem opt_bind {α β : Type} {x : Option α} {f : α → Option β} {b : β} (h : (x >>= f) = some b) : ∃ a, x = some a ∧ f a = some b := by
  cases x with
  | none => cases h
  | some a => exact ⟨a, rfl, h⟩

theorem builtin_sound {draw : Bool} {o : Oper} {c : Call} (hoc : o.op = .call c) {b : Builtin} (hb : c.callee = .builtin b) {ao : AOp} (htr : trOp P pureF draw o = some ao) (hinv : Inv W lim σ H w)
    (hρ : ∀ x, okOperand x = true → VRel σ (ρ x) (ρ' x)) (hd : ∀ d, dest = some d → d < H.length ∧ σ d = none) (hx : aOp lim dest ao ρ H = some (v, H')) : OpSound W lim σ dest H w ((execOp ρ' o).run P w) v H' := by
  have hcb := call_builtin (ρ' := ρ') o c b hoc hb
  unfold trOp at htr
  split at htr
  · cases htr
  rename_i hok
  simp only [Bool.not_eq_true, Bool.not_eq_false'] at hok
  have hop : ∀ x ∈ c.args.toList, VRel σ (ρ x) (ρ' x) := fun x hx => hρ x (okOps (by simpa using hok) (by
    rw [hoc]; simp only [Op.operands, Call.operands, hb]; simpa using hx))
  rw [hoc] at htr
  simp only [hb] at htr
  cases b <;> simp only at htr <;> try (cases htr; done)
  case append =>
    split at htr
    case h_2 => cases htr
    rename_i s x st xt e1 e2
    have hats : c.argTypes = #[st, xt] := by apply Array.ext'; simpa using e2
    have hs := hop s (by simp [e1])
    have hxv := hop x (by simp [e1])
    have runE : ∀ (ty : TypeId), (execOp ρ' o).run P w = ((Builtin.append_ #[st, xt] o.type #[ρ' s, ρ' x]).run P w).andThen fun v w' => .ok (.value v) w' := by
      intro _
      rw [hcb, args_two e1, hats]
      simp [builtin]
    split at htr
    · rename_i e e' hu1 hu2
      obtain ⟨n, hn, htr⟩ := opt_bind htr
      obtain ⟨bb, hbb, htr⟩ := opt_bind htr
      obtain ⟨z, hz, htr⟩ := opt_bind htr
      split at htr
      case isFalse => cases htr
      rename_i hzl
      cases htr
      simp only [aOp] at hx
      exact append_sound hinv hd (ty := o.type) hu1 (str := false) (by simpa using ⟨_, hu2⟩) hn hbb hz hzl hs hxv hx (runE 0)
    · rename_i e hu1 hu2
      obtain ⟨n, hn, htr⟩ := opt_bind htr
      obtain ⟨bb, hbb, htr⟩ := opt_bind htr
      obtain ⟨z, hz, htr⟩ := opt_bind htr
      split at htr
      case isFalse => cases htr
      rename_i hzl
      cases htr
      simp only [aOp] at hx
      exact append_sound hinv hd (ty := o.type) hu1 (str := true) (by simpa using ⟨hu2, hzl.2⟩) hn hbb hz hzl.1 hs hxv hx (runE 0)
    · cases htr
  case copy =>
    split at htr
    case h_2 => cases htr
    rename_i d x dt rest e1 e2
    split at htr
    case h_2 => cases htr
    rename_i e hu
    simp only [Option.map_eq_some_iff] at htr
    obtain ⟨n, hn, rfl⟩ := htr
    obtain ⟨w', v', q1, q2, q3, q4, q5⟩ := copy_sound (P := P) (ty := o.type) hinv (types_get e2) hu hn (hop d (by simp [e1])) (hop x (by simp [e1])) hx
    refine OpSound.wrote hinv (nx := .value v') ?_ rfl q2 q3 q4 q5
    rw [hcb, args_two e1]
    exact builtin_run _ _ _ _ _ _ rfl q1
  case delete =>
    split at htr
    case h_2 => cases htr
    rename_i m k t rest e1 e2
    split at htr
    case h_2 => cases htr
    rename_i kt e hu
    simp only [Option.map_eq_some_iff] at htr
    obtain ⟨kk, hk, rfl⟩ := htr
    obtain ⟨w', q1, q2, q3, q4, rfl⟩ := delete_run (P := P) (ty := o.type) hinv hu hk (hop m (by simp [e1])) (hop k (by simp [e1])) hx (types_get e2)
    refine OpSound.wrote hinv (nx := .value (.tuple #[])) ?_ rfl (.atom rfl) q2 q3 q4
    rw [hcb, args_two e1]
    exact builtin_run _ _ _ _ _ _ rfl q1
  case len =>
    split at htr
    case h_2 => cases htr
    rename_i x t e1 e2
    have hxv := hop x (by simp [e1])
    have h0 : c.argTypes[0]? = some t := types_get e2
    split at htr
    · rename_i hu
      cases htr
      simp only [aOp] at hx
      split at hx
      case h_2 => cases hx
      rename_i s hs
      cases hx
      rw [hs] at hxv
      refine OpSound.plain hinv (v' := .int .i64 s.size) ?_ (.atom rfl)
      rw [hcb, args_one e1]
      exact builtin_run _ _ _ _ _ _ rfl ((len_run h0).1 hu s hxv.string_left)
    · rename_i e hu
      cases htr
      simp only [aOp] at hx
      split at hx
      case h_2 => cases hx
      rename_i a n cc hs
      cases hx
      rw [hs] at hxv
      have : ∃ a' c', ρ' x = .slice a' n c' := by
        cases a with
        | none => obtain ⟨rfl, rfl, h⟩ := hxv.nilslice_left; exact ⟨_, _, h⟩
        | some a =>
          obtain ⟨_, L, _, ⟨_, h⟩ | ⟨_, _, _, _, _, h⟩ | ⟨_, _, rfl, h⟩⟩ := hxv.slice_left
          · exact ⟨_, _, h⟩
          · exact ⟨_, _, h⟩
          · exact ⟨_, _, h⟩
      obtain ⟨a', c', h⟩ := this
      refine OpSound.plain hinv (v' := .int .i64 n) ?_ (.atom rfl)
      rw [hcb, args_one e1]
      exact builtin_run _ _ _ _ _ _ rfl ((len_run h0).2.1 ⟨e, hu⟩ _ _ _ h)
    · rename_i k e hu
      cases htr
      simp only [aOp, Option.map_eq_some_iff, Prod.mk.injEq] at hx
      obtain ⟨es, hes, rfl, rfl⟩ := hx
      refine OpSound.plain hinv (v' := .int .i64 es.length) ?_ (.atom rfl)
      rw [hcb, args_one e1]
      refine builtin_run _ _ _ _ _ _ rfl ?_
      rcases hinv.entries hxv hes with ⟨hm', rfl⟩ | ⟨r, L, ents, clock, hm0, hbb, hL, hm', hh, hlen, hrel⟩
      · rw [hm']; simp [Builtin.len_, h0, run_underlying hu, goInt]
      · rw [hm']; simp [Builtin.len_, h0, run_underlying hu, MapKept.run_getObj_map hh, goInt, hlen]
    · rename_i n e hu
      cases htr
      simp only [aOp] at hx
      cases hx
      refine OpSound.plain hinv (v' := .int .i64 n) ?_ (.atom rfl)
      rw [hcb, args_one e1]
      exact builtin_run _ _ _ _ _ _ rfl ((len_run h0).2.2 n e hu)
    · cases htr
  case max =>
    cases htr
    simp only [aOp] at hx
    split at hx
    · cases hx
    rename_i x r hxs
    simp only [Option.map_eq_some_iff, Prod.mk.injEq] at hx
    obtain ⟨z, hz, rfl, rfl⟩ := hx
    obtain ⟨z', h1, h2⟩ := minmaxAll_sound (P := P) (w := w) (σ := σ) true (r.map ρ) (r.map ρ') (ρ x) (ρ' x) z (hop x (by simp [hxs])) (lrel_map_rho fun y hy => hop y (by simp [hxs, hy])) hz
    refine OpSound.plain hinv (v' := z') ?_ h2
    rw [hcb]
    refine builtin_run _ _ _ _ _ _ rfl ?_
    have : (c.args.map ρ').toList = ρ' x :: r.map ρ' := by simp [hxs]
    unfold Builtin.max_
    rw [this]
    exact h1
  case min =>
    cases htr
    simp only [aOp] at hx
    split at hx
    · cases hx
    rename_i x r hxs
    simp only [Option.map_eq_some_iff, Prod.mk.injEq] at hx
    obtain ⟨z, hz, rfl, rfl⟩ := hx
    obtain ⟨z', h1, h2⟩ := minmaxAll_sound (P := P) (w := w) (σ := σ) false (r.map ρ) (r.map ρ') (ρ x) (ρ' x) z (hop x (by simp [hxs])) (lrel_map_rho fun y hy => hop y (by simp [hxs, hy])) hz
    refine OpSound.plain hinv (v' := z') ?_ h2
    rw [hcb]
    refine builtin_run _ _ _ _ _ _ rfl ?_
    have : (c.args.map ρ').toList = ρ' x :: r.map ρ' := by simp [hxs]
    unfold Builtin.min_
    rw [this]
    exact h1

theorem aOp_sound {draw : Bool} {o : Oper} {ao : AOp} (htr : trOp P pureF draw o = some ao) (hinv : Inv W lim σ H w) (hρ : ∀ x, okOperand x = true → VRel σ (ρ x) (ρ' x)) (hd : ∀ d, dest = some d → d < H.length ∧ σ d = none)
    (hx : aOp lim dest ao ρ H = some (v, H')) : OpSound W lim σ dest H w ((execOp ρ' o).run P w) v H' := by
  obtain ⟨dst, op, type, pos, after, guard⟩ := o
  by_cases hcall : ∃ c, op = .call c
  · obtain ⟨c, rfl⟩ := hcall
    by_cases hb : ∃ b, c.callee = .builtin b
    · obtain ⟨b, hb⟩ := hb
      exact builtin_sound (o := ⟨dst, .call c, type, pos, after, guard⟩) rfl hb htr hinv hρ hd hx
    · unfold trOp at htr
      split at htr
      · cases htr
      simp only at htr
      cases hc : c.callee with
      | builtin b => exact absurd ⟨b, hc⟩ hb
      | value f => rw [hc] at htr; simp at htr; subst htr; simp [aOp] at hx
      | invoke r m => rw [hc] at htr; simp at htr
  unfold trOp at htr
  split at htr
  · cases htr
  rename_i hok
  simp only [Bool.not_eq_true, Bool.not_eq_false'] at hok
  have hop : ∀ x ∈ op.operands, VRel σ (ρ x) (ρ' x) := fun x hx => hρ x (okOps (o := ⟨dst, op, type, pos, after, guard⟩) (by simpa using hok) hx)
  cases op <;> (try simp only at htr) <;> try (cases htr; done)
  case call c => exact absurd ⟨c, rfl⟩ hcall
  case move x =>
    cases htr; simp only [aOp] at hx; cases hx
    exact OpSound.plain hinv (v' := ρ' x) rfl (hop x (by simp [Op.operands]))
  case assign x =>
    cases htr; simp only [aOp] at hx; cases hx
    exact OpSound.plain hinv (v' := ρ' x) rfl (hop x (by simp [Op.operands]))
  case pick c a b =>
    cases htr; simp only [aOp] at hx
    have hc := hop c (by simp [Op.operands])
    split at hx
    · rename_i h; cases hx; rw [h] at hc
      exact OpSound.plain hinv (v' := ρ' a) (by simp [execOp, hc.bool_left, asBool]) (hop a (by simp [Op.operands]))
    · rename_i h; cases hx; rw [h] at hc
      exact OpSound.plain hinv (v' := ρ' b) (by simp [execOp, hc.bool_left, asBool]) (hop b (by simp [Op.operands]))
    · cases hx
  case alloc e =>
    simp only [Option.map_eq_some_iff] at htr
    obtain ⟨z, hz, rfl⟩ := htr
    exact alloc_sound hinv hd hz hx _ rfl
  case box e x =>
    cases htr
    exact box_sound hinv hd (hop x (by simp [Op.operands])) hx _ rfl
  case build t parts =>
    obtain ⟨z, hz, htr⟩ := opt_bind htr
    split at htr
    · rename_i fs hu
      obtain ⟨ps, hps, htr⟩ := opt_bind htr
      split at htr
      case isFalse => cases htr
      rename_i hall
      cases htr
      exact build_struct_sound hinv hu hz hps hall hρ hx _ rfl
    · rename_i n e hu
      obtain ⟨s, hs, htr⟩ := opt_bind htr
      cases htr
      exact build_array_sound hinv hu hz hs (fun x hx => hop x.2 (by simp only [Op.operands]; simp; exact ⟨x.1, by simpa using hx⟩)) hx _ rfl
    · cases htr
  case buildSlice t len parts =>
    split at htr
    · rename_i e hu
      obtain ⟨s, hs, htr⟩ := opt_bind htr
      obtain ⟨z, hz, htr⟩ := opt_bind htr
      split at htr
      · cases htr
      rename_i hcond
      cases htr
      exact buildSlice_sound hinv hd hu hz hs (Decidable.byContradiction fun h => hcond (.inl h)) (fun h => hcond (.inr (.inl h))) (Nat.le_of_not_lt fun h => hcond (.inr (.inr h)))
        (fun x hx => hop x.2 (by simp only [Op.operands]; simp; exact ⟨x.1, by simpa using hx⟩)) hx _ rfl
    · cases htr
  case load t a =>
    obtain ⟨ag, hag, htr⟩ := opt_bind htr
    have ha := hop a (by simp [Op.operands])
    cases ag with
    | true =>
      simp only [if_true, Option.map_eq_some_iff] at htr
      obtain ⟨n, hn, rfl⟩ := htr
      simp only [aOp] at hx
      split at hx
      case h_2 => cases hx
      rename_i p hp
      simp only [Option.map_eq_some_iff, Prod.mk.injEq] at hx
      obtain ⟨c, hc, rfl, rfl⟩ := hx
      rw [hp] at ha
      obtain ⟨L, hL, hsp, h2⟩ := ha.ptr_left
      obtain ⟨v', h3, h4⟩ := loadN_sound (P := P) hinv hag hn hL hc
      refine OpSound.plain hinv (v' := v') ?_ h4
      simp only [execOp]
      refine run_value P w _ ?_
      simp [Instr.loadAt, Instr.sureAddr, h2, h3]
    | false =>
      simp only [Bool.false_eq_true, if_false, Option.some.injEq] at htr
      subst htr
      simp only [aOp] at hx
      split at hx
      case h_2 => cases hx
      rename_i p hp
      simp only [Option.map_eq_some_iff, Prod.mk.injEq] at hx
      obtain ⟨c, hc, rfl, rfl⟩ := hx
      rw [hp] at ha
      obtain ⟨L, hL, hsp, h2⟩ := ha.ptr_left
      obtain ⟨v', h3, h4⟩ := load1_sound (P := P) hinv hag hL hc
      refine OpSound.plain hinv (v' := v') ?_ h4
      simp only [execOp]
      refine run_value P w _ ?_
      simp [Instr.loadAt, Instr.sureAddr, h2, h3]
  case store t a x =>
    simp only [Option.map_eq_some_iff] at htr
    obtain ⟨n, hn, rfl⟩ := htr
    have ha := hop a (by simp [Op.operands])
    have hxv := hop x (by simp [Op.operands])
    simp only [aOp] at hx
    split at hx
    case h_2 => cases hx
    rename_i p hp
    split at hx
    case isFalse => cases hx
    rename_i hcond
    simp only [Option.map_eq_some_iff, Prod.mk.injEq] at hx
    obtain ⟨H2, hst, rfl, rfl⟩ := hx
    rw [hp] at ha
    obtain ⟨L, hL, hsp, h2⟩ := ha.ptr_left
    obtain ⟨w', q1, q2, q3, q4⟩ := hinv.store (P := P) hL hst hxv.cells (hxv.cells_one hcond.2)
    refine OpSound.wrote hinv (nx := .skip) ?_ rfl (.atom rfl) q2 q3 q4
    simp only [execOp]
    refine run_unit P w _ ?_
    have hsz : (ρ' x).cells.size = n := by have := hxv.cells.1; simp at this; rw [← this]; exact hcond.1
    simp [Instr.storeAt, Instr.sureAddr, h2, storeVar, run_size hn, hsz, q1]
  case nilCheck x =>
    cases htr
    have hxv := hop x (by simp [Op.operands])
    simp only [aOp] at hx
    split at hx
    · rename_i p hp
      cases hx
      rw [hp] at hxv
      obtain ⟨L, hL, hsp, h2⟩ := hxv.ptr_left
      exact OpSound.plain hinv (v' := ρ' x) (by simp [execOp, h2]) hxv
    · rename_i f a b hp
      cases hx
      rw [hp] at hxv
      obtain ⟨c, d, h2, _, _⟩ := hxv.func_left
      exact OpSound.plain hinv (v' := ρ' x) (by simp [execOp, h2]) hxv
    · cases hx
  case binOp op t x y yt =>
    have hxv := hop x (by simp [Op.operands])
    have hyv := hop y (by simp [Op.operands])
    have bin : ∀ {r}, aOp lim dest (.bin op x y) ρ H = some (v, r) → OpSound W lim σ dest H w ((execOp ρ' ⟨dst, .binOp op t x y yt, type, pos, after, guard⟩).run P w) v r := by
      intro r hx
      simp only [aOp, Option.map_eq_some_iff, Prod.mk.injEq] at hx
      obtain ⟨c, hc, rfl, rfl⟩ := hx
      have heq : ρ' x = ρ x ∧ ρ' y = ρ y ∧ VRel σ c c := by
        have hc2 := hc
        unfold aBin at hc2
        split at hc2
        · rename_i k a k' b e1 e2
          rw [e1] at hxv; rw [e2] at hyv
          refine ⟨by rw [hxv.int_left, e1], by rw [hyv.int_left, e2], ?_⟩
          have : atom c = true := by
            split at hc2
            · split at hc2 <;> cases hc2 <;> rfl
            · split at hc2 <;> cases hc2 <;> rfl
            · split at hc2
              · cases op <;> simp at hc2 <;> first | (subst hc2; rfl) | (obtain ⟨_, rfl⟩ := hc2; rfl)
              · cases hc2
          exact .atom this
        · rename_i a b e1 e2
          rw [e1] at hxv; rw [e2] at hyv
          refine ⟨by rw [hxv.string_left, e1], by rw [hyv.string_left, e2], ?_⟩
          have : atom c = true := by
            cases op <;> simp at hc2 <;> first | (subst hc2; rfl) | (obtain ⟨_, rfl⟩ := hc2; rfl)
          exact .atom this
        · cases hc2
      refine OpSound.plain hinv (v' := c) ?_ heq.2.2
      simp only [execOp]
      refine run_value P w _ ?_
      rw [heq.1, heq.2.1]
      exact aBin_sound op t x y hc
    have eqc : ∀ {neg : Bool} {k : EqKind} {r}, op = (if neg then .neq else .eql) → eqKind P t = some k → aOp lim dest (.eqv neg k x y) ρ H = some (v, r) →
        OpSound W lim σ dest H w ((execOp ρ' ⟨dst, .binOp op t x y yt, type, pos, after, guard⟩).run P w) v r := by
      intro neg k r hop' hk hx
      simp only [aOp] at hx
      split at hx
      case h_2 => cases hx
      rename_i b hb
      cases hx
      refine OpSound.plain hinv (v' := .bool (if neg then !b else b)) ?_ (.atom rfl)
      simp only [execOp, hop']
      exact run_value P w _ (aEq_sound w neg hk x y hxv hyv hb)
    split at htr
    · cases htr; exact bin hx
    · cases htr; exact bin hx
    · split at htr
      · simp only [Option.map_eq_some_iff] at htr
        obtain ⟨k, hk, rfl⟩ := htr
        exact eqc (neg := false) rfl hk hx
      · simp only [Option.map_eq_some_iff] at htr
        obtain ⟨k, hk, rfl⟩ := htr
        exact eqc (neg := true) rfl hk hx
      · cases htr
  case unOp op t x =>
    cases htr
    have hxv := hop x (by simp [Op.operands])
    simp only [aOp, Option.map_eq_some_iff, Prod.mk.injEq] at hx
    obtain ⟨c, hc, rfl, rfl⟩ := hx
    have heq : ρ' x = ρ x ∧ VRel σ c c := by
      have hc2 := hc
      unfold aUn at hc2
      split at hc2
      · rename_i b e1; rw [e1] at hxv; cases hc2; exact ⟨by rw [hxv.bool_left, e1], .atom rfl⟩
      · rename_i k n e1; rw [e1] at hxv; cases hc2; exact ⟨by rw [hxv.int_left, e1], .atom rfl⟩
      · rename_i k n e1; rw [e1] at hxv; cases hc2; exact ⟨by rw [hxv.int_left, e1], .atom rfl⟩
      · cases hc2
    refine OpSound.plain hinv (v' := c) ?_ heq.2
    simp only [execOp]
    refine run_value P w _ ?_
    rw [heq.1]
    exact aUn_sound op hc
  case convert s d x =>
    have hxv := hop x (by simp [Op.operands])
    split at htr
    · rename_i k' k hs hd'
      cases htr
      simp only [aOp] at hx
      split at hx
      case h_2 => cases hx
      rename_i q n hq
      cases hx
      rw [hq] at hxv
      refine OpSound.plain hinv (v' := .int k (k.wrap n)) ?_ (.atom rfl)
      simp only [execOp]
      refine run_value P w _ ?_
      rw [hxv.int_left]
      simp [convert, run_underlying hs, run_underlying hd', Conv.intToInt]
    · rename_i hs hd'
      cases htr
      simp only [aOp] at hx
      split at hx
      case h_2 => cases hx
      rename_i q hq
      cases hx
      rw [hq] at hxv
      refine OpSound.plain hinv (v' := .string q) ?_ (.atom rfl)
      simp only [execOp]
      refine run_value P w _ ?_
      rw [hxv.string_left]
      simp [convert, run_underlying hs, run_underlying hd']
    · rename_i e hs hd'
      split at htr
      · rename_i he
        cases htr
        obtain ⟨v', q1, q2, rfl⟩ := b2s_sound (P := P) hinv hs he hd' hxv hx
        refine OpSound.plain hinv (v' := v') ?_ q2
        simp only [execOp]
        exact run_value P w _ q1
      · cases htr
    · cases htr
  case makeFunc fn first captured =>
    cases fn <;> simp only at htr <;> try (cases htr; done)
    rename_i f
    cases htr
    simp only [aOp] at hx
    cases hx
    refine OpSound.plain hinv (v' := .func (.func f) (first.map ρ') (captured.map ρ')) rfl ?_
    have key : ∀ (l : Array Operand), (∀ x ∈ l, VRel σ (ρ x) (ρ' x)) → ∀ i (h : i < ((l.toList.map ρ).toArray).size) (h' : i < (l.map ρ').size), VRel σ ((l.toList.map ρ).toArray)[i] (l.map ρ')[i] := fun l hl i h h' => by
      simp only [List.getElem_toArray, List.getElem_map, Array.getElem_map, Array.getElem_toList]
      exact hl _ (Array.getElem_mem _)
    exact .func (by simp) (by simp) (key first fun x hx => hop x (by simp [Op.operands, hx])) (key captured fun x hx => hop x (by simp [Op.operands, hx]))
  case makeMap t r =>
    split at htr
    · rename_i kt e hu
      cases htr
      simp only [aOp] at hx
      split at hx
      case h_2 => cases hx
      rename_i hr
      cases hp : place dest (.map []) H with
      | mk k K =>
      rw [hp] at hx
      cases hx
      obtain ⟨i1, i2⟩ := hinv.allocMap hp hd
      obtain ⟨g1, g2, g3, g4, g5, g6, g7⟩ := place_get hp fun d e => (hd d e).1
      refine ⟨.value (.map (some w.heap.size)), _, _, _, ?_, rfl, VRel.map Sig.put_same, i1, Stp.alloc hinv.fresh _, Sig.le_put i2, fun j hj => ?_, g3, fun hdn => ?_⟩
      · simp only [execOp]
        refine run_value P w _ ?_
        cases r with
        | none => simp [Instr.makeMap]
        | some x =>
          have hxv := hop x (by simp [Op.operands])
          cases hxx : ρ x <;> simp [hxx] at hr
          rw [hxx] at hxv
          simp [Instr.makeMap, hxv.int_left, run_underlying hu, asInt, asIntOf]
      · by_cases e : j = k
        · subst e
          cases dest with
          | none => exact .inr ⟨rfl, by rw [g5 rfl]; exact Nat.le_refl _⟩
          | some d => exact .inl (by rw [(g6 d rfl).1])
        · simp [Sig.put, e] at hj
      · cases dest with
        | none => exact absurd rfl hdn
        | some d => exact (g6 d rfl).2
    · cases htr
  case makeSlice t l c =>
    split at htr
    · rename_i e hu
      obtain ⟨s, hs, htr⟩ := opt_bind htr
      obtain ⟨bb, hb, htr⟩ := opt_bind htr
      obtain ⟨z, hz, htr⟩ := opt_bind htr
      split at htr
      · cases htr
      rename_i hcond
      cases htr
      have hzs : z.length = s := Decidable.byContradiction fun h => hcond (.inl h)
      have hs0 : s ≠ 0 := fun h => hcond (.inr h)
      obtain ⟨i, zv, hi, hzv, rfl, hat⟩ := zero_info hz
      obtain ⟨i2, hi2, his⟩ := size_info hs
      rw [hi] at hi2; cases hi2
      obtain ⟨i3, hi3, hib⟩ := bytes_info hb
      rw [hi] at hi3; cases hi3
      subst his hib
      have hlv := hop l (by simp [Op.operands])
      have hcv := hop c (by simp [Op.operands])
      simp only [aOp] at hx
      split at hx
      case h_2 => cases hx
      rename_i kl ln kc cn hl hc
      split at hx
      case isFalse => cases hx
      rename_i hb2
      obtain ⟨b1, b2, b3, b4⟩ := hb2
      cases hp : place dest (.cells false ((List.range (cn.toNat * i.size)).map fun j => zv.cells.toList.getD (j % zv.cells.toList.length) undef)) H with
      | mk k K =>
      rw [hp] at hx
      cases hx
      rw [hl] at hlv; rw [hc] at hcv
      have hzget : ∀ j, VRel σ (zv.cells.toList.getD (j % zv.cells.toList.length) undef) (zv.cells[j % zv.cells.size]!) ∧ (zv.cells[j % zv.cells.size]!).oneCell' = true := fun j => by
        have hj : j % zv.cells.size < zv.cells.size := Nat.mod_lt _ (by simp at hzs; omega)
        have e1 : zv.cells.toList.getD (j % zv.cells.toList.length) undef = zv.cells[j % zv.cells.size] := by
          rw [List.getD_eq_getElem?_getD, Array.length_toList, Array.getElem?_toList, Array.getElem?_eq_getElem hj]; rfl
        have e2 : zv.cells[j % zv.cells.size]! = zv.cells[j % zv.cells.size] := by simp [hj]
        rw [e1, e2]
        have := hat _ (Array.mem_toList_iff.2 (Array.getElem_mem hj))
        exact ⟨.atom this.1, this.2⟩
      refine OpSound.made hinv hd hp (cs := madeCells zv.cells (cn.toNat * i.size)) (el := e) (fun j y hj => ?_) (by simp [size_madeCells]) hinv (Stp.refl _ _) (v' := .slice (some ⟨w.heap.size, 0, none⟩) ln.toNat cn.toNat) ?_ ?_
      · rw [List.getElem?_map] at hj
        simp only [Option.map_eq_some_iff] at hj
        obtain ⟨j', hj', rfl⟩ := hj
        have hjn : j < cn.toNat * i.size := by simpa using (List.getElem?_eq_some_iff.1 hj').1
        rw [List.getElem?_range hjn] at hj'
        cases hj'
        exact ⟨zv.cells[j % zv.cells.size]!, by simp [madeCells, hjn], (hzget j).1, (hzget j).2⟩
      · simp only [execOp]
        refine run_value P w _ ?_
        rw [hlv.int_left, hcv.int_left]
        exact run_make w t e i zv hu hi hzv kl kc ln cn b1 b2 (by rw [Int.mul_comm]; omega) (by omega)
      · have h62 : cn.toNat < 2 ^ 62 := by omega
        simpa using VRel.slice (σ := σ.put k ⟨w.heap.size, 0, (madeCells zv.cells (cn.toNat * i.size)).size⟩) (i := k) (k := 0) (n := ln.toNat) Sig.put_same h62
    · cases htr
  case slice t x lo hi mx =>
    have hxv := hop x (by simp [Op.operands])
    have hbs : ∀ y ∈ lo.toList ++ hi.toList ++ mx.toList, VRel σ (ρ y) (ρ' y) := fun y hy => hop y (by
      simp only [Op.operands]; simp at hy ⊢; rcases hy with h | h | h <;> simp [h])
    split at htr
    · rename_i e hu
      obtain ⟨s, hs, htr⟩ := opt_bind htr
      split at htr
      · cases htr
      cases htr
      simp only [aOp, Option.map_eq_some_iff, Prod.mk.injEq] at hx
      obtain ⟨c, hc, rfl, rfl⟩ := hx
      obtain ⟨v', q1, q2⟩ := sliceS_sound (P := P) (w := w) hu hs hxv hbs hc
      refine OpSound.plain hinv (v' := v') ?_ q2
      simp only [execOp]
      exact run_value P w _ q1
    · rename_i n e hu
      obtain ⟨s, hs, htr⟩ := opt_bind htr
      split at htr
      · cases htr
      cases htr
      simp only [aOp] at hx
      split at hx
      case h_2 => cases hx
      rename_i a ha
      split at hx
      case h_2 => cases hx
      rename_i l h' m hb
      split at hx
      case isFalse => cases hx
      rename_i h62
      cases hx
      rw [ha] at hxv
      obtain ⟨L, hL, hsp, h2⟩ := hxv.ptr_left
      obtain ⟨m', r1, r2, r3, r4, r5, r6, r7⟩ := bounds_sound (P := P) (w := w) hb hbs (Nat.le_refl _) false
      have hm : m' = m := by
        by_cases e : mx = none
        · rw [(r2 e).1, (r2 e).2]
        · exact r3 e
      subst hm
      refine OpSound.plain hinv (v' := .slice (some (if m' = l then ⟨L.blk, L.base + a.off, none⟩ else (⟨L.blk, L.base + a.off, none⟩ : Addr).add (l * s))) (h' - l) (m' - l)) ?_ ?_
      · simp only [execOp]
        refine run_value P w _ ?_
        rw [h2]
        simp [Instr.sliceAt, run_underlying hu, Instr.sureAddr, r1, run_size hs]
      · split
        · exact VRel.slice' hsp hL (by omega)
        · rw [add_off a _ hsp, add_off _ _ rfl]
          have := VRel.slice (σ := σ) (i := a.block) (k := a.off + l * s) (n := h' - l) (c := m' - l) hL (by omega)
          rw [← Nat.add_assoc] at this
          exact this
    · rename_i hu
      split at htr
      · cases htr
      rename_i hmx
      cases htr
      have hmx' : mx = none := by cases mx <;> simp_all
      subst hmx'
      simp only [aOp] at hx
      split at hx
      case h_2 => cases hx
      rename_i q hq
      split at hx
      case h_2 => cases hx
      rename_i l h' m hb
      cases hx
      rw [hq] at hxv
      obtain ⟨m', r1, r2, r3, r4, r5, r6, r7⟩ := bounds_sound (P := P) (w := w) hb hbs (Nat.le_refl _) false
      refine OpSound.plain hinv (v' := .string (q.extract l h')) ?_ (.atom rfl)
      simp only [execOp]
      refine run_value P w _ ?_
      rw [hxv.string_left]
      simp only [Option.map_none] at r1
      simp [Instr.sliceAt, Instr.slice, run_underlying hu, r1]
    · cases htr
  case fieldAddr s x f =>
    have hxv := hop x (by simp [Op.operands])
    split at htr
    · rename_i fs hu
      obtain ⟨fd, hf, htr⟩ := opt_bind htr
      obtain ⟨n, hn, htr⟩ := opt_bind htr
      split at htr
      · cases htr
      rename_i h0
      cases htr
      simp only [aOp] at hx
      split at hx
      case h_2 => cases hx
      rename_i p hp
      cases hx
      rw [hp] at hxv
      obtain ⟨L, hL, hsp, h2⟩ := hxv.ptr_left
      refine OpSound.plain hinv ?_ (VRel.ptr_add hL hsp fd.offset)
      simp only [execOp]
      refine run_value P w _ ?_
      rw [h2]
      exact run_fieldAt hu hf hn h0 _
    · cases htr
  case field s x f =>
    have hxv := hop x (by simp [Op.operands])
    split at htr
    · rename_i fs hu
      obtain ⟨fd, hf, htr⟩ := opt_bind htr
      obtain ⟨n, hn, htr⟩ := opt_bind htr
      obtain ⟨ag, hag, htr⟩ := opt_bind htr
      cases ag with
      | true =>
        simp only [if_true] at htr
        cases htr
        simp only [aOp] at hx
        split at hx
        case h_2 => cases hx
        rename_i cs hcs
        cases hx
        rw [hcs] at hxv
        obtain ⟨ys, h2, h3, h4⟩ := hxv.agg_left
        refine OpSound.plain hinv (v' := .agg (ys.extract fd.offset (fd.offset + n))) ?_ (VRel.agg_iff.2 ⟨?_, ?_⟩)
        · simp only [execOp]
          refine run_value P w _ ?_
          rw [h2]
          simp [Instr.field, run_underlying hu, hf, asAgg, run_partN hag hn]
        · rw [extract_toList]; simpa using (h3.drop fd.offset).take n
        · rw [extract_toList]; exact fun y hy => h4 y (List.mem_of_mem_drop (List.mem_of_mem_take hy))
      | false =>
        simp only [Bool.false_eq_true, if_false] at htr
        cases htr
        simp only [aOp] at hx
        split at hx
        case h_2 => cases hx
        rename_i cs hcs
        simp only [Option.map_eq_some_iff, Prod.mk.injEq] at hx
        obtain ⟨c, hc, rfl, rfl⟩ := hx
        rw [hcs] at hxv
        obtain ⟨ys, h2, h3, h4⟩ := hxv.agg_left
        obtain ⟨y, h5, h6⟩ := h3.get hc
        refine OpSound.plain hinv (v' := y) ?_ h6
        simp only [execOp]
        refine run_value P w _ ?_
        rw [h2]
        simp [Instr.field, run_underlying hu, hf, asAgg, run_part1 hag (by simpa using h5)]
    · cases htr
  case indexAddr t x ix =>
    have hxv := hop x (by simp [Op.operands])
    have hiv := hop ix (by simp [Op.operands])
    split at htr
    · rename_i e hu
      obtain ⟨s, hs, htr⟩ := opt_bind htr
      cases htr
      simp only [aOp] at hx
      split at hx
      case h_2 => cases hx
      rename_i p len cap k n hp hi
      split at hx
      case isFalse => cases hx
      rename_i hn
      cases hx
      rw [hp] at hxv; rw [hi] at hiv
      obtain ⟨hsp, L, hL, hc⟩ := hxv.slice_left
      have hxc : ∃ c', ρ' x = .slice (some ⟨L.blk, L.base + p.off, none⟩) len c' := by
        rcases hc with ⟨_, h⟩ | ⟨_, _, _, _, _, h⟩ | ⟨_, _, h0, h⟩
        · exact ⟨_, h⟩
        · exact ⟨_, h⟩
        · rw [h0] at hn; simp at hn; omega
      obtain ⟨c', h2⟩ := hxc
      refine OpSound.plain hinv ?_ (VRel.ptr_add hL hsp (n.toNat * s))
      simp only [execOp]
      refine run_value P w _ ?_
      rw [h2, hiv.int_left]
      exact run_indexAt_slice' hu hs _ len c' k n hn
    · rename_i len e hu
      obtain ⟨s, hs, htr⟩ := opt_bind htr
      cases htr
      simp only [aOp] at hx
      split at hx
      case h_2 => cases hx
      rename_i p k n hp hi
      split at hx
      case isFalse => cases hx
      rename_i hn
      cases hx
      rw [hp] at hxv; rw [hi] at hiv
      obtain ⟨L, hL, hsp, h2⟩ := hxv.ptr_left
      refine OpSound.plain hinv ?_ (VRel.ptr_add hL hsp (n.toNat * s))
      simp only [execOp]
      refine run_value P w _ ?_
      rw [h2, hiv.int_left]
      exact run_indexAt_array' hu hs _ k n hn
    · cases htr
  case index t x ix =>
    have hxv := hop x (by simp [Op.operands])
    have hiv := hop ix (by simp [Op.operands])
    split at htr
    · rename_i len e hu
      obtain ⟨s, hs, htr⟩ := opt_bind htr
      obtain ⟨ag, hag, htr⟩ := opt_bind htr
      cases htr
      simp only [aOp] at hx
      split at hx
      case h_2 => cases hx
      rename_i cs k n hcs hi
      split at hx
      case isFalse => cases hx
      rename_i hn
      rw [hcs] at hxv; rw [hi] at hiv
      obtain ⟨ys, h2, h3, h4⟩ := hxv.agg_left
      cases ag with
      | true =>
        simp only [if_true] at hx
        cases hx
        refine OpSound.plain hinv (v' := .agg (ys.extract (n.toNat * s) (n.toNat * s + s))) ?_ (VRel.agg_iff.2 ⟨?_, ?_⟩)
        · simp only [execOp]
          refine run_value P w _ ?_
          rw [h2, hiv.int_left, run_index_array' hu hs ys k n hn]
          exact run_partN hag hs
        · rw [extract_toList]; simpa using (h3.drop (n.toNat * s)).take s
        · rw [extract_toList]; exact fun y hy => h4 y (List.mem_of_mem_drop (List.mem_of_mem_take hy))
      | false =>
        simp only [Bool.false_eq_true, if_false, Option.map_eq_some_iff, Prod.mk.injEq] at hx
        obtain ⟨c, hc, rfl, rfl⟩ := hx
        obtain ⟨y, h5, h6⟩ := h3.get hc
        refine OpSound.plain hinv (v' := y) ?_ h6
        simp only [execOp]
        refine run_value P w _ ?_
        rw [h2, hiv.int_left, run_index_array' hu hs ys k n hn]
        exact run_part1 hag (by simpa using h5)
    · rename_i hu
      cases htr
      simp only [aOp] at hx
      split at hx
      case h_2 => cases hx
      rename_i q k n hq hi
      split at hx
      case isFalse => cases hx
      rename_i hn
      simp only [Option.map_eq_some_iff, Prod.mk.injEq] at hx
      obtain ⟨b, hb, rfl, rfl⟩ := hx
      rw [hq] at hxv; rw [hi] at hiv
      refine OpSound.plain hinv (v' := .int .u8 b.toNat) ?_ (.atom rfl)
      simp only [execOp]
      refine run_value P w _ ?_
      rw [hxv.string_left, hiv.int_left]
      exact run_index_string' hu q k n hn hb
    · cases htr
  case lookup t m k ok =>
    split at htr
    · rename_i kt e hu
      obtain ⟨z, hz, htr⟩ := opt_bind htr
      obtain ⟨kk, hk, htr⟩ := opt_bind htr
      cases htr
      exact lookup_sound hinv hu hk hz (hop m (by simp [Op.operands])) (hop k (by simp [Op.operands])) hx _ rfl
    · cases htr
  case mapUpdate t m k x =>
    split at htr
    · rename_i kt e hu
      simp only [Option.map_eq_some_iff] at htr
      obtain ⟨kk, hk, rfl⟩ := htr
      obtain ⟨w', q1, q2, q3, q4, rfl⟩ := mapUpdate_run (P := P) hinv hu hk (hop m (by simp [Op.operands])) (hop k (by simp [Op.operands])) (hop x (by simp [Op.operands])) hx
      refine OpSound.wrote hinv (nx := .skip) ?_ rfl (.atom rfl) q2 q3 q4
      simp only [execOp]
      exact run_unit P w _ q1
    · cases htr
  case insert t m k x =>
    split at htr
    · rename_i kt e hu
      simp only [Option.map_eq_some_iff] at htr
      obtain ⟨kk, hk, rfl⟩ := htr
      obtain ⟨w', q1, q2, q3, q4, rfl⟩ := mapUpdate_run (P := P) hinv hu hk (hop m (by simp [Op.operands])) (hop k (by simp [Op.operands])) (hop x (by simp [Op.operands])) hx
      refine OpSound.wrote hinv (nx := .skip) ?_ rfl (.atom rfl) q2 q3 q4
      simp only [execOp]
      exact run_unit P w _ q1
    · cases htr
  case extract x ix =>
    have hxv := hop x (by simp [Op.operands])
    cases htr
    simp only [aOp] at hx
    split at hx
    case h_2 => cases hx
    rename_i vs hvs
    simp only [Option.map_eq_some_iff, Prod.mk.injEq] at hx
    obtain ⟨c, hc, rfl, rfl⟩ := hx
    rw [hvs] at hxv
    obtain ⟨ys, h2, h3⟩ := hxv.tuple_left
    obtain ⟨y, h5, h6⟩ := h3.get hc
    refine OpSound.plain hinv (v' := y) ?_ h6
    simp only [execOp]
    refine run_value P w _ ?_
    rw [h2]
    have h5' : ys[ix]? = some y := by simpa using h5
    simp [Instr.extract, h5']
end
end Go.AM
