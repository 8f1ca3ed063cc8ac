/-
  The abstract machine, part 28: a law whose run on the abstract heap comes to true returns true, and leaves all as it was.
-/
import Derived.Test.YtlmoijifgbkapaaAm27
set_option linter.unusedVariables false
set_option linter.unusedSimpArgs false
namespace Go.AM
open Go.ChangeShapes Go.WideShapes Go.ChangeAt Go.RowKit

def isRow : Ty → Bool
  | .nil => true
  | .pair _ _ => true
  | _ => false
/-- How data lie in a value. -/
def RepV (t : Ty) (H : Heap) (x : t.den) (v : Value) : Prop := if isRow t = true then ∃ as, v = .agg as.toArray ∧ Rep t H x as else Rep t H x [v]
abbrev dens : List Ty → Type
  | [] => Unit
  | t :: ts => t.den × dens ts
def RepAll : (ts : List Ty) → Heap → dens ts → List Value → Prop
  | [], _, _, vs => vs = []
  | t :: ts, H, x, vs => ∃ v r, vs = v :: r ∧ RepV t H x.1 v ∧ RepAll ts H x.2 r
theorem RepV.app {t : Ty} {H : Heap} {x : t.den} {v : Value} (h : RepV t H x v) (X : Heap) : RepV t (H ++ X) x v := by
  unfold RepV at *
  split
  · rename_i hr
    rw [if_pos hr] at h
    obtain ⟨as, e, k⟩ := h
    exact ⟨as, e, k.app X⟩
  · rename_i hr
    rw [if_neg hr] at h
    exact h.app X

section
variable {P : Program} {H : Type} {enc : TypeId × Value → H} {w : World} {W : Nat → Prop} {lim : Nat}

theorem tyFields_row {f : TypeId → Option Ty} : ∀ {fs : List Field} {off : Nat} {ty : Ty}, tyFields P f fs off = some ty → isRow ty = true
  | [], off, ty, h => by simp only [tyFields, Option.some.injEq] at h; subst h; rfl
  | fd :: fs, off, ty, h => by
    simp only [tyFields] at h
    split at h
    · split at h
      · split at h
        · split at h
          · cases h; rfl
          · cases h
        · cases h
      · cases h
    · cases h

/-- The cells of an argument. -/
theorem arg_cells {n : Nat} {t : TypeId} {ty : Ty} {v : Value} {r : Reach} {base : Nat} (ht : tyOf P n t = some ty) (hv : Value.okWide P w r base t v) : if isRow ty = true then ∃ cs, v = .agg cs else v.cells.toList = [v] := by
  cases n with
  | zero => simp [tyOf] at ht
  | succ n =>
    simp only [tyOf] at ht
    split at ht
    · rename_i hu; cases ht
      obtain ⟨b, rfl⟩ := okWide_bool hu hv
      rfl
    · rename_i k hu; cases ht
      obtain ⟨b, rfl⟩ := okWide_int hu hv
      rfl
    · rename_i hu; cases ht
      obtain ⟨b, rfl⟩ := okWide_string hu hv
      rfl
    · rename_i e hu
      split at ht
      case h_2 => cases ht
      split at ht
      case isFalse => cases ht
      cases ht
      obtain ⟨a, l, c, rfl⟩ := okWide_slice hu hv
      rfl
    · rename_i fs hu
      split at ht
      case h_2 => cases ht
      rename_i ty' he
      split at ht
      case isFalse => cases ht
      cases ht
      obtain ⟨cs, rfl, _⟩ := okWide_struct hu hv
      rw [if_pos (tyFields_row he)]
      exact ⟨cs, rfl⟩
    · cases ht

theorem opens_args {n : Nat} {r : Reach} {base : Nat} : ∀ {ts : List TypeId} {vs : List Value} {ds : List (DataW H)} {ps : List MemPlace} {tys : List Ty}, DataW.TrodAll enc P w 0 (fun _ => true) true ts vs ds ps → ts.mapM (tyOf P n) = some tys →
    (∀ (j : Nat) t v, ts[j]? = some t → vs[j]? = some v → Value.okWide P w r base t v) → ∀ σ H, Inv W lim σ H w → NoOwn H →
    ∃ X σ' as x, Inv W lim σ' (H ++ X) w ∧ NoOwn (H ++ X) ∧ Sig.le σ σ' ∧ LRel σ' as vs ∧ RepAll tys (H ++ X) x as
  | [], [], [], ps, tys, _, ht, _, σ, Hp, hi, hn => by
    simp at ht; subst ht
    exact ⟨[], σ, [], (), by simpa using hi, by simpa using hn, Sig.le_refl _, LRel.nil, rfl⟩
  | t :: ts, v :: vs, d :: ds, ps, tys, hA, ht, hv, σ, Hp, hi, hn => by
    obtain ⟨p, q, h1, h2, rfl⟩ := hA
    rw [List.mapM_cons] at ht
    obtain ⟨ty, hty, ht⟩ := opt_bind ht
    obtain ⟨tr, htr, ht⟩ := opt_bind ht
    cases ht
    obtain ⟨m, hm⟩ := h1
    have hc := arg_cells hty (hv 0 t v rfl rfl)
    obtain ⟨X, σ1, as, x, k1, k2, k3, k4, k5, k6⟩ := opens_trod n m hty hm σ Hp hi hn
    obtain ⟨Y, σ2, bs, y, m1, m2, m3, m4, m5⟩ := opens_args h2 htr (fun j t' v' e1 e2 => hv (j + 1) t' v' (by simpa using e1) (by simpa using e2)) σ1 _ k1 k2
    have key : ∃ av, VRel σ1 av v ∧ RepV ty (Hp ++ X) x av := by
      split at hc
      · rename_i hr
        obtain ⟨cs, rfl⟩ := hc
        refine ⟨.agg as.toArray, VRel.agg_iff.2 ⟨by simpa [Value.cells] using k4, by simpa [Value.cells] using k6⟩, ?_⟩
        unfold RepV; rw [if_pos hr]
        exact ⟨as, rfl, k5⟩
      · rename_i hr
        rw [hc] at k4
        have hl := k4.1
        match as, hl, k4, k5 with
        | [a], _, k4, k5 =>
          refine ⟨a, k4.head, ?_⟩
          unfold RepV; rw [if_neg hr]
          exact k5
    obtain ⟨av, q1, q2⟩ := key
    refine ⟨X ++ Y, σ2, av :: bs, (x, y), by rw [← List.append_assoc]; exact m1, by rw [← List.append_assoc]; exact m2, Sig.le_trans k3 m3, LRel.cons (q1.mono m3) m4, av, bs, rfl, ?_, ?_⟩
    · rw [← List.append_assoc]; exact q2.app Y
    · rw [← List.append_assoc]; exact m5
  | [], [], _ :: _, _, _, hA, _, _, _, _, _, _ => hA.elim
  | [], _ :: _, _, _, _, hA, _, _, _, _, _, _ => hA.elim
  | _ :: _, [], _, _, _, hA, _, _, _, _, _, _ => hA.elim
  | _ :: _, _ :: _, [], _, _, hA, _, _, _, _, _, _ => hA.elim

theorem trodAll_stays (hl : laidOutB P = true) {w' : World} (hb : Below w.heap.size w w') : ∀ {ts : List TypeId} {vs : List Value} {ds : List (DataW H)} {ps : List MemPlace}, (∀ t ∈ ts, P.readableRec t = true ∧ t < P.types.size) → DataW.TrodAll enc P w 0 (fun _ => true) true ts vs ds ps →
    (∀ x ∈ ps, x.block < w.heap.size) → DataW.TrodAll enc P w' 0 (fun b => decide (b < w.heap.size)) true ts vs ds ps
  | [], [], [], ps, _, h, _ => h
  | t :: ts, v :: vs, d :: ds, ps, hr, h, hlt => by
    obtain ⟨p, q, h1, h2, rfl⟩ := h
    exact ⟨p, q, Below.trod hl (hr t (by simp)).1 (hr t (by simp)).2 h1 hb fun x hx => hlt x (by simp [hx]), trodAll_stays hl hb (fun t' ht' => hr t' (by simp [ht'])) h2 fun x hx => hlt x (by simp [hx]), rfl⟩
  | [], [], _ :: _, _, _, hA, _ => hA.elim
  | [], _ :: _, _, _, _, hA, _ => hA.elim
  | _ :: _, [], _, _, _, hA, _ => hA.elim
  | _ :: _, _ :: _, [], _, _, hA, _ => hA.elim
theorem trodAll_length : ∀ {ts : List TypeId} {vs : List Value} {ds : List (DataW H)} {ps : List MemPlace}, DataW.TrodAll enc P w 0 (fun _ => true) true ts vs ds ps → ds.length = ts.length
  | [], [], [], ps, _ => rfl
  | t :: ts, v :: vs, d :: ds, ps, h => by
    obtain ⟨p, q, h1, h2, rfl⟩ := h
    simp [trodAll_length h2]
  | [], [], _ :: _, _, hA => hA.elim
  | [], _ :: _, _, _, hA => hA.elim
  | _ :: _, [], _, _, hA => hA.elim
  | _ :: _, _ :: _, [], _, hA => hA.elim
end

/-- THE LAW: its run comes to true on whatever the arguments hold. -/
theorem law_returns {C : Checked} {os : Os} {g : FuncId} {fn : Func} {s : ChangeSpec} {E : Env} {tys : List Ty} {tb : TypeId} {conds : List PathCond} {H : Type} {enc : TypeId × Value → H}
    (own : ownKnob C.prog.godebug = none) (started : os.Started) (noInit : C.prog.inits.idxOf? g = none) (hfn : C.prog.funcs[g]? = some fn) (hvars : s.vars = [])
    (hspec : ∀ ds : List (DataW H), ds.length = fn.params.size → s.fn H ds = { results := [.lit (.bool true)], args := ds })
    (hres : fn.resultTypes = #[tb]) (hb : C.prog.underlying tb = some .bool) (htys : fn.params.toList.mapM (tyOf C.prog 9) = some tys)
    (hread : ∀ t ∈ fn.params.toList, C.prog.readableRec t = true ∧ t < C.prog.types.size) (hlaid : laidOutB C.prog = true) (hE : EnvOk C.prog E)
    (witness : ∃ (w : World) (tape : Tape) (i : Input), w.os = os ∧ (w.forCall tape i).Shaped C.prog ∧ i.vars = [] ∧ Input.okWide C.prog (w.forCall tape i) .any w.heap.size g i ∧
      s.pre6 enc C.prog fn conds false (w.forCall tape i).memory i.args ∧ ({} : Assume).holds C.prog (lone (Frame.enter C.prog g i.args .normal) [] (w.forCall tape i)))
    (run : ∀ H vs x, RepAll tys H x vs → CallR E false H.length g vs H fun v _ => v = .bool true) :
    ReturnsInHanded {} C os g .any (s.pre6 enc C.prog fn conds false) (s.post enc C.prog fn false true false false) := by
  refine returnsInHanded_of_change own started noInit hfn witness ?_
  intro w base args ds gs before hval hW hcnd hholds
  have hW' := hW
  obtain ⟨p, q, hA, hV, rfl, hfz, hnd⟩ := hW
  rw [hvars] at hV
  obtain ⟨rfl, rfl⟩ := trodVars_none hV
  obtain ⟨X, σ, as, x, k1, k2, k3, k4, k5⟩ := opens_args hA htys (fun j t v h1 h2 => hval j t v (by simpa using h1) (by simpa using h2)) (fun _ => none) [] (Inv.nil w) (fun i b hb => by simp at hb)
  rw [List.nil_append] at k1 k2 k5
  have k1' : Inv (fun k => w.heap.size ≤ k) X.length σ X w := ⟨k1.blk, k1.inj, (fun i b L hb ho => by rw [k2 i b hb] at ho; cases ho), k1.fresh, k1.dom⟩
  obtain ⟨n, v, H', hx, rfl⟩ := run X as x k5
  have hcall := (callOk hE n).calls _ _ _ _ _ _ _ hx (Nat.le_refl _) _ _ _ _ k1' k4
  rw [show args.toList.toArray = args by simp] at hcall
  refine hcall.mono fun e w' hp => ?_
  obtain ⟨v', σ', rfl, hv, hinv, hst, _⟩ := hp
  rw [hv.bool_left]
  have hbel : Below w.heap.size w w' := ⟨hst.os, hst.tape, hst.output, hst.size, fun k hk => hst.block k (by omega)⟩
  have hlt : ∀ x ∈ p, x.block < w.heap.size := fun x hx => by
    have := hW'.lt x (by simpa using hx)
    simpa using this
  have hs := hspec ds (by simpa using trodAll_length hA)
  refine ⟨_, rfl, _, _, _, [], p, [], hW', ?_, ?_, ?_, hbel.frame _, fun h => by cases h⟩
  · rw [List.append_nil, hs, hres]
    exact trodAll_mk1 (shut_bool hb true)
  · rw [List.append_nil, hs]
    exact trodAll_stays hlaid hbel hread hA hlt
  · rw [List.append_nil, hs, hvars]
    rfl

/-- A slice of flat data. -/
theorem Rep.sl {t : Ty} {H : Heap} {l : List t.den} {cs : List Value} {α : Type} (f : t.den → α) (enc : α → List Value) (he : ∀ H x c, Rep t H x c → c = enc (f x)) (h : Rep (.slice t) H l cs) :
    ∃ p cap, cs = [.slice p (l.map f).length cap] ∧ Sl H enc t.size p (l.map f) ∧ l.length < 2 ^ 63 := by
  obtain ⟨h0, p, cap, e, h1, h2⟩ := h
  have hlen : l.length < 2 ^ 63 := by unfold maxLen at h0; omega
  refine ⟨p, cap, by rw [e, List.length_map], ?_, hlen⟩
  cases p with
  | none => simp only [Sl]; rw [(h1 rfl).1]; rfl
  | some a =>
    obtain ⟨k1, k2, k3, k4⟩ := h2 a rfl
    refine ⟨k1, fun hn => ?_⟩
    obtain ⟨es, m1, m2, m3⟩ := k4 (by rintro rfl; exact hn rfl)
    have key : es.flatten = (l.map f).flatMap enc := by
      have : es = l.map fun x => enc (f x) := by
        apply List.ext_getElem (by simpa using m2)
        intro i i1 i2
        have i3 : i < l.length := by simpa using i2
        have := he _ _ _ (m3 i l[i] es[i] (List.getElem?_eq_getElem _) (List.getElem?_eq_getElem _))
        rw [this]; simp
      rw [this, List.flatMap_def, List.map_map]
      rfl
    have hfl : es.flatten.length = l.length * t.size := by
      have : ∀ (es : List (List Value)), (∀ x ∈ es, x.length = t.size) → es.flatten.length = es.length * t.size := by
        intro es
        induction es with
        | nil => simp
        | cons x es ih => intro h; simp [ih fun y hy => h y (by simp [hy]), h x (by simp), Nat.add_mul, Nat.add_comm]
      rw [this es, m2]
      intro x hx
      obtain ⟨i, hi, rfl⟩ := List.mem_iff_getElem.1 hx
      exact (m3 i _ _ (List.getElem?_eq_getElem (by omega)) (List.getElem?_eq_getElem hi)).len
    refine ⟨true, _, m1, ?_, ?_⟩
    · rw [k2, hfl, List.length_map]; omega
    · rw [k2, List.drop_zero, key, List.take_of_length_le]
      rw [← key, hfl, List.length_map]
      exact Nat.le_refl _
theorem Rep.slice_mem {t : Ty} {H : Heap} {l : List t.den} {cs : List Value} (h : Rep (.slice t) H l cs) : ∀ x ∈ l, ∃ c, Rep t H x c := by
  intro x hx
  obtain ⟨h0, p, cap, e, h1, h2⟩ := h
  cases p with
  | none => rw [(h1 rfl).1] at hx; simp at hx
  | some a =>
    obtain ⟨k1, k2, k3, k4⟩ := h2 a rfl
    obtain ⟨es, m1, m2, m3⟩ := k4 (by rintro rfl; simp at hx)
    obtain ⟨i, hi, rfl⟩ := List.mem_iff_getElem.1 hx
    exact ⟨_, m3 i _ _ (List.getElem?_eq_getElem hi) (List.getElem?_eq_getElem (by omega))⟩
end Go.AM
