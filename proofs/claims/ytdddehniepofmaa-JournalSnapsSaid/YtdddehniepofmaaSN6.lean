/-
  Joined texts, 6 of 9. A part of the claim that the last text states.
-/
import Derived.Test.YtdddehniepofmaaSN5
namespace Go.Proofs.Ytdddehniepofmaa.Fn
open Go.AM Go.AM.Sym
set_option maxRecDepth 100000
set_option linter.unusedVariables false
set_option linter.unusedSimpArgs false
set_option maxHeartbeats 4000000

def toS (l : List UInt8) : Sec := if h : l.length = 32 then ⟨l.toArray, by simpa using h⟩ else Vector.replicate 32 0
theorem encX_toS {l : List UInt8} (h : l.length = 32) : encX (toS l) = l.map u8 := by
  unfold toS encX
  rw [dif_pos h]
  rfl
theorem toS_list {l : List UInt8} (h : l.length = 32) : (toS l).toList = l := by
  unfold toS
  rw [dif_pos h]
  rfl
def mkSec (e lf n : Nat) (x : Nat × List UInt8) : Sec := toS (putN (putN (putN (psec x) 0 e 4) 4 lf 4) 8 n 4)
/-- The writes of some pieces, from the number n on. -/
def wrsOf (base e lf : Nat) : Nat → List (Nat × List UInt8) → List Wr
  | _, [] => []
  | n, x :: r => ⟨((base + n : Nat) : Int), mkSec e lf n x⟩ :: wrsOf base e lf (n + 1) r
theorem wrsOf_len {base e lf : Nat} : ∀ (r : List (Nat × List UInt8)) (n : Nat), (wrsOf base e lf n r).length = r.length
  | [], _ => rfl
  | x :: r, n => by rw [wrsOf, List.length_cons, List.length_cons, wrsOf_len r]
theorem size_ok {mp : Bool} {lim D n c : Nat} {sp : Option Addr} {ro : Bool} {r : List Value} {H : Heap} {Q : Value → Heap → Prop} (hD : hget H D = .cells ro (.slice sp n c :: r)) (hn : n < 2 ^ 60) :
    CallR E mp lim 44 [.pointer (some ⟨D, 0, none⟩)] H Q = Q (.int .i64 ((n / 2 : Nat) : Int)) H := by
  refine pc (by decide) e44 rfl rfl ?_
  rw [b44, c44]
  have hD' := fun X => (Ext.refl.app (X := X)).cells hD
  have hw : IntKind.i64.wrap (Int.tdiv (n : Int) 2) = ((n / 2 : Nat) : Int) := by
    rw [show Int.tdiv (n : Int) 2 = ((n / 2 : Nat) : Int) from rfl]
    exact wrap_id (by omega) (by omega)
  simp only [n44, r44, hD', hw, SB, Nat.reduceLT, callee, aOp, ne_eq, Nat.reduceEqDiff, aBin, aUn, if_true, if_false, reduceCtorEq, frame0, place, notTuple, Nat.reduceAdd, Nat.reduceLeDiff, resVal, dite_true, dite_false, Int.reduceEq, Int.reduceLT, Int.reduceLE]

/-- A journal and its disk, as they lie. -/
structure JLies (lim : Nat) (H : Heap) (J D area e lf n sn sc : Nat) (sp pp : Option Addr) (cp : Nat) (pend : List Wr) : Prop where
  j : hget H J = .cells false [.pointer (some ⟨D, 0, none⟩), .int .i64 (area : Int), .int .i64 (e : Int), .int .i64 (lf : Int), .int .i64 (n : Int)]
  d : hget H D = .cells false [.slice sp sn sc, .slice pp pend.length cp]
  own : Own lim H encW 33 pp cp pend
  lJ : lim ≤ J
  lD : lim ≤ D
  JD : J ≠ D
  ap : ∀ a, pp = some a → a.block ≠ J ∧ a.block ≠ D
def blk (p : Option Addr) : List Nat := match p with | none => [] | some a => [a.block]

/-- What holds while a record is written. -/
structure WSt (lim : Nat) (H : Heap) (L0 : List Nat) (J D area e lf sn sc : Nat) (sp : Option Addr) (fr0 : Nat → Value) (st m cp : Nat) (pp : Option Addr) (pend : List Wr) (G : Heap) : Prop where
  lies : JLies lim G J D area e lf m sn sc sp pp cp pend
  loop : hget G (H.length + 3) = .loop ⟨st, none, fr0, 62, [7], ga45_1, gb45_1⟩
  dfr : hget G (H.length + 2) = .dfr
  box : hget G H.length = .cells false [.pointer (some ⟨J, 0, none⟩)]
  chg : Chg (J :: D :: L0) H G
  len : H.length + 4 ≤ G.length
  new : ∀ a, pp = some a → a.block ∉ L0 → H.length + 4 ≤ a.block
  old : ∀ j ∈ L0, j < H.length
  lJ : J < H.length
  lD : D < H.length
theorem WSt.to {lim : Nat} {H : Heap} {L0 : List Nat} {J D area e lf sn sc : Nat} {sp : Option Addr} {fr0 : Nat → Value} {st m cp : Nat} {pp : Option Addr} {pend : List Wr} {G G' : Heap} (h : WSt lim H L0 J D area e lf sn sc sp fr0 st m cp pp pend G) {L : List Nat} (hC : Chg L G G') (hL : ∀ j ∈ L, (j = H.length + 1 ∨ H.length + 4 ≤ j) ∧ ∀ a, pp = some a → a.block ≠ j) : WSt lim H L0 J D area e lf sn sc sp fr0 st m cp pp pend G' := by
  have lJ := h.lJ
  have lD := h.lD
  have len := h.len
  have nin : ∀ j, j < H.length + 4 → j ≠ H.length + 1 → j ∉ L := fun j h1 h2 h3 => by have := (hL j h3).1; omega
  have hl := hC.len
  refine ⟨⟨hC.cells h.lies.j (nin _ (by omega) (by omega)), hC.cells h.lies.d (nin _ (by omega) (by omega)), h.lies.own.chg hC fun a e hh => (hL _ hh).2 a e rfl, h.lies.lJ, h.lies.lD, h.lies.JD, h.lies.ap⟩, hC.get h.loop (by omega) (nin _ (by omega) (by omega)), hC.get h.dfr (by omega) (nin _ (by omega) (by omega)), hC.get h.box (by omega) (nin _ (by omega) (by omega)), h.chg.trans' hC (fun j h1 h2 => by have := (hL j h1).1; omega), by omega, h.new, h.old, lJ, lD⟩

theorem pcsGo_len : ∀ (f fl : Nat) (b : List UInt8), (pcsGo f fl b).length ≤ f
  | 0, _, _ => Nat.le_refl _
  | f + 1, fl, b => by
    simp only [pcsGo]
    split
    · simp
    · have := pcsGo_len f 0 (b.drop 18)
      simp; omega
theorem pcs_len (b : List UInt8) (h : b.length < 2 ^ 20) : (pcs b).length ≤ 2 ^ 20 := by
  have := pcsGo_len (b.length + 1) 1 b
  unfold pcs; omega
theorem WSt.own_ne {lim : Nat} {H : Heap} {L0 : List Nat} {J D area e lf sn sc : Nat} {sp : Option Addr} {fr0 : Nat → Value} {st m cp : Nat} {pp : Option Addr} {pend : List Wr} {G : Heap} (h : WSt lim H L0 J D area e lf sn sc sp fr0 st m cp pp pend G) {j : Nat} (h1 : H.length ≤ j) (h2 : j < H.length + 4 ∨ G.length ≤ j) : ∀ a, pp = some a → a.block ≠ j := fun a e => by
  have hb := (h.lies.own.block e).2
  by_cases hh : a.block ∈ L0
  · have := h.old _ hh; omega
  · have := h.new a e hh; omega
theorem WSt.turn {lim : Nat} {H : Heap} {L0 : List Nat} {J D area e lf sn sc : Nat} {sp : Option Addr} {fr0 : Nat → Value} {st st' m cp : Nat} {pp : Option Addr} {pend : List Wr} {G G' : Heap} (h : WSt lim H L0 J D area e lf sn sc sp fr0 st m cp pp pend G) (hm : Mut G G' (H.length + 3)) (hl : hget G' (H.length + 3) = .loop ⟨st', none, fr0, 62, [7], ga45_1, gb45_1⟩) : WSt lim H L0 J D area e lf sn sc sp fr0 st' m cp pp pend G' := by
  have lJ := h.lJ
  have lD := h.lD
  exact ⟨⟨hm.cells h.lies.j (by omega), hm.cells h.lies.d (by omega), h.lies.own.mut hm (h.own_ne (by omega) (.inl (by omega))), h.lies.lJ, h.lies.lD, h.lies.JD, h.lies.ap⟩, hl, hm.alive h.dfr (by omega), hm.cells h.box (by omega), h.chg.mut hm (.inr (by omega)), by rw [hm.len]; exact h.len, h.new, h.old, lJ, lD⟩
theorem WSt.app' {lim : Nat} {H : Heap} {L0 : List Nat} {J D area e lf sn sc : Nat} {sp : Option Addr} {fr0 : Nat → Value} {st m cp : Nat} {pp : Option Addr} {pend : List Wr} {G : Heap} (h : WSt lim H L0 J D area e lf sn sc sp fr0 st m cp pp pend G) : WSt lim H L0 J D area e lf sn sc sp fr0 st m cp pp pend (G ++ []) := by
  rw [List.append_nil]; exact h
theorem setParams_one {fr : Nat → Value} {p : Nat} {v : Value} : setParams fr [p] [v] = upd fr p v := rfl
theorem round_ok {lim : Nat} {H : Heap} {L0 : List Nat} {J D area e lf sn sc : Nat} {sp : Option Addr} {fr0 : Nat → Value} {m cp : Nat} {pp : Option Addr} {pend tot : List Wr} {G : Heap} {x : Nat × List UInt8} {rest : List (Nat × List UInt8)} {K : List Nat} {N M : Nat}
    (f2 : fr0 2 = .pointer (some ⟨H.length, 0, none⟩)) (hx : x.2.length ≤ 18) (hx1 : x.1 ≤ 3) (k1 : WSt lim H L0 J D area e lf sn sc sp fr0 0 m cp pp pend G) (k2 : pend ++ wrsOf (area * (sn / 2)) e lf m (x :: rest) = tot) (k3 : m + (x :: rest).length = N) (k4 : pend.length + (x :: rest).length = M)
    (hm : m < 2 ^ 40) (hsn : sn < 2 ^ 30) (har : area ≤ 1) (hpe : pend.length < 2 ^ 34) (hK : ∀ j ∈ K, j < H.length + 2 ∧ j ≠ J ∧ j ≠ D ∧ j ∉ L0) :
    CallY E false lim (H.length + 3) [.agg ((psec x).map u8).toArray] G fun v H' => v = .bool true ∧ (∃ (m cp' : Nat) (pp' : Option Addr) (pend' : List Wr), WSt lim H L0 J D area e lf sn sc sp fr0 0 m cp' pp' pend' H' ∧ pend' ++ wrsOf (area * (sn / 2)) e lf m rest = tot ∧ m + rest.length = N ∧ pend'.length + rest.length = M) ∧ G.length ≤ H'.length ∧ ∀ j ∈ K, hget H' j = hget G j := by
  have lJ := k1.lJ
  have lD := k1.lD
  have len := k1.len
  have llJ := k1.lies.lJ
  rw [CallY_run k1.loop (by omega) rfl (by rfl), setParams_one]
  have hpl : ((psec x).map u8).length = 32 := by rw [List.length_map]; exact psec_len hx
  obtain ⟨G1, e1, h1, m1⟩ := mut_set (G := G) (R := H.length + 3) (by omega) (.loop ⟨1, none, fr0, 62, [7], ga45_1, gb45_1⟩)
  have gY := fun X => (Ext.refl.app (X := X)).get' k1.loop (by omega)
  have hlG : lim ≤ G.length := by omega
  refine Ret_pad ?_
  rw [Ret_code ga45_1.eq_1]
  simp only [f2, hpl, setAll_full, hlG, gY, e1, show lim ≤ H.length + 3 by omega, SB, Nat.reduceLT, callee, aOp, ne_eq, Nat.reduceEqDiff, aBin, aUn, if_true, if_false, reduceCtorEq, frame0, place, notTuple, Nat.reduceAdd, Nat.reduceLeDiff, resVal, dite_true, dite_false, Int.reduceEq, Int.reduceLT, Int.reduceLE]
  have w1 := (k1.turn m1 h1).to (Chg.refl.app (X := [.cells false ((psec x).map u8)])) (L := []) (by simp)
  have R1 : hget (G1 ++ [.cells false ((psec x).map u8)]) G.length = .cells false ((psec x).map u8) := by rw [← m1.len]; exact hget_new0
  have hw : ∀ {G : Heap} {st m cp : Nat} {pp : Option Addr} {pend : List Wr}, WSt lim H L0 J D area e lf sn sc sp fr0 st m cp pp pend G → ∀ X : Heap, hget (G ++ X) H.length = .cells false [.pointer (some ⟨J, 0, none⟩)] ∧ hget (G ++ X) J = .cells false [.pointer (some ⟨D, 0, none⟩), .int .i64 (area : Int), .int .i64 (e : Int), .int .i64 (lf : Int), .int .i64 (m : Int)] := fun k X => ⟨(Ext.refl.app).cells k.box, (Ext.refl.app).cells k.lies.j⟩
  have lG1 : (G1 ++ [Blk.cells false ((psec x).map u8)]).length = G.length + 1 := by simp [m1.len]
  have o2 : ∀ j, j < G.length → j ≠ H.length + 3 → hget (G1 ++ [Blk.cells false ((psec x).map u8)]) j = hget G j := fun j h1 h2 => by
    rw [hget_old (by rw [m1.len]; exact h1)]; exact m1.other j h2
  generalize G1 ++ [Blk.cells false ((psec x).map u8)] = G2 at w1 R1 lG1 o2
  rw [Ret_code gb45_1.eq_1]
  refine Ret_pad ?_
  have q1 := fun X => (hw w1 X).1
  have q2 := fun X => (hw w1 X).2
  simp only [f2, q1, q2, SB, Nat.reduceLT, callee, aOp, ne_eq, Nat.reduceEqDiff, aBin, aUn, if_true, if_false, reduceCtorEq, frame0, place, notTuple, Nat.reduceAdd, Nat.reduceLeDiff, resVal, dite_true, dite_false, Int.reduceEq, Int.reduceLT, Int.reduceLE]
  refine put_ok (l := psec x) (at' := 0) (n := e) ((Ext.refl.app).cells R1) (psec_len hx) hlG (by decide) fun G3 c3 l3 R3 => ?_
  rw [List.append_nil] at c3 l3
  have w2 := w1.to c3 (fun j hj => by simp only [List.mem_singleton] at hj; subst hj; exact ⟨.inr (by omega), fun a e => by have := k1.own_ne (j := G.length) (by omega) (.inr (Nat.le_refl _)) a e; exact this⟩)
  have q1 := fun X => (hw w2 X).1
  have q2 := fun X => (hw w2 X).2
  simp only [f2, q1, q2, SB, Nat.reduceLT, callee, aOp, ne_eq, Nat.reduceEqDiff, aBin, aUn, if_true, if_false, reduceCtorEq, frame0, place, notTuple, Nat.reduceAdd, Nat.reduceLeDiff, resVal, dite_true, dite_false, Int.reduceEq, Int.reduceLT, Int.reduceLE]
  refine put_ok (l := putN (psec x) 0 e 4) (at' := 4) (n := lf) ((Ext.refl.app).cells R3) (by rw [putN_len]; exact psec_len hx) hlG (by decide) fun G4 c4 l4 R4 => ?_
  rw [List.append_nil] at c4 l4
  have w3 := w2.to c4 (fun j hj => by simp only [List.mem_singleton] at hj; subst hj; exact ⟨.inr (by omega), fun a e => by have := k1.own_ne (j := G.length) (by omega) (.inr (Nat.le_refl _)) a e; exact this⟩)
  have q1 := fun X => (hw w3 X).1
  have q2 := fun X => (hw w3 X).2
  simp only [f2, q1, q2, SB, Nat.reduceLT, callee, aOp, ne_eq, Nat.reduceEqDiff, aBin, aUn, if_true, if_false, reduceCtorEq, frame0, place, notTuple, Nat.reduceAdd, Nat.reduceLeDiff, resVal, dite_true, dite_false, Int.reduceEq, Int.reduceLT, Int.reduceLE]
  refine put_ok (l := putN (putN (psec x) 0 e 4) 4 lf 4) (at' := 8) (n := m) ((Ext.refl.app).cells R4) (by rw [putN_len, putN_len]; exact psec_len hx) hlG (by decide) fun G5 c5 l5 R5 => ?_
  rw [List.append_nil] at c5 l5
  have w4 := w3.to c5 (fun j hj => by simp only [List.mem_singleton] at hj; subst hj; exact ⟨.inr (by omega), fun a e => by have := k1.own_ne (j := G.length) (by omega) (.inr (Nat.le_refl _)) a e; exact this⟩)
  have q1 := fun X => (hw w4 X).1
  have q2 := fun X => (hw w4 X).2
  have q3 := fun X => (Ext.refl.app (X := X)).cells w4.lies.d
  have q4 := fun X => (Ext.refl.app (X := X)).cells R5
  have sz := fun X (mp : Bool) (lim : Nat) (Q : Value → Heap → Prop) => size_ok (mp := mp) (lim := lim) (Q := Q) (q3 X) (by omega)
  have hls : (putN (putN (putN (psec x) 0 e 4) 4 lf 4) 8 m 4).length = 32 := by rw [putN_len, putN_len, putN_len]; exact psec_len hx
  have hlm : ((putN (putN (putN (psec x) 0 e 4) 4 lf 4) 8 m 4).map u8).length = 32 := by rw [List.length_map]; exact hls
  have hmul : area * (sn / 2) < 2 ^ 30 := by
    rcases (show area = 0 ∨ area = 1 by omega) with rfl | rfl <;> omega
  have wm : IntKind.i64.wrap ((area : Int) * ((sn / 2 : Nat) : Int)) = ((area * (sn / 2) : Nat) : Int) := by
    rw [← Int.natCast_mul]; exact wrap_id (by omega) (by omega)
  have wp : IntKind.i64.wrap (((area * (sn / 2) : Nat) : Int) + (m : Int)) = ((area * (sn / 2) + m : Nat) : Int) := by rw [wrap_id (by omega) (by omega)]; omega
  have wm1 : IntKind.i64.wrap ((m : Int) + 1) = ((m + 1 : Nat) : Int) := wrap_nat (by omega)
  have ew : Value.int .i64 ((area * (sn / 2) + m : Nat) : Int) :: (putN (putN (putN (psec x) 0 e 4) 4 lf 4) 8 m 4).map u8 = encW ⟨((area * (sn / 2) + m : Nat) : Int), mkSec e lf m x⟩ := by
    rw [encW_mk]; unfold mkSec; rw [encX_toS hls]
  generalize hWr : (⟨((area * (sn / 2) + m : Nat) : Int), mkSec e lf m x⟩ : Wr) = w at ew
  obtain ⟨G6, p6, c6, e6, O6, C6, hold6, l6, hp6, _⟩ := w4.lies.own.moreD (d := G5.length + 1) (lim' := lim) (bytes := 40) (Nat.le_refl _) encW_len (by decide) [w] (by unfold maxBytes; simp; omega) (by simp; omega) (by omega) [.cells false (encW w), .dead] (by omega) (by simp) (x := .slice (some ⟨G5.length, 0, none⟩) 1 1) (str := false)
    (first_slice (m := [w]) (Sl.row encW_len (by rw [hget_new0]; simp; rfl))) rfl
  rw [← w4.lies.own.appL] at e6
  simp only [List.length_cons, List.length_nil, Nat.zero_add] at e6
  have ap := w4.lies.ap
  have JD := w4.lies.JD
  have bx6 : hget (G6 ++ []) H.length = _ := (hold6 H.length (by omega) (fun a e => (k1.own_ne (j := H.length) (by omega) (.inl (by omega)) a e).symm)).trans w4.box
  have j6 : hget (G6 ++ []) J = _ := (hold6 J (by omega) (fun a e => (ap a e).1.symm)).trans w4.lies.j
  have d6 : hget (G6 ++ []) D = _ := (hold6 D (by omega) (fun a e => (ap a e).2.symm)).trans w4.lies.d
  have d6' := d6
  rw [List.append_nil] at d6'
  obtain ⟨G7, e7, d7, m7⟩ := mut_set (hget_alive d6') (.cells false [.slice sp sn sc, .slice p6 (pend.length + 1) c6])
  have bx7 := fun X => (Ext.refl.app (X := X)).cells (m7.cells (by rw [← List.append_nil G6]; exact bx6) (by omega : H.length ≠ D))
  have j7' : hget G7 J = _ := m7.cells (by rw [← List.append_nil G6]; exact j6) JD
  have j7 := fun X => (Ext.refl.app (X := X)).cells j7'
  obtain ⟨G8, e8, d8, m8⟩ := mut_set (hget_alive j7') (.cells false [.pointer (some ⟨D, 0, none⟩), .int .i64 (area : Int), .int .i64 (e : Int), .int .i64 (lf : Int), .int .i64 ((m + 1 : Nat) : Int)])
  have hlD := k1.lies.lD
  have ne1 : ¬ H.length = G5.length := by omega
  have ne2 : ¬ H.length = G5.length + 1 := by omega
  have ne3 : ¬ J = G5.length := by omega
  have ne4 : ¬ J = G5.length + 1 := by omega
  have hun : unmaskH G5.length [0, 1] (G6 ++ []) (((G6 ++ []).set G5.length .dead).set (G5.length + 1) .dead) = G6 ++ [] := unmask_mask G5.length [0, 1] (G6 ++ [])
  have y6 : hget (G6 ++ []) (H.length + 3) = _ := (hold6 (H.length + 3) (by omega) (fun a e => (k1.own_ne (j := H.length + 3) (by omega) (.inl (by omega)) a e).symm)).trans w4.loop
  have y6' := y6
  rw [List.append_nil] at y6'
  have y8 : hget G8 (H.length + 3) = _ := m8.alive (m7.alive y6' (by omega)) (by omega)
  have yl : H.length + 3 < G8.length := by have := m8.len; have := m7.len; omega
  have y8' := (Ext.refl.app (X := [])).get' y8 yl
  obtain ⟨G9, e9, d9, m9⟩ := mut_set (G := G8) yl (.loop ⟨0, none, fr0, 62, [7], ga45_1, gb45_1⟩)
  simp only [hun, hget_set_ne, ne1, ne2, ne3, ne4, f2, q1, q2, q3, sz, q4, hlm, take_all, setAll_full, wm, wp, ew, encW_len, e6, bx6, j6, d6, e7, bx7, j7, e8, wm1, hlD, llJ, y8', e9, show lim ≤ H.length + 3 by omega, SB, Nat.reduceLT, callee, aOp, ne_eq, Nat.reduceEqDiff, aBin, aUn, if_true, if_false, reduceCtorEq, frame0, place, notTuple, Nat.reduceAdd, Nat.reduceLeDiff, resVal, dite_true, dite_false, Int.reduceEq, Int.reduceLT, Int.reduceLE]
  have own6 := O6
  rw [List.append_nil] at own6
  have hp6 := hp6 (by simp)
  have nb : ∀ j, j < G5.length → ∀ a, p6 = some a → a.block ≠ j := by
    intro j hj a e
    rw [hp6] at e; cases e
    show G5.length + 1 ≠ j
    omega
  have own9 : Own lim G9 encW 33 p6 c6 (pend ++ [w]) := ((own6.mut m7 (nb D (by omega))).mut m8 (nb J (by omega))).mut m9 (nb _ (by omega))
  have l9 : G9.length = G6.length := by rw [m9.len, m8.len, m7.len]
  have D9 : hget G9 D = .cells false [.slice sp sn sc, .slice p6 (pend.length + 1) c6] := m9.cells (m8.cells d7 JD.symm) (by omega)
  have J9 : hget G9 J = _ := m9.cells d8 (by omega)
  have pj : ∀ j, j < H.length + 4 → j ∉ L0 → ∀ a, pp = some a → j ≠ a.block := fun j h1 h2 a e hh => by
    subst hh
    have := k1.new a e h2
    omega
  have g95 : ∀ j, j < H.length + 4 → j ≠ H.length + 3 → j ≠ J → j ≠ D → j ∉ L0 → hget G9 j = hget G5 j := fun j h1 h2 h3 h4 h5 => by
    rw [m9.other j h2, m8.other j h3, m7.other j h4, ← hold6 j (by omega) (pj j h1 h5), List.append_nil]
  have g5 : ∀ j, j < G.length → j ≠ H.length + 3 → hget G5 j = hget G j := fun j h1 h2 => by
    rw [c5.other j (by omega) (by simp; omega), c4.other j (by omega) (by simp; omega), c3.other j (by omega) (by simp; omega), o2 j h1 h2]
  have cA : Chg (J :: D :: L0) H G9 := ⟨by omega, fun j hj hA => by
    simp only [List.mem_cons, not_or] at hA
    rw [g95 j (by omega) (by omega) hA.1 hA.2.1 hA.2.2, g5 j (by omega) (by omega)]
    exact k1.chg.other j hj (by simp only [List.mem_cons, not_or]; exact hA)⟩
  have old7 : ∀ j, j < G.length → j ≠ H.length + 3 → j ≠ J → j ≠ D → (∀ a, pp = some a → j ≠ a.block) → hget G9 j = hget G j := fun j h1 h2 h3 h4 h5 => by
    rw [m9.other j h2, m8.other j h3, m7.other j h4, ← g5 j h1 h2, ← hold6 j (by omega) h5, List.append_nil]
  have dfr9 : hget G9 (H.length + 2) = .dfr := (old7 _ (by omega) (by omega) (by omega) (by omega) (fun a e => (k1.own_ne (j := H.length + 2) (by omega) (.inl (by omega)) a e).symm)).trans k1.dfr
  have box9 : hget G9 H.length = _ := (old7 _ (by omega) (by omega) (by omega) (by omega) (fun a e => (k1.own_ne (j := H.length) (by omega) (.inl (by omega)) a e).symm)).trans k1.box
  have wst : WSt lim H L0 J D area e lf sn sc sp fr0 0 (m + 1) c6 p6 (pend ++ [w]) G9 :=
    ⟨⟨J9, by rw [List.length_append]; exact D9, own9, llJ, hlD, JD, fun a e => ⟨nb J (by omega) a e, nb D (by omega) a e⟩⟩, d9, dfr9, box9, cA, by omega, fun a e _ => by rw [hp6] at e; cases e; show H.length + 4 ≤ G5.length + 1; omega, k1.old, lJ, lD⟩
  refine ⟨⟨m + 1, c6, p6, pend ++ [w], wst.app', ?_, ?_, ?_⟩, by omega, fun j hj => ?_⟩
  · rw [← k2, wrsOf, ← hWr, List.append_assoc]; rfl
  · rw [← k3, List.length_cons]; omega
  · rw [← k4, List.length_cons, List.length_append, List.length_singleton]; omega
  · obtain ⟨q1, q2, q3, q4⟩ := hK j hj
    rw [hget_old (by omega)]
    exact old7 j (by omega) (by omega) q2 q3 (pj j (by omega) q4)
theorem write_ok {lim J D area e lf n sn sc cp c : Nat} {sp pp p : Option Addr} {pend : List Wr} {b : List UInt8} {H : Heap} {Q : Value → Heap → Prop}
    (h : JLies lim H J D area e lf n sn sc sp pp cp pend) (hs : Sl H encb 1 p b) (hc : CapOk 1 c b.length) (hz : b = [] → p = none) (hp : ∀ a, p = some a → b ≠ [] → a.block ≠ J ∧ a.block ≠ D ∧ a.block ∉ blk pp) (hb : b.length < 2 ^ 20) (hpe : pend.length < 2 ^ 30) (hnn : n < 2 ^ 30) (hsn : sn < 2 ^ 30) (har : area ≤ 1)
    (hQ : ∀ H' pp' cp', Chg (J :: D :: blk pp) H H' → JLies lim H' J D area e lf (n + (pcs b).length) sn sc sp pp' cp' (pend ++ wrsOf (area * (sn / 2)) e lf n (pcs b)) → (∀ a, pp' = some a → a.block ∉ blk pp → H.length ≤ a.block) → Q (.tuple #[]) (H' ++ [])) :
    CallR E false lim 45 [.pointer (some ⟨J, 0, none⟩), .slice p b.length c] H Q := by
  refine runs (by decide) e45 rfl ?_
  rw [b45, c45]
  simp only [n45, r45, SB, Nat.reduceLT, callee, aOp, ne_eq, Nat.reduceEqDiff, aBin, aUn, if_true, if_false, reduceCtorEq, frame0, place, notTuple, Nat.reduceAdd, Nat.reduceLeDiff, resVal, dite_true, dite_false, Int.reduceEq, Int.reduceLT, Int.reduceLE]
  have h52 : ∀ (X : Heap) (Q : Value → Heap → Prop), CallR E false lim 52 [.slice p b.length c] (H ++ X) Q = Q (.func (.func 60) #[] #[.pointer (some ⟨H.length + X.length, 0, none⟩)]) (H ++ (X ++ [.cells false [.slice p b.length c]])) := by
    intro X Q
    rw [CallR_run (E := E) (by simp [E, orc]) (show E.tr 52 = some a52 from e52) rfl rfl, b52, c52]
    simp only [n52, r52, SB, Nat.reduceLT, callee, aOp, ne_eq, Nat.reduceEqDiff, aBin, aUn, if_true, if_false, reduceCtorEq, frame0, place, notTuple, Nat.reduceAdd, Nat.reduceLeDiff, resVal, dite_true, dite_false, Int.reduceEq, Int.reduceLT, Int.reduceLE]
  have key : ∀ fr0 : Nat → Value, fr0 2 = .pointer (some ⟨H.length, 0, none⟩) → CallR E false lim 60 [.func (.yield (H.length + 3)) #[] #[], .pointer (some ⟨H.length + 1, 0, none⟩)]
      (H ++ [Blk.cells false [Value.pointer (some ⟨J, 0, none⟩)], .cells false [.slice p b.length c], .dfr, .loop ⟨0, none, fr0, 62, [7], ga45_1, gb45_1⟩])
      fun x H2 => endK (hget H2 ((H ++ [Blk.cells false [Value.pointer (some ⟨J, 0, none⟩)], .cells false [.slice p b.length c]]).length + 1)) fun x => Ret E a45 lim (pendI x ++ ([.inBlock 0, .code .retM] ++ [.mark (H ++ [Blk.cells false [Value.pointer (some ⟨J, 0, none⟩)], .cells false [.slice p b.length c]]).length])) fr0
        (H2.set ((H ++ [Blk.cells false [Value.pointer (some ⟨J, 0, none⟩)], .cells false [.slice p b.length c]]).length + 1) .dead) Q := by
    intro fr0 f2
    have hJl := hget_alive h.j
    have hDl := hget_alive h.d
    -- what holds between two rounds
    have hold : ∀ j ∈ blk pp, j < H.length := fun j hj => by
      cases hpp : pp with
      | none => rw [hpp] at hj; simp [blk] at hj
      | some a0 =>
        rw [hpp] at hj; simp only [blk, List.mem_singleton] at hj
        rw [hj]; exact (h.own.block hpp).2
    have notBx : ∀ {G : Heap} {m cp' : Nat} {pp' : Option Addr} {pend' : List Wr} {st : Nat}, WSt lim H (blk pp) J D area e lf sn sc sp fr0 st m cp' pp' pend' G → ∀ a, pp' = some a → a.block ≠ H.length + 1 := fun k a e hh => by
      by_cases hb' : a.block ∈ blk pp
      · have := hold _ hb'; omega
      · have := k.new a e hb'; omega
    refine pieces_rule (fun rest G => ∃ (m cp' : Nat) (pp' : Option Addr) (pend' : List Wr), WSt lim H (blk pp) J D area e lf sn sc sp fr0 0 m cp' pp' pend' G ∧ pend' ++ wrsOf (area * (sn / 2)) e lf m rest = pend ++ wrsOf (area * (sn / 2)) e lf n (pcs b) ∧ m + rest.length = n + (pcs b).length ∧ pend'.length + rest.length = pend.length + (pcs b).length)
      ((H.length + 1) :: (match p with | none => [] | some a => if b = [] then [] else [a.block])) ?_ ?_ (by rw [hget_new]; rfl) (by have := h.lJ; omega) (by simp) (hs.app _) hc hz ?_ (by omega) ?_ ?_
    · -- the iterator's own writes do not matter
      rintro rest G G' ⟨m, cp', pp', pend', k1, k2, k3, k4⟩ hC
      exact ⟨m, cp', pp', pend', k1.to hC (fun j hj => by simp only [List.mem_singleton] at hj; subst hj; exact ⟨.inl rfl, notBx k1⟩), k2, k3, k4⟩
    · -- a round
      have hpl : (pcs b).length ≤ 2 ^ 20 := pcs_len _ hb
      rintro x rest G hx hx1 ⟨m, cp', pp', pend', k1, k2, k3, k4⟩
      exact round_ok f2 hx hx1 k1 k2 k3 k4 (by simp at k3; omega) hsn har (by omega) (fun j hj => by
        simp only [List.mem_cons] at hj
        rcases hj with rfl | hj
        · exact ⟨by omega, by omega, by omega, fun h => by have := hold _ h; omega⟩
        · cases p with
          | none => simp at hj
          | some a =>
            simp only at hj
            split at hj
            · simp at hj
            · rename_i hne
              simp only [List.mem_singleton] at hj
              subst hj
              have := hs.lt hne
              have := hp a rfl hne
              exact ⟨by omega, this.1, this.2.1, this.2.2⟩)
    · intro a e hn
      subst e
      simp only [hn, if_false]
      refine ⟨by simp, ?_⟩
      have := hs.lt hn
      omega
    · refine ⟨n, cp, pp, pend, ⟨⟨(Ext.refl.app).cells h.j, (Ext.refl.app).cells h.d, h.own.app _, h.lJ, h.lD, h.JD, h.ap⟩, by rw [hget_new]; rfl, by rw [hget_new]; rfl, by rw [hget_new0]; rfl, Chg.refl.app, by simp, fun a e hh => ?_, hold, hJl, hDl⟩, rfl, rfl, rfl⟩
      subst e
      simp [blk] at hh
    · rintro H' ⟨m, cp', pp', pend', k1, k2, k3, k4⟩
      have hlen := k1.len
      simp only [wrsOf, List.append_nil] at k2
      simp only [List.length_nil, Nat.add_zero] at k3
      obtain ⟨G1, e1, _, m1⟩ := mut_set (G := H') (R := H.length + 3) (by omega) .dead
      have dfr1 : hget G1 (H.length + 2) = .dfr := m1.alive k1.dfr (by omega)
      obtain ⟨G2, e2, _, m2⟩ := mut_set (G := G1) (R := H.length + 2) (by have := m1.len; omega) .dead
      have e1' := e1 []
      have e2' := e2 []
      rw [List.append_nil] at e1' e2'
      have dfr2 := (Ext.refl.app (X := [])).get' dfr1 (by have := m1.len; omega)
      simp only [n45, r45, k1.loop, e1', shut_cons, dfr2, e2', show lim ≤ H.length + 2 by have := h.lJ; omega, SB, Nat.reduceLT, callee, aOp, ne_eq, Nat.reduceEqDiff, aBin, aUn, if_true, if_false, reduceCtorEq, frame0, place, notTuple, Nat.reduceAdd, Nat.reduceLeDiff, resVal, dite_true, dite_false, Int.reduceEq, Int.reduceLT, Int.reduceLE]
      have hm : (H ++ [Blk.cells false [Value.pointer (some ⟨J, 0, none⟩)], Blk.cells false [Value.slice p b.length c]]).length = H.length + 2 := by simp
      rw [hm]
      show Ret E a45 lim (.inBlock 0 :: .code .retM :: .mark (H.length + 2) :: []) fr0 (G1 ++ []) Q
      have e2'' : (G1 ++ []).set (H.length + 2) .dead = G2 ++ [] := e2 []
      have hs := shut_cons (lim := lim) (i := H.length + 2) (l := []) dfr2 (by have := h.lJ; omega)
      rw [e2'', shut_nil] at hs
      have em : ([] : List Nat) ++ [H.length + 2] = [H.length + 2] := rfl
      simp only [n45, r45, em, hs, SB, Nat.reduceLT, callee, aOp, ne_eq, Nat.reduceEqDiff, aBin, aUn, if_true, if_false, reduceCtorEq, frame0, place, notTuple, Nat.reduceAdd, Nat.reduceLeDiff, resVal, dite_true, dite_false, Int.reduceEq, Int.reduceLT, Int.reduceLE]
      have c2 : Chg (J :: D :: blk pp) H G2 := ((k1.chg.mut m1 (.inr (by omega))).mut m2 (.inr (by omega)))
      have own2 : Own lim G2 encW 33 pp' cp' pend' := (k1.lies.own.mut m1 fun a e => by
        by_cases hb' : a.block ∈ blk pp
        · have := hold _ hb'; omega
        · have := k1.new a e hb'; omega).mut m2 fun a e => by
        by_cases hb' : a.block ∈ blk pp
        · have := hold _ hb'; omega
        · have := k1.new a e hb'; omega
      have nn : m = n + (pcs b).length := k3
      rw [k2] at own2
      refine hQ G2 pp' cp' c2 ⟨?_, ?_, own2, h.lJ, h.lD, h.JD, k1.lies.ap⟩ fun a e hh => by have := k1.new a e hh; omega
      · rw [← nn]; exact m2.cells (m1.cells k1.lies.j (by omega)) (by omega)
      · rw [← k2]; exact m2.cells (m1.cells k1.lies.d (by omega)) (by omega)
  simp only [n45, r45, h52, SB, Nat.reduceLT, callee, aOp, ne_eq, Nat.reduceEqDiff, aBin, aUn, if_true, if_false, reduceCtorEq, frame0, place, notTuple, Nat.reduceAdd, Nat.reduceLeDiff, resVal, dite_true, dite_false, Int.reduceEq, Int.reduceLT, Int.reduceLE]
  exact key _ (by simp only [upd_same, upd_ne, ne_eq, Nat.reduceEqDiff, not_false_eq_true, frame0, List.getD_cons_zero, List.getD_cons_succ])
end Go.Proofs.Ytdddehniepofmaa.Fn
namespace Go.Proofs.Ytdddehniepofmaa.Fn
open Go.AM Go.AM.Sym
set_option maxRecDepth 100000
set_option linter.unusedVariables false
set_option linter.unusedSimpArgs false
set_option maxHeartbeats 4000000

theorem max1 {n : Int} : aMinMaxAll true (.int .i64 1) [.int .i64 n] = some (.int .i64 (max 1 n)) := by
  simp only [aMinMaxAll, aMinMax, if_true]
  congr 2
  split <;> omega
def needN (n : Nat) : Nat := max 1 ((n + 17) / 18)
theorem need_ok {mp : Bool} {lim n k : Nat} {p : Option Addr} {H : Heap} {Q : Value → Heap → Prop} (hn : n < 2 ^ 40) : CallR E mp lim 43 [.slice p n k] H Q = Q (.int .i64 (needN n : Int)) H := by
  refine pc (by decide) e43 rfl rfl ?_
  rw [b43, c43]
  have w1 : IntKind.i64.wrap ((n : Int) + 18) = ((n + 18 : Nat) : Int) := by rw [wrap_id (by omega) (by omega)]; omega
  have w2 : IntKind.i64.wrap (((n + 18 : Nat) : Int) - 1) = ((n + 17 : Nat) : Int) := by rw [wrap_id (by omega) (by omega)]; omega
  have w3 : IntKind.i64.wrap (Int.tdiv ((n + 17 : Nat) : Int) 18) = (((n + 17) / 18 : Nat) : Int) := by
    rw [show Int.tdiv ((n + 17 : Nat) : Int) 18 = (((n + 17) / 18 : Nat) : Int) from rfl]
    exact wrap_id (by omega) (by omega)
  have e : max (1 : Int) (((n + 17) / 18 : Nat) : Int) = (needN n : Int) := by unfold needN; omega
  simp only [n43, r43, w1, w2, w3, max1, e, SB, Nat.reduceLT, callee, aOp, ne_eq, Nat.reduceEqDiff, aBin, aUn, if_true, if_false, reduceCtorEq, frame0, place, notTuple, Nat.reduceAdd, Nat.reduceLeDiff, resVal, dite_true, dite_false, Int.reduceEq, Int.reduceLT, Int.reduceLE]
theorem pcsGo_need : ∀ (f fl : Nat) (b : List UInt8), b.length < f → (pcsGo f fl b).length = needN b.length
  | 0, _, b, h => by omega
  | f + 1, fl, b, h => by
    simp only [pcsGo]
    split
    · unfold needN; simp; omega
    · have := pcsGo_need f 0 (b.drop 18) (by simp; omega)
      rw [List.length_cons, this]
      unfold needN
      simp; omega
theorem pcs_need (b : List UInt8) : (pcs b).length = needN b.length := pcsGo_need _ _ _ (Nat.lt_succ_self _)

theorem missing_ok {mp : Bool} {lim J D : Nat} {ro : Bool} {r : List Value} {H : Heap} {Q : Value → Heap → Prop} (hJ : hget H J = .cells ro (.pointer (some ⟨D, 0, none⟩) :: r)) : CallR E mp lim 42 [.pointer (some ⟨J, 0, none⟩)] H Q = Q (.bool false) H := by
  refine pc (by decide) e42 rfl rfl ?_
  rw [b42, c42]
  have hX := fun X => (Ext.refl.app (X := X)).cells hJ
  simp only [n42, r42, hX, aEq, SB, Nat.reduceLT, callee, aOp, ne_eq, Nat.reduceEqDiff, aBin, aUn, if_true, if_false, reduceCtorEq, frame0, place, notTuple, Nat.reduceAdd, Nat.reduceLeDiff, resVal, dite_true, dite_false, Int.reduceEq, Int.reduceLT, Int.reduceLE]

theorem cloneX_ok {lim c : Nat} {p : Option Addr} {l : List Sec} {H : Heap} {Q : Value → Heap → Prop} (hs : Sl H encX 32 p l) (hn : l ≠ []) (h1 : l.length < 2 ^ 30) :
    CallR E false lim 57 [.slice p l.length c] H Q = Q (.slice (some ⟨H.length + 1, 0, none⟩) l.length (loose 32)) (H ++ [.cells false [], .cells false (l.flatMap encX)]) := by
  obtain ⟨a, rfl⟩ := hs.some hn
  rw [CallR_run (E := E) (by simp [E, orc]) (show E.tr 57 = some a57 from e57) rfl rfl, b57, c57, ← List.append_nil H]
  have happ := fun X (h : hget (H ++ X) H.length = .cells false []) => append_newN (lim := lim) (b := H.length) (bytes := 32) (c := c) h (hs.app X) (by decide) (by unfold maxBytes; omega) (by omega) hn
  simp only [n57, r57, aEq, happ, SB, Nat.reduceLT, callee, aOp, ne_eq, Nat.reduceEqDiff, aBin, aUn, if_true, if_false, reduceCtorEq, frame0, place, notTuple, Nat.reduceAdd, Nat.reduceLeDiff, resVal, dite_true, dite_false, Int.reduceEq, Int.reduceLT, Int.reduceLE]

/-- What is read of a disk. -/
def readD (pend : List Wr) (safe : List Sec) : List Sec := crashed [] pend safe
theorem areas_ok {lim D sc pc' : Nat} {sp pp : Option Addr} {ro : Bool} {safe : List Sec} {pend : List Wr} {H : Heap} {Q : Value → Heap → Prop}
    (hD : hget H D = .cells ro [.slice sp safe.length sc, .slice pp pend.length pc']) (hS : Sl H encX 32 sp safe) (hne : safe ≠ []) (hP : Sl H encW 33 pp pend) (hn1 : safe.length < 2 ^ 30) (hn2 : pend.length < 2 ^ 60) (hl : lim ≤ H.length)
    (hQ : ∀ H' p c q c', Chg [] H H' → Sl H' encX 32 p ((readD pend safe).take (safe.length / 2)) → Sl H' encX 32 q (((readD pend safe).drop (safe.length / 2)).take (safe.length / 2)) → Q (.agg #[.slice p (safe.length / 2) c, .slice q (safe.length / 2) c']) H') :
    CallR E false lim 47 [.pointer (some ⟨D, 0, none⟩)] H Q := by
  refine runs (by decide) e47 rfl ?_
  rw [b47, c47]
  have hDX := fun X => (Ext.refl.app (X := X)).cells hD
  have hDl := hget_alive hD
  have cl := fun X (Q : Value → Heap → Prop) => cloneX_ok (lim := lim) (c := sc) (Q := Q) (hS.app X) hne hn1
  simp only [n47, r47, hDX, cl, SB, Nat.reduceLT, callee, aOp, ne_eq, Nat.reduceEqDiff, aBin, aUn, if_true, if_false, reduceCtorEq, frame0, place, notTuple, Nat.reduceAdd, Nat.reduceLeDiff, resVal, dite_true, dite_false, Int.reduceEq, Int.reduceLT, Int.reduceLE]
  refine Ret_rounds (fun s : Nat × List Sec => pend.length - s.1) (fun s fr G => s.1 ≤ pend.length ∧ fr 0 = .pointer (some ⟨D, 0, none⟩) ∧ fr 2 = .pointer (some ⟨H.length, 0, none⟩) ∧ fr 3 = .slice (some ⟨H.length + 2, 0, none⟩) safe.length (loose 32) ∧ fr 15 = .slice pp pend.length pc' ∧ fr 16 = .int .i64 (pend.length : Int) ∧ fr 17 = .int .i64 (s.1 : Int) ∧
    Chg [] H G ∧ H.length + 3 ≤ G.length ∧ s.2.length = safe.length ∧ hget G (H.length + 2) = .cells false (s.2.flatMap encX) ∧ hget G H.length = .cells false [.slice none 0 0, .slice none 0 0] ∧ readD pend safe = crashGo [] s.1 (pend.drop s.1) s.2) (0, safe) ⟨Nat.zero_le _, (by simp only [upd_same, upd_ne, ne_eq, Nat.reduceEqDiff, not_false_eq_true, frame0, List.getD_cons_zero, List.getD_cons_succ]), (by simp only [upd_same, upd_ne, ne_eq, Nat.reduceEqDiff, not_false_eq_true, frame0, List.getD_cons_zero, List.getD_cons_succ]), (by simp only [upd_same, upd_ne, ne_eq, Nat.reduceEqDiff, not_false_eq_true, frame0, List.getD_cons_zero, List.getD_cons_succ]), (by simp only [upd_same, upd_ne, ne_eq, Nat.reduceEqDiff, not_false_eq_true, frame0, List.getD_cons_zero, List.getD_cons_succ]), (by simp only [upd_same, upd_ne, ne_eq, Nat.reduceEqDiff, not_false_eq_true, frame0, List.getD_cons_zero, List.getD_cons_succ]), by rfl, Chg.refl.app, by simp, rfl, by rw [hget_new]; rfl, by rw [hget_new0]; rfl, rfl⟩ ?_
  rintro ⟨i, cur⟩ fr G ⟨hi, h0, h2, h3, h15, h16, h17, hC, hGl, hcl, hcur, hz, ha⟩ hN
  simp only at hi h17 hcl hcur ha
  rw [Ret_code l47_1.eq_1]
  refine Ret_pad ?_
  have hDG := fun X => (Ext.refl.app (X := X)).cells (hC.cells hD (by simp))
  have hlG : lim ≤ G.length := by omega
  by_cases hlt : i < pend.length
  · have hPG := hC.sl hP (by simp)
    have hld := fun X => (hPG.app X).loadCells encW_len hlt
    have hidx := fun c (k : IntKind) (H1 : Heap) => hPG.idx (c := c) (k := k) (H1 := H1) hlt
    have hw1 : IntKind.i64.wrap ((i : Int) + 1) = ((i + 1 : Nat) : Int) := wrap_nat (by omega)
    have hhas := fun X (a : Int) (mp : Bool) (lim : Nat) (Q : Value → Heap → Prop) => has_ok (mp := mp) (lim := lim) (a := a) (Q := Q) (hDG X)
    cases hh : hasA safe.length (gt pend i).pos with
    | false =>
      simp only [n47, r47, h0, h2, h3, h15, h16, h17, hlt, hld, hidx, hDG, hhas, encW_len, setAll_full, encW_0, encW_data, hlG, hw1, encX_len, hh, SB, Nat.reduceLT, callee, aOp, ne_eq, Nat.reduceEqDiff, aBin, aUn, if_true, if_false, reduceCtorEq, frame0, place, notTuple, Nat.reduceAdd, Nat.reduceLeDiff, resVal, dite_true, dite_false, Int.reduceEq, Int.reduceLT, Int.reduceLE]
      exact hN (i + 1, cur) _ _ ⟨by show i + 1 ≤ _; omega, (by simp only [h0, upd_same, upd_ne, ne_eq, Nat.reduceEqDiff, not_false_eq_true, frame0, List.getD_cons_zero, List.getD_cons_succ]), (by simp only [h2, upd_same, upd_ne, ne_eq, Nat.reduceEqDiff, not_false_eq_true, frame0, List.getD_cons_zero, List.getD_cons_succ]), (by simp only [h3, upd_same, upd_ne, ne_eq, Nat.reduceEqDiff, not_false_eq_true, frame0, List.getD_cons_zero, List.getD_cons_succ]), (by simp only [h15, upd_same, upd_ne, ne_eq, Nat.reduceEqDiff, not_false_eq_true, frame0, List.getD_cons_zero, List.getD_cons_succ]), (by simp only [h16, upd_same, upd_ne, ne_eq, Nat.reduceEqDiff, not_false_eq_true, frame0, List.getD_cons_zero, List.getD_cons_succ]), (by simp only [upd_same, upd_ne, ne_eq, Nat.reduceEqDiff, not_false_eq_true, frame0, List.getD_cons_zero, List.getD_cons_succ]), hC.app, by simp; omega, hcl, (Ext.refl.app).cells hcur, (Ext.refl.app).cells hz, by show _ = crashGo _ (i + 1) _ cur; rw [ha, crashGo_drop hlt, hcl, hh]; rfl⟩ (by show _ - (i + 1) < _; omega)
    | true =>
      obtain ⟨k, hk, hks⟩ : ∃ k : Nat, (gt pend i).pos = (k : Int) ∧ k < safe.length := by
        simp only [hasA, decide_eq_true_eq] at hh
        exact ⟨(gt pend i).pos.toNat, by omega, by omega⟩
      have hsi : ∀ H1 c, idxK 32 (.slice (some ⟨H.length + 2, 0, none⟩) safe.length c) (.int .i64 (gt pend i).pos) H1 = some (.pointer (some (elt (some ⟨H.length + 2, 0, none⟩) 32 k)), H1) := fun H1 c => by
        rw [hk]; exact idxK_nat hks
      obtain ⟨G', hst, hG', hm⟩ := store_mut (lim := lim) (e := 32) encX_len rfl hcur (by omega) (show k < cur.length by rw [hcl]; exact hks) (gt pend i).data
      simp only [n47, r47, h0, h2, h3, h15, h16, h17, hlt, hld, hidx, hDG, hhas, encW_len, setAll_full, encW_0, encW_data, hlG, hw1, encX_len, hh, hsi, hst, SB, Nat.reduceLT, callee, aOp, ne_eq, Nat.reduceEqDiff, aBin, aUn, if_true, if_false, reduceCtorEq, frame0, place, notTuple, Nat.reduceAdd, Nat.reduceLeDiff, resVal, dite_true, dite_false, Int.reduceEq, Int.reduceLT, Int.reduceLE]
      exact hN (i + 1, cur.set k (gt pend i).data) _ _ ⟨by show i + 1 ≤ _; omega, (by simp only [h0, upd_same, upd_ne, ne_eq, Nat.reduceEqDiff, not_false_eq_true, frame0, List.getD_cons_zero, List.getD_cons_succ]), (by simp only [h2, upd_same, upd_ne, ne_eq, Nat.reduceEqDiff, not_false_eq_true, frame0, List.getD_cons_zero, List.getD_cons_succ]), (by simp only [h3, upd_same, upd_ne, ne_eq, Nat.reduceEqDiff, not_false_eq_true, frame0, List.getD_cons_zero, List.getD_cons_succ]), (by simp only [h15, upd_same, upd_ne, ne_eq, Nat.reduceEqDiff, not_false_eq_true, frame0, List.getD_cons_zero, List.getD_cons_succ]), (by simp only [h16, upd_same, upd_ne, ne_eq, Nat.reduceEqDiff, not_false_eq_true, frame0, List.getD_cons_zero, List.getD_cons_succ]), (by simp only [upd_same, upd_ne, ne_eq, Nat.reduceEqDiff, not_false_eq_true, frame0, List.getD_cons_zero, List.getD_cons_succ]), (hC.mut hm (.inr (by omega))).app, by simp [hm.len]; omega, by simpa using hcl, (Ext.refl.app).cells hG', (Ext.refl.app).cells (hm.cells hz (by omega)), by
        show _ = crashGo _ (i + 1) _ (cur.set k _)
        rw [ha, crashGo_drop hlt, hcl, hh]; simp [hk]⟩ (by show _ - (i + 1) < _; omega)
  obtain rfl : i = pend.length := by omega
  rw [List.drop_length, crashGo] at ha
  subst ha
  have sz := fun X (mp : Bool) (lim : Nat) (Q : Value → Heap → Prop) => size_ok (mp := mp) (lim := lim) (Q := Q) (hDG X) (by omega)
  have hsl := Sl.row encX_len hcur
  have ha2 : safe.length / 2 + safe.length / 2 ≤ safe.length := by omega
  have w2 : IntKind.i64.wrap (2 * ((safe.length / 2 : Nat) : Int)) = ((safe.length / 2 + safe.length / 2 : Nat) : Int) := by rw [wrap_id (by omega) (by omega)]; omega
  obtain ⟨p1, c1, e1, s1, _, bk1, _⟩ := slice_cut (c := loose 32) (vlo := none) (vhi := some (.int .i64 ((safe.length / 2 : Nat) : Int))) (lo := 0) (hi := safe.length / 2) hsl (.inl rfl) encX_len (fun cap hcap => by rw [bv_010 (by omega) (by omega), Int.toNat_natCast]) (Nat.zero_le _) (by omega) (by omega)
  obtain ⟨p2, c2, e2, s2, _, bk2, _⟩ := slice_cut (c := loose 32) (vlo := some (.int .i64 ((safe.length / 2 : Nat) : Int))) (vhi := some (.int .i64 ((safe.length / 2 + safe.length / 2 : Nat) : Int))) (lo := safe.length / 2) (hi := safe.length / 2 + safe.length / 2) hsl (.inl rfl) encX_len (fun cap hcap => by rw [bv_110 (by omega) (by omega) (by omega), Int.toNat_natCast, Int.toNat_natCast]) (by omega) (by omega) (by omega)
  rw [hcl, Nat.sub_zero] at e1
  rw [hcl, Nat.add_sub_cancel] at e2
  rw [List.drop_zero] at s1
  rw [List.drop_take, Nat.add_sub_cancel] at s2
  obtain ⟨G', hset, hG', hm⟩ := mut_set (G := G) (R := H.length) (by omega) (.cells false [.slice p1 (safe.length / 2) c1, .slice p2 (safe.length / 2) c2])
  have hzX := fun X => (Ext.refl.app (X := X)).cells hz
  have hgX := fun X => (Ext.refl.app (X := X)).cells hG'
  simp only [n47, r47, h0, h2, h3, h15, h16, h17, hlt, sz, e1, e2, w2, hzX, hset, hl, hgX, SB, Nat.reduceLT, callee, aOp, ne_eq, Nat.reduceEqDiff, aBin, aUn, if_true, if_false, reduceCtorEq, frame0, place, notTuple, Nat.reduceAdd, Nat.reduceLeDiff, resVal, dite_true, dite_false, Int.reduceEq, Int.reduceLT, Int.reduceLE]
  have hbl : ∀ {p : Option Addr} {l : List Sec}, Sl G encX 32 p l → (∀ a, p = some a → a.block = H.length + 2) → Sl G' encX 32 p l := fun {p l} h hb => hm.sl h fun a e _ => by have := hb a e; omega
  refine hQ _ _ _ _ _ ((hC.mut hm (.inr (Nat.le_refl _))).app) ((hbl s1 fun a e => ?_).app _) ((hbl s2 fun a e => ?_).app _)
  · obtain ⟨a', h1, h2⟩ := bk1 a e; cases h1; exact h2
  · obtain ⟨a', h1, h2⟩ := bk2 a e; cases h1; exact h2

theorem NewDisk_ok {lim n : Nat} {H : Heap} {Q : Value → Heap → Prop} (hn : 4 ≤ n) (h2 : n ≤ 32768)
    (hQ : Q (.tuple #[.pointer (some ⟨H.length + 1, 0, none⟩), .int .i64 0]) (H ++ [.cells false ((List.replicate n (Vector.replicate 32 (0 : UInt8))).flatMap encX), .cells false [.slice (some ⟨H.length, 0, none⟩) n n, .slice none 0 0]])) :
    CallR E false lim 38 [.int .i64 (n : Int)] H Q := by
  refine runs (by decide) e38 rfl ?_
  rw [b38, c38]
  have h4 : ¬ (n : Int) < 4 := by omega
  have h5 : ¬ (32768 : Int) < (n : Int) := by omega
  have hmk : (n : Int) * 32 ≤ 2 ^ 45 := by omega
  have hmk2 : (n : Int) < 2 ^ 62 := by omega
  have hz : ((List.range (n * 32)).map fun j => [Value.int .u8 0, Value.int .u8 0, Value.int .u8 0, Value.int .u8 0, Value.int .u8 0, Value.int .u8 0, Value.int .u8 0, Value.int .u8 0, Value.int .u8 0, Value.int .u8 0, Value.int .u8 0, Value.int .u8 0, Value.int .u8 0, Value.int .u8 0, Value.int .u8 0, Value.int .u8 0, Value.int .u8 0, Value.int .u8 0, Value.int .u8 0, Value.int .u8 0, Value.int .u8 0, Value.int .u8 0, Value.int .u8 0, Value.int .u8 0, Value.int .u8 0, Value.int .u8 0, Value.int .u8 0, Value.int .u8 0, Value.int .u8 0, Value.int .u8 0, Value.int .u8 0, Value.int .u8 0].getD (j % 32) undef) = (List.replicate n (Vector.replicate 32 (0 : UInt8))).flatMap encX := by
    rw [show [Value.int .u8 0, Value.int .u8 0, Value.int .u8 0, Value.int .u8 0, Value.int .u8 0, Value.int .u8 0, Value.int .u8 0, Value.int .u8 0, Value.int .u8 0, Value.int .u8 0, Value.int .u8 0, Value.int .u8 0, Value.int .u8 0, Value.int .u8 0, Value.int .u8 0, Value.int .u8 0, Value.int .u8 0, Value.int .u8 0, Value.int .u8 0, Value.int .u8 0, Value.int .u8 0, Value.int .u8 0, Value.int .u8 0, Value.int .u8 0, Value.int .u8 0, Value.int .u8 0, Value.int .u8 0, Value.int .u8 0, Value.int .u8 0, Value.int .u8 0, Value.int .u8 0, Value.int .u8 0] = List.replicate 32 (Value.int .u8 0) from rfl]
    have e1 : ∀ n : Nat, (List.replicate n (Vector.replicate 32 (0 : UInt8))).flatMap encX = List.replicate (n * 32) (Value.int .u8 0) := by
      intro n
      induction n with
      | zero => rfl
      | succ n ih => rw [List.replicate_succ, List.flatMap_cons, ih, show encX (Vector.replicate 32 (0 : UInt8)) = List.replicate 32 (Value.int .u8 0) from rfl, List.replicate_append_replicate]; congr 1; omega
    rw [e1]
    apply List.ext_getElem (by simp)
    intro i i1 i2
    have : i % 32 < 32 := Nat.mod_lt _ (by decide)
    simp only [List.getElem_map, List.getElem_range, List.getElem_replicate]
    rw [List.getD_eq_getElem?_getD, List.getElem?_replicate, if_pos this]
    rfl
  simp only [n38, r38, h4, h5, nat_nn, hmk, hmk2, hz, SB, Nat.reduceLT, callee, aOp, ne_eq, Nat.reduceEqDiff, aBin, aUn, if_true, if_false, reduceCtorEq, frame0, place, notTuple, Nat.reduceAdd, Nat.reduceLeDiff, resVal, dite_true, dite_false, Int.reduceEq, Int.reduceLT, Int.reduceLE]
  exact hQ
end Go.Proofs.Ytdddehniepofmaa.Fn
namespace Go.Proofs.Ytdddehniepofmaa.Fn
open Go.AM Go.AM.Sym
set_option maxRecDepth 100000
set_option linter.unusedVariables false
set_option linter.unusedSimpArgs false
set_option maxHeartbeats 4000000

def pay (s : Sec) : List UInt8 := (s.toList.drop 14).take (ln s)
/-- Does a sector go on? -/
def goesOn (ep i : Nat) (ins : Bool) (life : Nat) (s : Sec) : Bool :=
  sMarked s i && decide (get4 s 0 = ep) && !(decide (fl s % 2 = 1) == ins) && decide (life ≤ get4 s 4) && !(ins && !decide (get4 s 4 = life))
def recGo (ep : Nat) : Nat → List Sec → Bool → Nat → List UInt8 → List (List UInt8) → Nat → List (List UInt8) × Nat
  | _, [], _, _, _, l, e => (l, e)
  | i, s :: r, ins, life, rec, l, e =>
    if goesOn ep i ins life s then
      if fl s < 2 then recGo ep (i + 1) r true (get4 s 4) (rec ++ pay s) l e
      else recGo ep (i + 1) r false (get4 s 4) [] (l ++ [rec ++ pay s]) (i + 1)
    else (l, e)
def epochOf : List Sec → Nat
  | [] => 0
  | s :: _ => get4 s 0
def recs (a : List Sec) : List (List UInt8) × Nat := recGo (epochOf a) 0 a false 0 [] [] 0

abbrev Desc := Option Addr × Nat × Nat
def encD (d : Desc) : List Value := [.slice d.1 d.2.1 d.2.2]
theorem encD_len (d : Desc) : (encD d).length = 1 := rfl
/-- Rows, as they lie: the descriptors, and each row. -/
structure RowsAt (h0 : Nat) (G : Heap) (p : Option Addr) (c : Nat) (ds : List Desc) (l : List (List UInt8)) : Prop where
  own : Own h0 G encD 1 p c ds
  len : ds.length = l.length
  row : ∀ k, k < l.length → (gt ds k).2.1 = (gt l k).length ∧ Own h0 G encb 1 (gt ds k).1 (gt ds k).2.2 (gt l k)
  ap : ∀ k, k < l.length → ∀ a b, (gt ds k).1 = some a → p = some b → a.block ≠ b.block
theorem RowsAt.chg {h0 : Nat} {G G' : Heap} {p : Option Addr} {c : Nat} {ds : List Desc} {l : List (List UInt8)} {L : List Nat} (h : RowsAt h0 G p c ds l) (hc : Chg L G G') (hp : ∀ b, p = some b → b.block ∉ L) (hr : ∀ k, k < l.length → ∀ a, (gt ds k).1 = some a → a.block ∉ L) : RowsAt h0 G' p c ds l :=
  ⟨h.own.chg hc hp, h.len, fun k hk => ⟨(h.row k hk).1, (h.row k hk).2.chg hc (hr k hk)⟩, h.ap⟩
theorem RowsAt.nil {h0 : Nat} {G : Heap} : RowsAt h0 G none 0 [] [] := ⟨Own.nil, rfl, fun k hk => by simp at hk, fun k hk => by simp at hk⟩
theorem chg_blk {G G' : Heap} {p : Option Addr} (h : ∀ j, j < G.length → (∀ a, p = some a → j ≠ a.block) → hget G' j = hget G j) (hl : G.length ≤ G'.length) : Chg (blk p) G G' := ⟨hl, fun j hj hA => h j hj fun a e => by
  subst e
  simpa [blk] using hA⟩
theorem blk_mem {p : Option Addr} {j : Nat} : j ∈ blk p ↔ ∃ a, p = some a ∧ a.block = j := by
  cases p with
  | none => simp [blk]
  | some a => simp [blk]; exact eq_comm
/-- One row more. -/
theorem RowsAt.snoc {h0 lim : Nat} {G : Heap} {p : Option Addr} {c : Nat} {ds : List Desc} {l : List (List UInt8)} (h : RowsAt h0 G p c ds l) (hlim : lim ≤ h0) (hG : h0 ≤ G.length) {q : Option Addr} {cq : Nat} {r : List UInt8} (hq : Own h0 G encb 1 q cq r) (hpq : ∀ a b, q = some a → p = some b → a.block ≠ b.block) (hl : l.length < 2 ^ 30) (X : Heap) (b k : Nat) (hx : hget (G ++ X) b = .cells false (encD (q, r.length, cq))) :
    ∃ G2, aAppend lim none 1 24 false (.slice p l.length c) (.slice (some ⟨b, 0, none⟩) 1 k) (G ++ X) = some (.slice (some ⟨G.length + X.length, 0, none⟩) (l.length + 1) (loose 1), G2 ++ []) ∧ RowsAt h0 (G2 ++ []) (some ⟨G.length + X.length, 0, none⟩) (loose 1) (ds ++ [(q, r.length, cq)]) (l ++ [r]) ∧ Chg (blk p) G (G2 ++ []) := by
  obtain ⟨G2, e1, O2, _, hold, l2, _⟩ := h.own.step (lim' := lim) (bytes := 24) hlim encD_len (by decide) (q, r.length, cq) (by rw [h.len]; unfold maxBytes; omega) (by rw [h.len]; omega) hG X b k hx
  rw [h.len] at e1
  have hc : Chg (blk p) G (G2 ++ []) := chg_blk hold (by simp; omega)
  refine ⟨G2, e1, ⟨O2, by simp [h.len], fun k hk => ?_, fun k hk a b' ha hb => ?_⟩, hc⟩
  · by_cases hkl : k < l.length
    · rw [gt_append_left (by rw [h.len]; exact hkl), gt_append_left hkl]
      exact ⟨(h.row k hkl).1, (h.row k hkl).2.chg hc fun a e hm => by
        obtain ⟨b', h1, h2⟩ := blk_mem.1 hm
        exact h.ap k hkl a b' e h1 h2.symm⟩
    · have : k = l.length := by simp at hk; omega
      subst this
      rw [show gt (ds ++ [(q, r.length, cq)]) l.length = (q, r.length, cq) by rw [← h.len]; exact gt_append_len (i := 0), show gt (l ++ [r]) l.length = r from gt_append_len (i := 0)]
      exact ⟨rfl, hq.chg hc fun a e hm => by
        obtain ⟨b', h1, h2⟩ := blk_mem.1 hm
        exact hpq a b' e h1 h2.symm⟩
  · cases hb
    show a.block ≠ G.length + X.length
    have key : a.block < G.length := by
      by_cases hkl : k < l.length
      · rw [gt_append_left (by rw [h.len]; exact hkl)] at ha
        exact ((h.row k hkl).2.block ha).2
      · have : k = l.length := by simp at hk; omega
        subst this
        rw [show gt (ds ++ [(q, r.length, cq)]) l.length = (q, r.length, cq) by rw [← h.len]; exact gt_append_len (i := 0)] at ha
        exact (hq.block ha).2
    omega

def bdC : ACode → ACode
  | .block _ b => b
  | c => c
def B46 : ACode := bdC (hdC (tlC (tlC l46_1)))
def rest46 : ACode := tlC (tlC (tlC (tlC B46)))
def restB46 : ACode := tlC (tlC rest46)
theorem rest46_cut : rest46 = .seq (hdC rest46) (.seq (hdC (tlC rest46)) restB46) := rfl
theorem l46_cut : l46_1 = .seq (hdC l46_1) (.seq (hdC (tlC l46_1)) (.seq (.block 1 (.seq (hdC B46) (.seq (hdC (tlC B46)) (.seq (hdC (tlC (tlC B46))) (.seq (hdC (tlC (tlC (tlC B46)))) rest46))))) (tlC (tlC (tlC l46_1))))) := rfl
theorem and1 : ∀ f : Fin 256, (IntKind.u8.wrap ((BitVec.ofInt IntKind.u8.bits ((f.val : Nat) : Int) &&& BitVec.ofInt IntKind.u8.bits 1).toNat : Int) = 0) ↔ (f.val % 2 = 0) := by decide +kernel
theorem fl_lt (s : Sec) : fl s < 256 := (gt s.toList 12).toNat_lt
theorem ln_lt (s : Sec) : ln s < 256 := (gt s.toList 13).toNat_lt
theorem marked_le {s : Sec} {n : Nat} (h : sMarked s n = true) : fl s ≤ 3 ∧ ln s ≤ 18 ∧ get4 s 0 ≤ 1073741824 ∧ get4 s 4 ≤ 1073741824 := by
  simp only [sMarked, Bool.and_eq_true, decide_eq_true_eq] at h
  omega
/-- The end of a function that has gone through an area. -/
def tail46 : ACode := tlC (tlC (tlC (tlC c46)))
theorem c46_cut : c46 = .seq (hdC c46) (.seq (hdC (tlC c46)) (.seq (hdC (tlC (tlC c46))) (.seq (hdC (tlC (tlC (tlC c46)))) tail46))) := rfl

theorem records_ok {lim n c : Nat} {p : Option Addr} {a : List Sec} {H : Heap} {Q : Value → Heap → Prop} (hs : Sl H encX 32 p a) (hn : n = a.length) (hna : a.length < 2 ^ 20) (hlim : lim ≤ H.length)
    (hQ : ∀ G q cq ds, Chg [] H G → RowsAt H.length G q cq ds (recs a).1 → Q (.tuple #[.slice q (recs a).1.length cq, .int .i64 (epochOf a : Int), .int .i64 ((recs a).2 : Int)]) G) :
    CallR E false lim 46 [.slice p n c] H Q := by
  subst hn
  refine runs (by decide) e46 rfl ?_
  rw [b46, c46_cut]
  simp only [c46, hdC, tlC]
  simp only [n46, r46, SB, Nat.reduceLT, callee, aOp, ne_eq, Nat.reduceEqDiff, aBin, aUn, if_true, if_false, reduceCtorEq, frame0, place, notTuple, Nat.reduceAdd, Nat.reduceLeDiff, resVal, dite_true, dite_false, Int.reduceEq, Int.reduceLT, Int.reduceLE]
  have ep40 : epochOf a < 2 ^ 32 := by
    unfold epochOf
    split
    · decide
    · rename_i s _
      unfold get4
      have h1 := numOf_lt ((s.toList.drop 0).take 4)
      have h2 : ((s.toList.drop 0).take 4).length ≤ 4 := by simp
      have h3 : 256 ^ ((s.toList.drop 0).take 4).length ≤ 256 ^ 4 := Nat.pow_le_pow_right (by decide) h2
      omega
  -- the end
  have fin : ∀ (fr : Nat → Value) (G : Heap) (q : Option Addr) (cq : Nat) (ds : List Desc), Chg [] H G → RowsAt H.length G q cq ds (recs a).1 → fr 2 = .slice q (recs a).1.length cq → fr 3 = .int .i64 (epochOf a : Int) → fr 4 = .int .i64 ((recs a).2 : Int) → Ret E a46 lim [.code tail46] fr (G ++ []) Q := by
    intro fr G q cq ds hC hR g2 g3 g4
    unfold tail46
    simp only [c46, tlC]
    simp only [n46, r46, g2, g3, g4, SB, Nat.reduceLT, callee, aOp, ne_eq, Nat.reduceEqDiff, aBin, aUn, if_true, if_false, reduceCtorEq, frame0, place, notTuple, Nat.reduceAdd, Nat.reduceLeDiff, resVal, dite_true, dite_false, Int.reduceEq, Int.reduceLT, Int.reduceLE]
    exact hQ _ _ _ _ hC.app (hR.chg Chg.refl.app (L := []) (by simp) (by simp))
  refine Ret_rounds (fun s : (Nat × Bool × Nat) × (Option Addr × Nat × List UInt8) × (Option Addr × Nat × List Desc × List (List UInt8)) × Nat => a.length - s.1.1)
    (fun s fr G => s.1.1 ≤ a.length ∧ fr 0 = .slice p a.length c ∧ fr 2 = .slice s.2.2.1.1 s.2.2.1.2.2.2.length s.2.2.1.2.1 ∧ fr 3 = .int .i64 (if s.1.1 = 0 then 0 else (epochOf a : Int)) ∧ fr 4 = .int .i64 (s.2.2.2 : Int) ∧ fr 5 = .slice s.2.1.1 s.2.1.2.2.length s.2.1.2.1 ∧ fr 6 = .bool s.1.2.1 ∧ fr 7 = .int .i64 (s.1.2.2 : Int) ∧ fr 12 = .int .i64 (a.length : Int) ∧ fr 13 = .int .i64 (s.1.1 : Int) ∧
      recs a = recGo (epochOf a) s.1.1 (a.drop s.1.1) s.1.2.1 s.1.2.2 s.2.1.2.2 s.2.2.1.2.2.2 s.2.2.2 ∧ Chg [] H G ∧ RowsAt H.length G s.2.2.1.1 s.2.2.1.2.1 s.2.2.1.2.2.1 s.2.2.1.2.2.2 ∧ Own H.length G encb 1 s.2.1.1 s.2.1.2.1 s.2.1.2.2 ∧
      (∀ x y, s.2.1.1 = some x → s.2.2.1.1 = some y → x.block ≠ y.block) ∧ (∀ k, k < s.2.2.1.2.2.2.length → ∀ x y, (gt s.2.2.1.2.2.1 k).1 = some x → s.2.1.1 = some y → x.block ≠ y.block) ∧ s.2.1.2.2.length ≤ 18 * s.1.1 ∧ s.2.2.1.2.2.2.length ≤ s.1.1)
    ((0, false, 0), (none, 0, []), (none, 0, [], []), 0)
    ⟨Nat.zero_le _, (by simp only [upd_same, upd_ne, ne_eq, Nat.reduceEqDiff, not_false_eq_true, frame0, List.getD_cons_zero, List.getD_cons_succ]), (by simp only [List.length_nil, upd_same, upd_ne, ne_eq, Nat.reduceEqDiff, not_false_eq_true, frame0, List.getD_cons_zero, List.getD_cons_succ]), by rfl, by rfl, (by simp only [List.length_nil, upd_same, upd_ne, ne_eq, Nat.reduceEqDiff, not_false_eq_true, frame0, List.getD_cons_zero, List.getD_cons_succ]), (by simp only [upd_same, upd_ne, ne_eq, Nat.reduceEqDiff, not_false_eq_true, frame0, List.getD_cons_zero, List.getD_cons_succ]), by rfl, (by simp only [upd_same, upd_ne, ne_eq, Nat.reduceEqDiff, not_false_eq_true, frame0, List.getD_cons_zero, List.getD_cons_succ]), by rfl, rfl, Chg.refl.app, RowsAt.nil, Own.nil, (by intro x y h; cases h), (by intro k hk; simp at hk), Nat.zero_le _, Nat.zero_le _⟩ ?_
  rintro ⟨⟨i, ins, life⟩, ⟨q, cq, rec⟩, ⟨p2, c2, ds, l⟩, e⟩ fr G ⟨hi, g0, g2, g3, g4, g5, g6, g7, g12, g13, hrec, hC, hR, hO, hap1, hap2, hrl, hll⟩ hN
  simp only at hi g2 g3 g4 g5 g6 g7 g13 hrec hR hO hap1 hap2 hrl hll
  obtain ⟨L, hL⟩ : ∃ L, L = l46_1 := ⟨_, rfl⟩
  have hI : AItem.inLoop l46_1 = AItem.inLoop L := by rw [hL]
  rw [hI] at hN ⊢
  rw [Ret_code l46_cut]
  simp only [l46_1, B46, bdC, hdC, tlC]
  refine Ret_pad ?_
  have hGl := hC.len
  by_cases hlt : i < a.length
  · have hSG := hC.sl hs (by simp)
    have hat := SecAt.of_elt hSG hlt
    have hidx := fun c (k : IntKind) (H1 : Heap) => hSG.idx (c := c) (k := k) (H1 := H1) hlt
    have hdr : a.drop i = gt a i :: a.drop (i + 1) := by rw [List.drop_eq_getElem_cons hlt, gt_lt hlt]
    rw [hdr] at hrec
    generalize hsx : gt a i = s at hat hrec
    have hX := fun X => hat.app X
    have g00 := fun X (mp : Bool) (lim : Nat) (Q : Value → Heap → Prop) => get_ok (mp := mp) (lim := lim) (Q := Q) (n := 0) (hX X) (by decide)
    have g44 := fun X (mp : Bool) (lim : Nat) (Q : Value → Heap → Prop) => get_ok (mp := mp) (lim := lim) (Q := Q) (n := 4) (hX X) (by decide)
    simp only [Int.cast_ofNat_Int] at g00 g44
    have gf : ∀ X (mp : Bool) (lim : Nat) (Q : Value → Heap → Prop), CallR E mp lim 54 [.pointer (some (elt p 32 i))] (G ++ X) Q = Q (.int .u8 (fl s : Int)) (G ++ X) := fun X mp lim Q => flags_ok (hX X)
    have gm := fun X (mp : Bool) (lim : Nat) (Q : Value → Heap → Prop) => marked_ok (mp := mp) (lim := lim) (Q := Q) (n := i) (hX X) (by omega)
    have a1 : (IntKind.u8.wrap ((BitVec.ofInt IntKind.u8.bits (fl s : Int) &&& BitVec.ofInt IntKind.u8.bits 1).toNat : Int) = 0) = (fl s % 2 = 0) := propext (and1 ⟨fl s, fl_lt s⟩)
    have hep : i = 0 → get4 s 0 = epochOf a := fun h => by
      subst h
      rw [← hsx, gt_lt hlt]
      cases a with
      | nil => simp at hlt
      | cons x r => rfl
    have mid : ∀ fr : Nat → Value, fr 0 = .slice p a.length c → fr 2 = .slice p2 l.length c2 → fr 3 = .int .i64 (epochOf a : Int) → fr 4 = .int .i64 (e : Int) → fr 5 = .slice q rec.length cq → fr 6 = .bool ins → fr 7 = .int .i64 (life : Int) → fr 8 = .int .i64 (i : Int) → fr 9 = .pointer (some (elt p 32 i)) → fr 10 = .bool (decide ¬ fl s % 2 = 0) → fr 12 = .int .i64 (a.length : Int) → fr 13 = .int .i64 (i : Int) →
        Ret E a46 lim [.code rest46, .inBlock 1, .code (.ops [Sym.i 80 (.bin .add (t 13) (k (.int .i64 1))), Sym.i 13 (.mov (t 80))]), .inLoop L, .inBlock 0, .code tail46] fr (G ++ []) Q := by
      clear g0 g2 g3 g4 g5 g6 g7 g12 g13
      clear fr
      intro fr g0 g2 g3 g4 g5 g6 g7 g8 g9 g10 g12 g13
      rw [rest46_cut]
      simp only [rest46, B46, l46_1, bdC, hdC, tlC]
      have stop : goesOn (epochOf a) i ins life s = false → ∀ fr : Nat → Value, fr 2 = .slice p2 l.length c2 → fr 3 = .int .i64 (epochOf a : Int) → fr 4 = .int .i64 (e : Int) → Ret E a46 lim [.code tail46] fr (G ++ []) Q := fun h fr x2 x3 x4 => by
        have : recs a = (l, e) := by rw [hrec]; simp [recGo, h]
        exact fin fr G p2 c2 ds hC (by rw [this]; exact hR) (by rw [this]; exact x2) x3 (by rw [this]; exact x4)
      cases hm : sMarked s i with
      | false =>
        simp only [n46, r46, g0, g2, g3, g4, g5, g6, g7, g8, g9, g10, g12, g13, g00, g44, gf, gm, aEq, hm, SB, Nat.reduceLT, callee, aOp, ne_eq, Nat.reduceEqDiff, aBin, aUn, if_true, if_false, reduceCtorEq, frame0, place, notTuple, Nat.reduceAdd, Nat.reduceLeDiff, resVal, dite_true, dite_false, Int.reduceEq, Int.reduceLT, Int.reduceLE]
        exact stop (by simp [goesOn, hm]) _ (by simp only [g2, upd_same, upd_ne, ne_eq, Nat.reduceEqDiff, not_false_eq_true, frame0, List.getD_cons_zero, List.getD_cons_succ]) (by simp only [g3, upd_same, upd_ne, ne_eq, Nat.reduceEqDiff, not_false_eq_true, frame0, List.getD_cons_zero, List.getD_cons_succ]) (by simp only [g4, upd_same, upd_ne, ne_eq, Nat.reduceEqDiff, not_false_eq_true, frame0, List.getD_cons_zero, List.getD_cons_succ])
      | true =>
        obtain ⟨mf, ml, me, mlf⟩ := marked_le hm
        by_cases h1 : get4 s 0 = epochOf a
        case neg =>
          simp only [n46, r46, g0, g2, g3, g4, g5, g6, g7, g8, g9, g10, g12, g13, g00, g44, gf, gm, aEq, hm, h1, SB, Nat.reduceLT, callee, aOp, ne_eq, Nat.reduceEqDiff, aBin, aUn, if_true, if_false, reduceCtorEq, frame0, place, notTuple, Nat.reduceAdd, Nat.reduceLeDiff, resVal, dite_true, dite_false, Int.reduceEq, Int.reduceLT, Int.reduceLE]
          exact stop (by simp [goesOn, h1]) _ (by simp only [g2, upd_same, upd_ne, ne_eq, Nat.reduceEqDiff, not_false_eq_true, frame0, List.getD_cons_zero, List.getD_cons_succ]) (by simp only [g3, upd_same, upd_ne, ne_eq, Nat.reduceEqDiff, not_false_eq_true, frame0, List.getD_cons_zero, List.getD_cons_succ]) (by simp only [g4, upd_same, upd_ne, ne_eq, Nat.reduceEqDiff, not_false_eq_true, frame0, List.getD_cons_zero, List.getD_cons_succ])
        have btt : (true == true) = true := rfl
        have btf : (true == false) = false := rfl
        have bft : (false == true) = false := rfl
        have bff : (false == false) = true := rfl
        by_cases h2 : (decide (fl s % 2 = 1) == ins) = true
        · have : (fl s % 2 = 0) = (ins = false) := by
            cases ins <;> simp at h2 <;> apply propext <;> simp <;> omega
          cases ins
          · have h2' : fl s % 2 = 0 := by rw [this]
            simp only [n46, r46, g0, g2, g3, g4, g5, g6, g7, g8, g9, g10, g12, g13, g00, g44, gf, gm, aEq, hm, eq_true h1, eq_true h2', btt, btf, bft, bff, decide_true, decide_false, SB, Nat.reduceLT, callee, aOp, ne_eq, Nat.reduceEqDiff, aBin, aUn, if_true, if_false, reduceCtorEq, frame0, place, notTuple, Nat.reduceAdd, Nat.reduceLeDiff, resVal, dite_true, dite_false, Int.reduceEq, Int.reduceLT, Int.reduceLE]
            exact stop (by unfold goesOn; rw [h2]; simp) _ (by simp only [g2, upd_same, upd_ne, ne_eq, Nat.reduceEqDiff, not_false_eq_true, frame0, List.getD_cons_zero, List.getD_cons_succ]) (by simp only [g3, upd_same, upd_ne, ne_eq, Nat.reduceEqDiff, not_false_eq_true, frame0, List.getD_cons_zero, List.getD_cons_succ]) (by simp only [g4, upd_same, upd_ne, ne_eq, Nat.reduceEqDiff, not_false_eq_true, frame0, List.getD_cons_zero, List.getD_cons_succ])
          · have h2' : ¬ fl s % 2 = 0 := by rw [this]; simp
            simp only [n46, r46, g0, g2, g3, g4, g5, g6, g7, g8, g9, g10, g12, g13, g00, g44, gf, gm, aEq, hm, eq_true h1, h2', btt, btf, bft, bff, decide_true, decide_false, SB, Nat.reduceLT, callee, aOp, ne_eq, Nat.reduceEqDiff, aBin, aUn, if_true, if_false, reduceCtorEq, frame0, place, notTuple, Nat.reduceAdd, Nat.reduceLeDiff, resVal, dite_true, dite_false, Int.reduceEq, Int.reduceLT, Int.reduceLE]
            exact stop (by unfold goesOn; rw [h2]; simp) _ (by simp only [g2, upd_same, upd_ne, ne_eq, Nat.reduceEqDiff, not_false_eq_true, frame0, List.getD_cons_zero, List.getD_cons_succ]) (by simp only [g3, upd_same, upd_ne, ne_eq, Nat.reduceEqDiff, not_false_eq_true, frame0, List.getD_cons_zero, List.getD_cons_succ]) (by simp only [g4, upd_same, upd_ne, ne_eq, Nat.reduceEqDiff, not_false_eq_true, frame0, List.getD_cons_zero, List.getD_cons_succ])
        have h2n : (decide (fl s % 2 = 1) == ins) = false := by simpa using h2
        have a2 := and2 mf
        have hidA : ∀ (kk : IntKind), 0 ≤ (13 : Int) ∧ (13 : Int) < 32 := fun _ => by decide
        have hcell := fun X => (hX X).cell (i := 13) (by decide)
        have wl : IntKind.i64.wrap ((gt s.toList 13).toNat : Int) = (ln s : Int) := by have := ln_lt s; exact wrap_id (by unfold ln at this; omega) (by unfold ln at this; omega)
        have w14 : IntKind.i64.wrap (14 + (ln s : Int)) = ((14 + ln s : Nat) : Int) := by rw [wrap_id (by omega) (by omega)]; omega
        have wi1 : IntKind.i64.wrap ((i : Int) + 1) = ((i + 1 : Nat) : Int) := wrap_nat (by omega)
        have hcut := sliceAV_cut (n := 32) (e := 1) (a := elt p 32 i) (lo := 14) (hi := 14 + ln s) (vlo := some (.int .i64 14)) (vhi := some (.int .i64 ((14 + ln s : Nat) : Int))) (by rw [bv_110 (by decide) (by omega) (by omega), Int.toNat_natCast]; rfl) (by decide) (by decide)
        rw [Nat.mul_one, Nat.add_sub_cancel_left] at hcut
        have hpay : Sl (G ++ [.dead]) encb 1 (some ((elt p 32 i).add 14)) (pay s) := by
          have := (hX [.dead]).sl.sub encb_len (lo := 14) (hi := 14 + ln s) (by omega) (by rw [sec_len]; omega)
          rw [Nat.mul_one, List.drop_take, Nat.add_sub_cancel_left] at this
          exact this
        have hpl : (pay s).length = ln s := by unfold pay; simp; omega
        obtain ⟨G2, q2, cq2, e2, O2, _, hold2, l2, hq2, hq3⟩ := hO.moreD (d := G.length) (lim' := lim) (bytes := 1) hlim encb_len (by decide) (pay s) (by rw [hpl]; unfold maxBytes; omega) (by rw [hpl]; omega) hGl [.dead] (Nat.le_refl _) (by simp) (x := .slice (some ((elt p 32 i).add 14)) (ln s) 18) (str := false) (by rw [← hpl]; exact first_slice hpay) (by rw [hpl]; rfl)
        rw [hpl] at e2
        have cb : Chg (blk q) G (G2 ++ []) := chg_blk hold2 (by simpa using l2)
        have R2 : RowsAt H.length (G2 ++ []) p2 c2 ds l := hR.chg cb (fun b hb hm => by
          obtain ⟨b', k1, k2⟩ := blk_mem.1 hm
          exact hap1 b' b k1 hb k2) (fun k hk x hx hm => by
          obtain ⟨b', k1, k2⟩ := blk_mem.1 hm
          exact hap2 k hk x b' hx k1 k2.symm)
        have C2 : Chg [] H (G2 ++ []) := hC.trans' cb fun j hj hl => by
          obtain ⟨b', k1, k2⟩ := blk_mem.1 hj
          have := (hO.block k1).1
          omega
        have q2new : ∀ y, q2 = some y → (q = some y) ∨ y.block = G.length := fun y hy => by
          by_cases hne : pay s = []
          · left
            rw [← hq3 hne]; exact hy
          · right
            rw [hq2 hne] at hy; cases hy; rfl
        by_cases h3 : get4 s 4 < life
        · have hst := stop (by unfold goesOn; rw [decide_eq_false (by omega : ¬ life ≤ get4 s 4)]; simp)
          cases ins
          · have h2' : ¬ fl s % 2 = 0 := by simp at h2; omega
            simp only [n46, r46, g0, g2, g3, g4, g5, g6, g7, g8, g9, g10, g12, g13, g00, g44, gf, gm, aEq, hm, eq_true h1, h2', btt, btf, bft, bff, decide_true, decide_false, h3, SB, Nat.reduceLT, callee, aOp, ne_eq, Nat.reduceEqDiff, aBin, aUn, if_true, if_false, reduceCtorEq, frame0, place, notTuple, Nat.reduceAdd, Nat.reduceLeDiff, resVal, dite_true, dite_false, Int.reduceEq, Int.reduceLT, Int.reduceLE]
            exact hst _ (by simp only [g2, upd_same, upd_ne, ne_eq, Nat.reduceEqDiff, not_false_eq_true, frame0, List.getD_cons_zero, List.getD_cons_succ]) (by simp only [g3, upd_same, upd_ne, ne_eq, Nat.reduceEqDiff, not_false_eq_true, frame0, List.getD_cons_zero, List.getD_cons_succ]) (by simp only [g4, upd_same, upd_ne, ne_eq, Nat.reduceEqDiff, not_false_eq_true, frame0, List.getD_cons_zero, List.getD_cons_succ])
          · have h2' : fl s % 2 = 0 := by simp at h2; omega
            simp only [n46, r46, g0, g2, g3, g4, g5, g6, g7, g8, g9, g10, g12, g13, g00, g44, gf, gm, aEq, hm, eq_true h1, eq_true h2', btt, btf, bft, bff, decide_true, decide_false, h3, SB, Nat.reduceLT, callee, aOp, ne_eq, Nat.reduceEqDiff, aBin, aUn, if_true, if_false, reduceCtorEq, frame0, place, notTuple, Nat.reduceAdd, Nat.reduceLeDiff, resVal, dite_true, dite_false, Int.reduceEq, Int.reduceLT, Int.reduceLE]
            exact hst _ (by simp only [g2, upd_same, upd_ne, ne_eq, Nat.reduceEqDiff, not_false_eq_true, frame0, List.getD_cons_zero, List.getD_cons_succ]) (by simp only [g3, upd_same, upd_ne, ne_eq, Nat.reduceEqDiff, not_false_eq_true, frame0, List.getD_cons_zero, List.getD_cons_succ]) (by simp only [g4, upd_same, upd_ne, ne_eq, Nat.reduceEqDiff, not_false_eq_true, frame0, List.getD_cons_zero, List.getD_cons_succ])
        have go : goesOn (epochOf a) i ins life s = true → ∀ fr : Nat → Value, fr 0 = .slice p a.length c → fr 2 = .slice p2 l.length c2 → fr 3 = .int .i64 (epochOf a : Int) → fr 4 = .int .i64 (e : Int) → fr 5 = .slice q rec.length cq → fr 8 = .int .i64 (i : Int) → fr 9 = .pointer (some (elt p 32 i)) → fr 12 = .int .i64 (a.length : Int) → fr 13 = .int .i64 (i : Int) →
            Ret E a46 lim [.code restB46, .inBlock 1, .code (.ops [Sym.i 80 (.bin .add (t 13) (k (.int .i64 1))), Sym.i 13 (.mov (t 80))]), .inLoop L, .inBlock 0, .code tail46] fr (G ++ []) Q := by
          clear g0 g2 g3 g4 g5 g6 g7 g8 g9 g10 g12 g13
          clear fr
          intro hgo fr g0 g2 g3 g4 g5 g8 g9 g12 g13
          unfold restB46
          simp only [rest46, B46, l46_1, bdC, hdC, tlC]
          have secb : (elt p 32 i).block < H.length := by
            have hne : a ≠ [] := by rintro rfl; simp at hlt
            obtain ⟨a0, rfl⟩ := hs.some hne
            simp only [elt, addrOf, Option.getD_some, addr_block]
            exact hs.lt hne
          have hfl2 : ∀ X (mp : Bool) (lim : Nat) (Q : Value → Heap → Prop), CallR E mp lim 54 [.pointer (some (elt p 32 i))] ((G2 ++ []) ++ X) Q = Q (.int .u8 (fl s : Int)) ((G2 ++ []) ++ X) := fun X mp lim Q => flags_ok ((hat.chg cb (fun hm => by
            obtain ⟨b', k1, k2⟩ := blk_mem.1 hm
            have := (hO.block k1).1
            omega)).app X)
          have hfl3 : ∀ (mp : Bool) (lim : Nat) (Q : Value → Heap → Prop), CallR E mp lim 54 [.pointer (some (elt p 32 i))] (G2 ++ []) Q = Q (.int .u8 (fl s : Int)) (G2 ++ []) := fun mp lim Q => by
            have := hfl2 [] mp lim Q
            rw [List.append_nil (G2 ++ [])] at this
            exact this
          have hlen2 : (rec ++ pay s).length = rec.length + ln s := by rw [List.length_append, hpl]
          have ap1 : ∀ x y, q2 = some x → p2 = some y → x.block ≠ y.block := fun x y hx hy => by
            rcases q2new x hx with h | h
            · exact hap1 x y h hy
            · have := (hR.own.block hy).2; omega
          have ap2 : ∀ k, k < l.length → ∀ x y, (gt ds k).1 = some x → q2 = some y → x.block ≠ y.block := fun k hk x y hx hy => by
            rcases q2new y hy with h | h
            · exact hap2 k hk x y hx h
            · have := ((hR.row k hk).2.block hx).2; omega
          by_cases hlast : fl s < 2
          · simp only [n46, r46, g0, g2, g3, g4, g5, g8, g9, g12, g13, g44, hcell, wl, w14, hcut, e2, Nat.mul_one, Int.reduceToNat, hfl3, a2, wi1, eq_true hlast, decide_true, SB, Nat.reduceLT, callee, aOp, ne_eq, Nat.reduceEqDiff, aBin, aUn, if_true, if_false, reduceCtorEq, frame0, place, notTuple, Nat.reduceAdd, Nat.reduceLeDiff, resVal, dite_true, dite_false, Int.reduceEq, Int.reduceLT, Int.reduceLE]
            refine hN ((i + 1, true, get4 s 4), (q2, cq2, rec ++ pay s), (p2, c2, ds, l), e) _ _ ⟨by show i + 1 ≤ _; omega, (by simp only [g0, upd_same, upd_ne, ne_eq, Nat.reduceEqDiff, not_false_eq_true, frame0, List.getD_cons_zero, List.getD_cons_succ]), (by simp only [g2, upd_same, upd_ne, ne_eq, Nat.reduceEqDiff, not_false_eq_true, frame0, List.getD_cons_zero, List.getD_cons_succ]), ?_, (by simp only [g4, upd_same, upd_ne, ne_eq, Nat.reduceEqDiff, not_false_eq_true, frame0, List.getD_cons_zero, List.getD_cons_succ]), ?_, (by simp only [upd_same, upd_ne, ne_eq, Nat.reduceEqDiff, not_false_eq_true, frame0, List.getD_cons_zero, List.getD_cons_succ]), (by simp only [upd_same, upd_ne, ne_eq, Nat.reduceEqDiff, not_false_eq_true, frame0, List.getD_cons_zero, List.getD_cons_succ]), (by simp only [g12, upd_same, upd_ne, ne_eq, Nat.reduceEqDiff, not_false_eq_true, frame0, List.getD_cons_zero, List.getD_cons_succ]), (by simp only [upd_same, upd_ne, ne_eq, Nat.reduceEqDiff, not_false_eq_true, frame0, List.getD_cons_zero, List.getD_cons_succ]), ?_, C2, R2, O2, ap1, ap2, ?_, ?_⟩ (by show a.length - (i + 1) < a.length - i; omega)
            · show _ = Value.int .i64 (if i + 1 = 0 then (0 : Int) else (epochOf a : Int))
              rw [if_neg (by omega)]; exact (by simp only [g3, upd_same, upd_ne, ne_eq, Nat.reduceEqDiff, not_false_eq_true, frame0, List.getD_cons_zero, List.getD_cons_succ])
            · show _ = Value.slice q2 (rec ++ pay s).length cq2
              rw [hlen2]; exact (by simp only [upd_same, upd_ne, ne_eq, Nat.reduceEqDiff, not_false_eq_true, frame0, List.getD_cons_zero, List.getD_cons_succ])
            · show recs a = recGo _ (i + 1) (a.drop (i + 1)) true (get4 s 4) (rec ++ pay s) l e
              rw [hrec]; simp only [recGo, hgo, if_true, hlast]
            · show (rec ++ pay s).length ≤ 18 * (i + 1)
              rw [hlen2]; omega
            · show l.length ≤ i + 1; omega
          · obtain ⟨G3, e3, R3, C3⟩ := R2.snoc (lim := lim) hlim (by simp; omega) O2 ap1 (by omega) [.cells false (encD (q2, (rec ++ pay s).length, cq2))] (G2 ++ []).length 1 (by rw [hget_new0]; rfl)
            rw [hlen2] at e3 R3
            simp only [encD] at e3
            rw [List.append_nil, List.append_nil] at e3
            simp only [n46, r46, g0, g2, g3, g4, g5, g8, g9, g12, g13, g44, hcell, wl, w14, hcut, e2, Nat.mul_one, Int.reduceToNat, hfl3, a2, wi1, hlast, decide_false, e3, SB, Nat.reduceLT, callee, aOp, ne_eq, Nat.reduceEqDiff, aBin, aUn, if_true, if_false, reduceCtorEq, frame0, place, notTuple, Nat.reduceAdd, Nat.reduceLeDiff, resVal, dite_true, dite_false, Int.reduceEq, Int.reduceLT, Int.reduceLE]
            rw [List.append_nil G3, List.append_nil G2] at C3 R3
            rw [List.append_nil] at C2
            have C3' : Chg [] H G3 := C2.trans' C3 fun j hj hl => by
              obtain ⟨b', k1, k2⟩ := blk_mem.1 hj
              have := (R2.own.block k1).1
              omega
            refine hN ((i + 1, false, get4 s 4), (none, 0, []), (some ⟨G2.length + 1, 0, none⟩, loose 1, ds ++ [(q2, rec.length + ln s, cq2)], l ++ [rec ++ pay s]), i + 1) _ _ ⟨by show i + 1 ≤ _; omega, (by simp only [g0, upd_same, upd_ne, ne_eq, Nat.reduceEqDiff, not_false_eq_true, frame0, List.getD_cons_zero, List.getD_cons_succ]), (by simp only [List.length_append, List.length_cons, List.length_nil, upd_same, upd_ne, ne_eq, Nat.reduceEqDiff, not_false_eq_true, frame0, List.getD_cons_zero, List.getD_cons_succ]), ?_, (by simp only [upd_same, upd_ne, ne_eq, Nat.reduceEqDiff, not_false_eq_true, frame0, List.getD_cons_zero, List.getD_cons_succ]), (by simp only [List.length_nil, upd_same, upd_ne, ne_eq, Nat.reduceEqDiff, not_false_eq_true, frame0, List.getD_cons_zero, List.getD_cons_succ]), (by simp only [upd_same, upd_ne, ne_eq, Nat.reduceEqDiff, not_false_eq_true, frame0, List.getD_cons_zero, List.getD_cons_succ]), (by simp only [upd_same, upd_ne, ne_eq, Nat.reduceEqDiff, not_false_eq_true, frame0, List.getD_cons_zero, List.getD_cons_succ]), (by simp only [g12, upd_same, upd_ne, ne_eq, Nat.reduceEqDiff, not_false_eq_true, frame0, List.getD_cons_zero, List.getD_cons_succ]), (by simp only [upd_same, upd_ne, ne_eq, Nat.reduceEqDiff, not_false_eq_true, frame0, List.getD_cons_zero, List.getD_cons_succ]), ?_, C3', R3, Own.nil, (by intro x y h; cases h), (by intro k hk x y _ h; cases h), Nat.zero_le _, ?_⟩ (by show a.length - (i + 1) < a.length - i; omega)
            · show _ = Value.int .i64 (if i + 1 = 0 then (0 : Int) else (epochOf a : Int))
              rw [if_neg (by omega)]; exact (by simp only [g3, upd_same, upd_ne, ne_eq, Nat.reduceEqDiff, not_false_eq_true, frame0, List.getD_cons_zero, List.getD_cons_succ])
            · show recs a = recGo _ (i + 1) (a.drop (i + 1)) false (get4 s 4) [] (l ++ [rec ++ pay s]) (i + 1)
              rw [hrec]; simp only [recGo, hgo, if_true, hlast, if_false]
            · show (l ++ [rec ++ pay s]).length ≤ i + 1
              simp; omega
        cases ins
        · have h2' : ¬ fl s % 2 = 0 := by simp at h2; omega
          simp only [n46, r46, g0, g2, g3, g4, g5, g6, g7, g8, g9, g10, g12, g13, g00, g44, gf, gm, aEq, hm, eq_true h1, h2', btt, btf, bft, bff, decide_true, decide_false, h3, SB, Nat.reduceLT, callee, aOp, ne_eq, Nat.reduceEqDiff, aBin, aUn, if_true, if_false, reduceCtorEq, frame0, place, notTuple, Nat.reduceAdd, Nat.reduceLeDiff, resVal, dite_true, dite_false, Int.reduceEq, Int.reduceLT, Int.reduceLE]
          exact go (by unfold goesOn; rw [h2n, hm, decide_eq_true h1, decide_eq_true (by omega : life ≤ get4 s 4)]; rfl) _ (by simp only [g0, upd_same, upd_ne, ne_eq, Nat.reduceEqDiff, not_false_eq_true, frame0, List.getD_cons_zero, List.getD_cons_succ]) (by simp only [g2, upd_same, upd_ne, ne_eq, Nat.reduceEqDiff, not_false_eq_true, frame0, List.getD_cons_zero, List.getD_cons_succ]) (by simp only [g3, upd_same, upd_ne, ne_eq, Nat.reduceEqDiff, not_false_eq_true, frame0, List.getD_cons_zero, List.getD_cons_succ]) (by simp only [g4, upd_same, upd_ne, ne_eq, Nat.reduceEqDiff, not_false_eq_true, frame0, List.getD_cons_zero, List.getD_cons_succ]) (by simp only [g5, upd_same, upd_ne, ne_eq, Nat.reduceEqDiff, not_false_eq_true, frame0, List.getD_cons_zero, List.getD_cons_succ]) (by simp only [g8, upd_same, upd_ne, ne_eq, Nat.reduceEqDiff, not_false_eq_true, frame0, List.getD_cons_zero, List.getD_cons_succ]) (by simp only [g9, upd_same, upd_ne, ne_eq, Nat.reduceEqDiff, not_false_eq_true, frame0, List.getD_cons_zero, List.getD_cons_succ]) (by simp only [g12, upd_same, upd_ne, ne_eq, Nat.reduceEqDiff, not_false_eq_true, frame0, List.getD_cons_zero, List.getD_cons_succ]) (by simp only [g13, upd_same, upd_ne, ne_eq, Nat.reduceEqDiff, not_false_eq_true, frame0, List.getD_cons_zero, List.getD_cons_succ])
        · have h2' : fl s % 2 = 0 := by simp at h2; omega
          by_cases h4 : get4 s 4 = life
          · simp only [n46, r46, g0, g2, g3, g4, g5, g6, g7, g8, g9, g10, g12, g13, g00, g44, gf, gm, aEq, hm, eq_true h1, eq_true h2', btt, btf, bft, bff, decide_true, decide_false, h3, eq_true h4, SB, Nat.reduceLT, callee, aOp, ne_eq, Nat.reduceEqDiff, aBin, aUn, if_true, if_false, reduceCtorEq, frame0, place, notTuple, Nat.reduceAdd, Nat.reduceLeDiff, resVal, dite_true, dite_false, Int.reduceEq, Int.reduceLT, Int.reduceLE]
            exact go (by unfold goesOn; rw [h2n, hm, decide_eq_true h1, decide_eq_true (by omega : life ≤ get4 s 4), decide_eq_true h4]; rfl) _ (by simp only [g0, upd_same, upd_ne, ne_eq, Nat.reduceEqDiff, not_false_eq_true, frame0, List.getD_cons_zero, List.getD_cons_succ]) (by simp only [g2, upd_same, upd_ne, ne_eq, Nat.reduceEqDiff, not_false_eq_true, frame0, List.getD_cons_zero, List.getD_cons_succ]) (by simp only [g3, upd_same, upd_ne, ne_eq, Nat.reduceEqDiff, not_false_eq_true, frame0, List.getD_cons_zero, List.getD_cons_succ]) (by simp only [g4, upd_same, upd_ne, ne_eq, Nat.reduceEqDiff, not_false_eq_true, frame0, List.getD_cons_zero, List.getD_cons_succ]) (by simp only [g5, upd_same, upd_ne, ne_eq, Nat.reduceEqDiff, not_false_eq_true, frame0, List.getD_cons_zero, List.getD_cons_succ]) (by simp only [g8, upd_same, upd_ne, ne_eq, Nat.reduceEqDiff, not_false_eq_true, frame0, List.getD_cons_zero, List.getD_cons_succ]) (by simp only [g9, upd_same, upd_ne, ne_eq, Nat.reduceEqDiff, not_false_eq_true, frame0, List.getD_cons_zero, List.getD_cons_succ]) (by simp only [g12, upd_same, upd_ne, ne_eq, Nat.reduceEqDiff, not_false_eq_true, frame0, List.getD_cons_zero, List.getD_cons_succ]) (by simp only [g13, upd_same, upd_ne, ne_eq, Nat.reduceEqDiff, not_false_eq_true, frame0, List.getD_cons_zero, List.getD_cons_succ])
          · have hst := stop (by unfold goesOn; rw [decide_eq_false h4]; simp)
            simp only [n46, r46, g0, g2, g3, g4, g5, g6, g7, g8, g9, g10, g12, g13, g00, g44, gf, gm, aEq, hm, eq_true h1, eq_true h2', btt, btf, bft, bff, decide_true, decide_false, h3, h4, SB, Nat.reduceLT, callee, aOp, ne_eq, Nat.reduceEqDiff, aBin, aUn, if_true, if_false, reduceCtorEq, frame0, place, notTuple, Nat.reduceAdd, Nat.reduceLeDiff, resVal, dite_true, dite_false, Int.reduceEq, Int.reduceLT, Int.reduceLE]
            exact hst _ (by simp only [g2, upd_same, upd_ne, ne_eq, Nat.reduceEqDiff, not_false_eq_true, frame0, List.getD_cons_zero, List.getD_cons_succ]) (by simp only [g3, upd_same, upd_ne, ne_eq, Nat.reduceEqDiff, not_false_eq_true, frame0, List.getD_cons_zero, List.getD_cons_succ]) (by simp only [g4, upd_same, upd_ne, ne_eq, Nat.reduceEqDiff, not_false_eq_true, frame0, List.getD_cons_zero, List.getD_cons_succ])
    by_cases hi0 : i = 0
    · have h3 := hep hi0
      rw [if_pos hi0] at g3
      have hi0' : ((i : Int) = 0) = True := eq_true (by omega)
      simp only [n46, r46, g0, g2, g3, g4, g5, g6, g7, g12, g13, hlt, hidx, gf, a1, hi0', g00, h3, decide_true, SB, Nat.reduceLT, callee, aOp, ne_eq, Nat.reduceEqDiff, aBin, aUn, if_true, if_false, reduceCtorEq, frame0, place, notTuple, Nat.reduceAdd, Nat.reduceLeDiff, resVal, dite_true, dite_false, Int.reduceEq, Int.reduceLT, Int.reduceLE]
      exact mid _ (by simp only [g0, upd_same, upd_ne, ne_eq, Nat.reduceEqDiff, not_false_eq_true, frame0, List.getD_cons_zero, List.getD_cons_succ]) (by simp only [g2, upd_same, upd_ne, ne_eq, Nat.reduceEqDiff, not_false_eq_true, frame0, List.getD_cons_zero, List.getD_cons_succ]) (by simp only [upd_same, upd_ne, ne_eq, Nat.reduceEqDiff, not_false_eq_true, frame0, List.getD_cons_zero, List.getD_cons_succ]) (by simp only [g4, upd_same, upd_ne, ne_eq, Nat.reduceEqDiff, not_false_eq_true, frame0, List.getD_cons_zero, List.getD_cons_succ]) (by simp only [g5, upd_same, upd_ne, ne_eq, Nat.reduceEqDiff, not_false_eq_true, frame0, List.getD_cons_zero, List.getD_cons_succ]) (by simp only [g6, upd_same, upd_ne, ne_eq, Nat.reduceEqDiff, not_false_eq_true, frame0, List.getD_cons_zero, List.getD_cons_succ]) (by simp only [g7, upd_same, upd_ne, ne_eq, Nat.reduceEqDiff, not_false_eq_true, frame0, List.getD_cons_zero, List.getD_cons_succ]) (by simp only [upd_same, upd_ne, ne_eq, Nat.reduceEqDiff, not_false_eq_true, frame0, List.getD_cons_zero, List.getD_cons_succ]) (by simp only [upd_same, upd_ne, ne_eq, Nat.reduceEqDiff, not_false_eq_true, frame0, List.getD_cons_zero, List.getD_cons_succ]) (by simp only [upd_same, upd_ne, ne_eq, Nat.reduceEqDiff, not_false_eq_true, frame0, List.getD_cons_zero, List.getD_cons_succ]) (by simp only [g12, upd_same, upd_ne, ne_eq, Nat.reduceEqDiff, not_false_eq_true, frame0, List.getD_cons_zero, List.getD_cons_succ]) (by simp only [g13, upd_same, upd_ne, ne_eq, Nat.reduceEqDiff, not_false_eq_true, frame0, List.getD_cons_zero, List.getD_cons_succ])
    · rw [if_neg hi0] at g3
      have hi0' : ((i : Int) = 0) = False := eq_false (by omega)
      simp only [n46, r46, g0, g2, g3, g4, g5, g6, g7, g12, g13, hlt, hidx, gf, a1, hi0', decide_false, SB, Nat.reduceLT, callee, aOp, ne_eq, Nat.reduceEqDiff, aBin, aUn, if_true, if_false, reduceCtorEq, frame0, place, notTuple, Nat.reduceAdd, Nat.reduceLeDiff, resVal, dite_true, dite_false, Int.reduceEq, Int.reduceLT, Int.reduceLE]
      exact mid _ (by simp only [g0, upd_same, upd_ne, ne_eq, Nat.reduceEqDiff, not_false_eq_true, frame0, List.getD_cons_zero, List.getD_cons_succ]) (by simp only [g2, upd_same, upd_ne, ne_eq, Nat.reduceEqDiff, not_false_eq_true, frame0, List.getD_cons_zero, List.getD_cons_succ]) (by simp only [g3, upd_same, upd_ne, ne_eq, Nat.reduceEqDiff, not_false_eq_true, frame0, List.getD_cons_zero, List.getD_cons_succ]) (by simp only [g4, upd_same, upd_ne, ne_eq, Nat.reduceEqDiff, not_false_eq_true, frame0, List.getD_cons_zero, List.getD_cons_succ]) (by simp only [g5, upd_same, upd_ne, ne_eq, Nat.reduceEqDiff, not_false_eq_true, frame0, List.getD_cons_zero, List.getD_cons_succ]) (by simp only [g6, upd_same, upd_ne, ne_eq, Nat.reduceEqDiff, not_false_eq_true, frame0, List.getD_cons_zero, List.getD_cons_succ]) (by simp only [g7, upd_same, upd_ne, ne_eq, Nat.reduceEqDiff, not_false_eq_true, frame0, List.getD_cons_zero, List.getD_cons_succ]) (by simp only [upd_same, upd_ne, ne_eq, Nat.reduceEqDiff, not_false_eq_true, frame0, List.getD_cons_zero, List.getD_cons_succ]) (by simp only [upd_same, upd_ne, ne_eq, Nat.reduceEqDiff, not_false_eq_true, frame0, List.getD_cons_zero, List.getD_cons_succ]) (by simp only [upd_same, upd_ne, ne_eq, Nat.reduceEqDiff, not_false_eq_true, frame0, List.getD_cons_zero, List.getD_cons_succ]) (by simp only [g12, upd_same, upd_ne, ne_eq, Nat.reduceEqDiff, not_false_eq_true, frame0, List.getD_cons_zero, List.getD_cons_succ]) (by simp only [g13, upd_same, upd_ne, ne_eq, Nat.reduceEqDiff, not_false_eq_true, frame0, List.getD_cons_zero, List.getD_cons_succ])
  · obtain rfl : i = a.length := by omega
    rw [List.drop_length] at hrec
    simp only [recGo] at hrec
    simp only [n46, r46, g0, g2, g3, g4, g5, g6, g7, g12, g13, hlt, SB, Nat.reduceLT, callee, aOp, ne_eq, Nat.reduceEqDiff, aBin, aUn, if_true, if_false, reduceCtorEq, frame0, place, notTuple, Nat.reduceAdd, Nat.reduceLeDiff, resVal, dite_true, dite_false, Int.reduceEq, Int.reduceLT, Int.reduceLE]
    have h3 : (if a.length = 0 then (0 : Int) else (epochOf a : Int)) = (epochOf a : Int) := by
      split
      · rename_i h
        rw [List.length_eq_zero_iff.1 h]; rfl
      · rfl
    exact fin _ G p2 c2 ds hC (by rw [hrec]; exact hR) (by rw [hrec]; exact (by simp only [g2, upd_same, upd_ne, ne_eq, Nat.reduceEqDiff, not_false_eq_true, frame0, List.getD_cons_zero, List.getD_cons_succ])) (by rw [← h3]; exact (by simp only [g3, upd_same, upd_ne, ne_eq, Nat.reduceEqDiff, not_false_eq_true, frame0, List.getD_cons_zero, List.getD_cons_succ])) (by rw [hrec]; exact (by simp only [g4, upd_same, upd_ne, ne_eq, Nat.reduceEqDiff, not_false_eq_true, frame0, List.getD_cons_zero, List.getD_cons_succ]))
end Go.Proofs.Ytdddehniepofmaa.Fn
namespace Go.Proofs.Ytdddehniepofmaa.Fn
open Go.AM Go.AM.Sym
set_option maxRecDepth 100000
set_option linter.unusedVariables false
set_option linter.unusedSimpArgs false
set_option maxHeartbeats 4000000

theorem hasnt_ok {mp : Bool} {lim D B n c : Nat} {sp : Option Addr} {ro ro' : Bool} {r : List Value} {w : Wr} {H : Heap} {Q : Value → Heap → Prop} (hD : hget H D = .cells ro (.slice sp n c :: r)) (hB : hget H B = .cells ro' [.pointer (some ⟨D, 0, none⟩)]) :
    CallR E mp lim 59 [.agg (encW w).toArray, .pointer (some ⟨B, 0, none⟩)] H Q = Q (.bool (!hasA n w.pos)) H := by
  refine pc (by decide) e59 rfl rfl ?_
  rw [b59, c59]
  have hDX := fun X => (Ext.refl.app (X := X)).cells hD
  have hBX := fun X => (Ext.refl.app (X := X)).cells hB
  have hhas := fun X (a : Int) (mp : Bool) (lim : Nat) (Q : Value → Heap → Prop) => has_ok (mp := mp) (lim := lim) (a := a) (Q := Q) (hDX X)
  simp only [n59, r59, hDX, hBX, hhas, encW_len, encW_0, SB, Nat.reduceLT, callee, aOp, ne_eq, Nat.reduceEqDiff, aBin, aUn, if_true, if_false, reduceCtorEq, frame0, place, notTuple, Nat.reduceAdd, Nat.reduceLeDiff, resVal, dite_true, dite_false, Int.reduceEq, Int.reduceLT, Int.reduceLE]

theorem index_ok {mp : Bool} {lim D B n c k : Nat} {sp pp : Option Addr} {ro ro' : Bool} {r : List Value} {pend : List Wr} {H : Heap} {Q : Value → Heap → Prop} (hD : hget H D = .cells ro (.slice sp n c :: r)) (hB : hget H B = .cells ro' [.pointer (some ⟨D, 0, none⟩)]) (hP : Sl H encW 33 pp pend) (hn : pend.length < 2 ^ 60) :
    CallR E mp lim 61 [.slice pp pend.length k, .func (.func 59) #[] #[.pointer (some ⟨B, 0, none⟩)]] H Q = Q (.int .i64 (match pend.findIdx? (fun w => !hasA n w.pos) with | some i => (i : Int) | none => -1)) H := by
  refine pc (by decide) e61 rfl rfl ?_
  rw [b61, c61]
  simp only [n61, r61, SB, Nat.reduceLT, callee, aOp, ne_eq, Nat.reduceEqDiff, aBin, aUn, if_true, if_false, reduceCtorEq, frame0, place, notTuple, Nat.reduceAdd, Nat.reduceLeDiff, resVal, dite_true, dite_false, Int.reduceEq, Int.reduceLT, Int.reduceLE]
  refine Ret_rounds (fun i => pend.length - i) (fun i fr G => i ≤ pend.length ∧ fr 0 = .slice pp pend.length k ∧ fr 1 = .func (.func 59) #[] #[.pointer (some ⟨B, 0, none⟩)] ∧ fr 7 = .int .i64 (pend.length : Int) ∧ fr 8 = .int .i64 (i : Int) ∧ Ext H G ∧ ∀ j, j < i → hasA n (gt pend j).pos = true) 0
    ⟨Nat.zero_le _, (by simp only [upd_same, upd_ne, ne_eq, Nat.reduceEqDiff, not_false_eq_true, frame0, List.getD_cons_zero, List.getD_cons_succ]), (by simp only [upd_same, upd_ne, ne_eq, Nat.reduceEqDiff, not_false_eq_true, frame0, List.getD_cons_zero, List.getD_cons_succ]), (by simp only [upd_same, upd_ne, ne_eq, Nat.reduceEqDiff, not_false_eq_true, frame0, List.getD_cons_zero, List.getD_cons_succ]), by rfl, Ext.refl.app, fun j hj => by omega⟩ ?_
  intro i fr G ⟨hi, g0, g1, g7, g8, hE, hall⟩ hN
  rw [Ret_code l61_1.eq_1]
  refine Ret_pad ?_
  by_cases hlt : i < pend.length
  · have hld := fun X => ((hE.sl hP).app X).loadCells encW_len hlt
    have hidx := fun c (k : IntKind) (H1 : Heap) => (hE.sl hP).idx (c := c) (k := k) (H1 := H1) hlt
    have hw1 : IntKind.i64.wrap ((i : Int) + 1) = ((i + 1 : Nat) : Int) := wrap_nat (by omega)
    have h59 := fun X (mp : Bool) (lim : Nat) (Q : Value → Heap → Prop) => hasnt_ok (mp := mp) (lim := lim) (w := gt pend i) (Q := Q) ((Ext.refl.app (X := X)).cells (hE.cells hD)) ((Ext.refl.app (X := X)).cells (hE.cells hB))
    cases hh : hasA n (gt pend i).pos with
    | true =>
      simp only [n61, r61, g0, g1, g7, g8, hlt, hld, hidx, hw1, h59, hh, Bool.not_true, SB, Nat.reduceLT, callee, aOp, ne_eq, Nat.reduceEqDiff, aBin, aUn, if_true, if_false, reduceCtorEq, frame0, place, notTuple, Nat.reduceAdd, Nat.reduceLeDiff, resVal, dite_true, dite_false, Int.reduceEq, Int.reduceLT, Int.reduceLE]
      exact hN (i + 1) _ _ ⟨by omega, (by simp only [g0, upd_same, upd_ne, ne_eq, Nat.reduceEqDiff, not_false_eq_true, frame0, List.getD_cons_zero, List.getD_cons_succ]), (by simp only [g1, upd_same, upd_ne, ne_eq, Nat.reduceEqDiff, not_false_eq_true, frame0, List.getD_cons_zero, List.getD_cons_succ]), (by simp only [g7, upd_same, upd_ne, ne_eq, Nat.reduceEqDiff, not_false_eq_true, frame0, List.getD_cons_zero, List.getD_cons_succ]), (by simp only [upd_same, upd_ne, ne_eq, Nat.reduceEqDiff, not_false_eq_true, frame0, List.getD_cons_zero, List.getD_cons_succ]), hE.app, fun j hj => by
        rcases Nat.lt_or_ge j i with h | h
        · exact hall j h
        · have : j = i := by omega
          subst this; exact hh⟩ (by omega)
    | false =>
      simp only [n61, r61, g0, g1, g7, g8, hlt, hld, hidx, hw1, h59, hh, Bool.not_false, SB, Nat.reduceLT, callee, aOp, ne_eq, Nat.reduceEqDiff, aBin, aUn, if_true, if_false, reduceCtorEq, frame0, place, notTuple, Nat.reduceAdd, Nat.reduceLeDiff, resVal, dite_true, dite_false, Int.reduceEq, Int.reduceLT, Int.reduceLE]
      have : pend.findIdx? (fun w => !hasA n w.pos) = some i := by
        rw [List.findIdx?_eq_some_iff_getElem]
        refine ⟨hlt, by rw [← gt_lt hlt, hh]; rfl, fun j hj => ?_⟩
        rw [← gt_lt (by omega), hall j hj]; simp
      rw [this]
  obtain rfl : i = pend.length := by omega
  simp only [n61, r61, g0, g1, g7, g8, hlt, SB, Nat.reduceLT, callee, aOp, ne_eq, Nat.reduceEqDiff, aBin, aUn, if_true, if_false, reduceCtorEq, frame0, place, notTuple, Nat.reduceAdd, Nat.reduceLeDiff, resVal, dite_true, dite_false, Int.reduceEq, Int.reduceLT, Int.reduceLE]
  have : pend.findIdx? (fun w => !hasA n w.pos) = none := by
    rw [List.findIdx?_eq_none_iff]
    intro w hw
    obtain ⟨j, hj, rfl⟩ := List.mem_iff_getElem.1 hw
    have := hall j hj
    rw [gt_lt hj] at this
    simp [this]
  rw [this]
/-- Is a disk one? -/
def rightD (n : Nat) (pend : List Wr) : Bool := decide (4 ≤ n ∧ n ≤ 32768) && pend.all (fun w => hasA n w.pos)
theorem contains_ok {mp : Bool} {lim D B n c k : Nat} {sp pp : Option Addr} {ro ro' : Bool} {r : List Value} {pend : List Wr} {H : Heap} {Q : Value → Heap → Prop} (hD : hget H D = .cells ro (.slice sp n c :: r)) (hB : hget H B = .cells ro' [.pointer (some ⟨D, 0, none⟩)]) (hP : Sl H encW 33 pp pend) (hn : pend.length < 2 ^ 60) :
    CallR E mp lim 58 [.slice pp pend.length k, .func (.func 59) #[] #[.pointer (some ⟨B, 0, none⟩)]] H Q = Q (.bool (!pend.all (fun w => hasA n w.pos))) H := by
  refine pc (by decide) e58 rfl rfl ?_
  rw [b58, c58]
  have h61 := fun Y (mp : Bool) (lim : Nat) (Q : Value → Heap → Prop) => index_ok (mp := mp) (lim := lim) (Q := Q) (B := B) (k := k) (H := H ++ Y) ((Ext.refl.app).cells hD) ((Ext.refl.app).cells hB) (hP.app _) hn
  simp only [n58, r58, h61, SB, Nat.reduceLT, callee, aOp, ne_eq, Nat.reduceEqDiff, aBin, aUn, if_true, if_false, reduceCtorEq, frame0, place, notTuple, Nat.reduceAdd, Nat.reduceLeDiff, resVal, dite_true, dite_false, Int.reduceEq, Int.reduceLT, Int.reduceLE]
  cases hf : pend.findIdx? (fun w => !hasA n w.pos) with
  | none =>
    have : pend.all (fun w => hasA n w.pos) = true := by
      rw [List.findIdx?_eq_none_iff] at hf
      rw [List.all_eq_true]
      intro x hx
      simpa using hf x hx
    simp [this]
  | some i =>
    rw [List.findIdx?_eq_some_iff_getElem] at hf
    obtain ⟨h1, h2, _⟩ := hf
    have : pend.all (fun w => hasA n w.pos) = false := by
      rw [List.all_eq_false]
      exact ⟨pend[i], List.getElem_mem h1, by simpa using h2⟩
    simp [this]
theorem right_ok {mp : Bool} {lim D n c k : Nat} {sp pp : Option Addr} {ro : Bool} {pend : List Wr} {H : Heap} {Q : Value → Heap → Prop} (hD : hget H D = .cells ro [.slice sp n c, .slice pp pend.length k]) (hP : Sl H encW 33 pp pend) (hn : pend.length < 2 ^ 60) :
    CallR E mp lim 48 [.pointer (some ⟨D, 0, none⟩)] H Q = Q (.bool (rightD n pend)) H := by
  refine pc (by decide) e48 rfl rfl ?_
  rw [b48, c48]
  have hDX := fun X => (Ext.refl.app (X := X)).cells hD
  have h58 := fun X (hB : hget (H ++ X) H.length = .cells false [.pointer (some ⟨D, 0, none⟩)]) (mp : Bool) (lim : Nat) (Q : Value → Heap → Prop) => contains_ok (mp := mp) (lim := lim) (Q := Q) (k := k) (hDX X) hB (hP.app X) hn
  by_cases h4 : (4 : Int) ≤ (n : Int)
  · by_cases h5 : (n : Int) ≤ 32768
    · simp only [n48, r48, hDX, h58, h4, h5, decide_true, Bool.not_not, SB, Nat.reduceLT, callee, aOp, ne_eq, Nat.reduceEqDiff, aBin, aUn, if_true, if_false, reduceCtorEq, frame0, place, notTuple, Nat.reduceAdd, Nat.reduceLeDiff, resVal, dite_true, dite_false, Int.reduceEq, Int.reduceLT, Int.reduceLE]
      simp only [rightD, decide_eq_true (by omega : 4 ≤ n ∧ n ≤ 32768), Bool.true_and]
    · simp only [n48, r48, hDX, h58, h4, h5, decide_true, decide_false, SB, Nat.reduceLT, callee, aOp, ne_eq, Nat.reduceEqDiff, aBin, aUn, if_true, if_false, reduceCtorEq, frame0, place, notTuple, Nat.reduceAdd, Nat.reduceLeDiff, resVal, dite_true, dite_false, Int.reduceEq, Int.reduceLT, Int.reduceLE]
      simp only [rightD, decide_eq_false (by omega : ¬ (4 ≤ n ∧ n ≤ 32768)), Bool.false_and]
  · simp only [n48, r48, hDX, h58, h4, decide_true, decide_false, SB, Nat.reduceLT, callee, aOp, ne_eq, Nat.reduceEqDiff, aBin, aUn, if_true, if_false, reduceCtorEq, frame0, place, notTuple, Nat.reduceAdd, Nat.reduceLeDiff, resVal, dite_true, dite_false, Int.reduceEq, Int.reduceLT, Int.reduceLE]
    simp only [rightD, decide_eq_false (by omega : ¬ (4 ≤ n ∧ n ≤ 32768)), Bool.false_and]

/-- The greatest epoch and life of an area, from the number i on. -/
def grGo : Nat → List Sec → Nat × Nat → Nat × Nat
  | _, [], x => x
  | i, s :: r, x => grGo (i + 1) r (if sMarked s i then (max x.1 (get4 s 0), max x.2 (get4 s 4)) else x)
theorem grGo_drop {a : List Sec} {i : Nat} {x : Nat × Nat} (h : i < a.length) : grGo i (a.drop i) x = grGo (i + 1) (a.drop (i + 1)) (if sMarked (gt a i) i then (max x.1 (get4 (gt a i) 0), max x.2 (get4 (gt a i) 4)) else x) := by
  rw [List.drop_eq_getElem_cons h, grGo, gt_lt h]
theorem maxv {n m : Nat} : aMinMaxAll true (.int .i64 (n : Int)) [.int .i64 (m : Int)] = some (.int .i64 ((max n m : Nat) : Int)) := by
  simp only [aMinMaxAll, aMinMax, if_true]
  congr 2
  split <;> omega
theorem inner49 {lim : Nat} {p : Option Addr} {c : Nat} {a : List Sec} {x : Nat × Nat} {fr : Nat → Value} {G : Heap} {K : List AItem} {R : Value → Heap → Prop} (hs : Sl G encX 32 p a) (ha : a.length < 2 ^ 30) (f2 : fr 2 = .int .i64 (x.1 : Int)) (f3 : fr 3 = .int .i64 (x.2 : Int)) (f5 : fr 5 = .slice p a.length c) (f13 : fr 13 = .int .i64 (a.length : Int)) (f14 : fr 14 = .int .i64 0)
    (hR : ∀ fr', fr' 2 = .int .i64 ((grGo 0 a x).1 : Int) → fr' 3 = .int .i64 ((grGo 0 a x).2 : Int) → fr' 8 = fr 8 → fr' 9 = fr 9 → Ret E a49 lim K fr' (G ++ []) R) :
    Ret E a49 lim (.code (.loop l49_1) :: .inBlock 2 :: K) fr G R := by
  refine Ret_rounds (fun s : Nat × Nat × Nat => a.length - s.1) (fun s fr' G' => s.1 ≤ a.length ∧ G' = G ∧ fr' 2 = .int .i64 (s.2.1 : Int) ∧ fr' 3 = .int .i64 (s.2.2 : Int) ∧ fr' 5 = .slice p a.length c ∧ fr' 13 = .int .i64 (a.length : Int) ∧ fr' 14 = .int .i64 (s.1 : Int) ∧ fr' 8 = fr 8 ∧ fr' 9 = fr 9 ∧ grGo 0 a x = grGo s.1 (a.drop s.1) s.2) (0, x)
    ⟨Nat.zero_le _, rfl, f2, f3, f5, f13, f14, rfl, rfl, rfl⟩ ?_
  rintro ⟨i, y⟩ fr' G' ⟨hi, rfl, g2, g3, g5, g13, g14, g8, g9, hx⟩ hN
  simp only at hi g2 g3 g14 hx
  rw [Ret_code l49_1.eq_1]
  refine Ret_pad ?_
  by_cases hlt : i < a.length
  · have hat := SecAt.of_elt hs hlt
    have hidx := fun c (k : IntKind) (H1 : Heap) => hs.idx (c := c) (k := k) (H1 := H1) hlt
    have hX := fun X => hat.app X
    have g00 := fun X (mp : Bool) (lim : Nat) (Q : Value → Heap → Prop) => get_ok (mp := mp) (lim := lim) (Q := Q) (n := 0) (hX X) (by decide)
    have g44 := fun X (mp : Bool) (lim : Nat) (Q : Value → Heap → Prop) => get_ok (mp := mp) (lim := lim) (Q := Q) (n := 4) (hX X) (by decide)
    simp only [Int.cast_ofNat_Int] at g00 g44
    have gm := fun X (mp : Bool) (lim : Nat) (Q : Value → Heap → Prop) => marked_ok (mp := mp) (lim := lim) (Q := Q) (n := i) (hX X) (by omega)
    have hw1 : IntKind.i64.wrap ((i : Int) + 1) = ((i + 1 : Nat) : Int) := wrap_nat (by omega)
    rw [grGo_drop hlt] at hx
    cases hm : sMarked (gt a i) i with
    | true =>
      rw [hm, if_pos rfl] at hx
      simp only [n49, r49, g2, g3, g5, g13, g14, hlt, hidx, g00, g44, gm, hm, hw1, maxv, SB, Nat.reduceLT, callee, aOp, ne_eq, Nat.reduceEqDiff, aBin, aUn, if_true, if_false, reduceCtorEq, frame0, place, notTuple, Nat.reduceAdd, Nat.reduceLeDiff, resVal, dite_true, dite_false, Int.reduceEq, Int.reduceLT, Int.reduceLE]
      have := hN (i + 1, max y.1 (get4 (gt a i) 0), max y.2 (get4 (gt a i) 4))
      rw [List.append_nil]
      exact this _ _ ⟨by show i + 1 ≤ _; omega, rfl, (by simp only [upd_same, upd_ne, ne_eq, Nat.reduceEqDiff, not_false_eq_true, frame0, List.getD_cons_zero, List.getD_cons_succ]), (by simp only [upd_same, upd_ne, ne_eq, Nat.reduceEqDiff, not_false_eq_true, frame0, List.getD_cons_zero, List.getD_cons_succ]), (by simp only [g5, upd_same, upd_ne, ne_eq, Nat.reduceEqDiff, not_false_eq_true, frame0, List.getD_cons_zero, List.getD_cons_succ]), (by simp only [g13, upd_same, upd_ne, ne_eq, Nat.reduceEqDiff, not_false_eq_true, frame0, List.getD_cons_zero, List.getD_cons_succ]), (by simp only [upd_same, upd_ne, ne_eq, Nat.reduceEqDiff, not_false_eq_true, frame0, List.getD_cons_zero, List.getD_cons_succ]), by rw [← g8]; exact (by simp only [upd_same, upd_ne, ne_eq, Nat.reduceEqDiff, not_false_eq_true, frame0, List.getD_cons_zero, List.getD_cons_succ]), by rw [← g9]; exact (by simp only [upd_same, upd_ne, ne_eq, Nat.reduceEqDiff, not_false_eq_true, frame0, List.getD_cons_zero, List.getD_cons_succ]), hx⟩ (by show _ - (i + 1) < _; omega)
    | false =>
      rw [hm, if_neg (by decide)] at hx
      simp only [n49, r49, g2, g3, g5, g13, g14, hlt, hidx, g00, g44, gm, hm, hw1, maxv, SB, Nat.reduceLT, callee, aOp, ne_eq, Nat.reduceEqDiff, aBin, aUn, if_true, if_false, reduceCtorEq, frame0, place, notTuple, Nat.reduceAdd, Nat.reduceLeDiff, resVal, dite_true, dite_false, Int.reduceEq, Int.reduceLT, Int.reduceLE]
      rw [List.append_nil]
      exact hN (i + 1, y) _ _ ⟨by show i + 1 ≤ _; omega, rfl, (by simp only [g2, upd_same, upd_ne, ne_eq, Nat.reduceEqDiff, not_false_eq_true, frame0, List.getD_cons_zero, List.getD_cons_succ]), (by simp only [g3, upd_same, upd_ne, ne_eq, Nat.reduceEqDiff, not_false_eq_true, frame0, List.getD_cons_zero, List.getD_cons_succ]), (by simp only [g5, upd_same, upd_ne, ne_eq, Nat.reduceEqDiff, not_false_eq_true, frame0, List.getD_cons_zero, List.getD_cons_succ]), (by simp only [g13, upd_same, upd_ne, ne_eq, Nat.reduceEqDiff, not_false_eq_true, frame0, List.getD_cons_zero, List.getD_cons_succ]), (by simp only [upd_same, upd_ne, ne_eq, Nat.reduceEqDiff, not_false_eq_true, frame0, List.getD_cons_zero, List.getD_cons_succ]), by rw [← g8]; exact (by simp only [upd_same, upd_ne, ne_eq, Nat.reduceEqDiff, not_false_eq_true, frame0, List.getD_cons_zero, List.getD_cons_succ]), by rw [← g9]; exact (by simp only [upd_same, upd_ne, ne_eq, Nat.reduceEqDiff, not_false_eq_true, frame0, List.getD_cons_zero, List.getD_cons_succ]), hx⟩ (by show _ - (i + 1) < _; omega)
  obtain rfl : i = a.length := by omega
  rw [List.drop_length, grGo] at hx
  simp only [n49, r49, g2, g3, g5, g13, g14, hlt, SB, Nat.reduceLT, callee, aOp, ne_eq, Nat.reduceEqDiff, aBin, aUn, if_true, if_false, reduceCtorEq, frame0, place, notTuple, Nat.reduceAdd, Nat.reduceLeDiff, resVal, dite_true, dite_false, Int.reduceEq, Int.reduceLT, Int.reduceLE]
  exact hR _ (by rw [hx]; exact (by simp only [g2, upd_same, upd_ne, ne_eq, Nat.reduceEqDiff, not_false_eq_true, frame0, List.getD_cons_zero, List.getD_cons_succ])) (by rw [hx]; exact (by simp only [g3, upd_same, upd_ne, ne_eq, Nat.reduceEqDiff, not_false_eq_true, frame0, List.getD_cons_zero, List.getD_cons_succ])) (by rw [← g8]; exact (by simp only [upd_same, upd_ne, ne_eq, Nat.reduceEqDiff, not_false_eq_true, frame0, List.getD_cons_zero, List.getD_cons_succ])) (by rw [← g9]; exact (by simp only [upd_same, upd_ne, ne_eq, Nat.reduceEqDiff, not_false_eq_true, frame0, List.getD_cons_zero, List.getD_cons_succ]))
theorem greatest_ok {mp : Bool} {lim c c' : Nat} {p q : Option Addr} {a b : List Sec} {H : Heap} {Q : Value → Heap → Prop} (ha : Sl H encX 32 p a) (hb : Sl H encX 32 q b) (na : a.length < 2 ^ 30) (nb : b.length < 2 ^ 30) :
    CallR E mp lim 49 [.agg #[.slice p a.length c, .slice q b.length c']] H Q = Q (.tuple #[.int .i64 ((grGo 0 b (grGo 0 a (0, 0))).1 : Int), .int .i64 ((grGo 0 b (grGo 0 a (0, 0))).2 : Int)]) H := by
  refine pc (by decide) e49 rfl rfl ?_
  rw [b49, c49]
  have w1 : IntKind.i64.wrap ((0 : Int) + 1) = 1 := by decide
  have w2 : IntKind.i64.wrap ((1 : Int) + 1) = 2 := by decide
  simp only [n49, r49, SB, Nat.reduceLT, callee, aOp, ne_eq, Nat.reduceEqDiff, aBin, aUn, if_true, if_false, reduceCtorEq, frame0, place, notTuple, Nat.reduceAdd, Nat.reduceLeDiff, resVal, dite_true, dite_false, Int.reduceEq, Int.reduceLT, Int.reduceLE]
  rw [Ret_loop, ← Ret_inLoop, Ret_inLoop]
  rw [Ret_code l49_2.eq_1]
  simp only [n49, r49, Int.toNat_zero, Int.toNat_one, Nat.mul_one, Nat.zero_mul, List.getElem?_cons_succ, SB, Nat.reduceLT, callee, aOp, ne_eq, Nat.reduceEqDiff, aBin, aUn, if_true, if_false, reduceCtorEq, frame0, place, notTuple, Nat.reduceAdd, Nat.reduceLeDiff, resVal, dite_true, dite_false, Int.reduceEq, Int.reduceLT, Int.reduceLE]
  refine inner49 (c := c) (x := (0, 0)) (ha.app _) na (by simp only [Int.cast_ofNat_Int, upd_same, upd_ne, ne_eq, Nat.reduceEqDiff, not_false_eq_true, frame0, List.getD_cons_zero, List.getD_cons_succ]) (by simp only [Int.cast_ofNat_Int, upd_same, upd_ne, ne_eq, Nat.reduceEqDiff, not_false_eq_true, frame0, List.getD_cons_zero, List.getD_cons_succ]) (by simp only [upd_same, upd_ne, ne_eq, Nat.reduceEqDiff, not_false_eq_true, frame0, List.getD_cons_zero, List.getD_cons_succ]) (by simp only [upd_same, upd_ne, ne_eq, Nat.reduceEqDiff, not_false_eq_true, frame0, List.getD_cons_zero, List.getD_cons_succ]) (by simp only [upd_same, upd_ne, ne_eq, Nat.reduceEqDiff, not_false_eq_true, frame0, List.getD_cons_zero, List.getD_cons_succ]) fun fr1 k2 k3 k8 k9 => ?_
  have k8' : fr1 8 = .agg #[.slice p a.length c, .slice q b.length c'] := k8.trans (by simp only [upd_same, upd_ne, ne_eq, Nat.reduceEqDiff, not_false_eq_true, frame0, List.getD_cons_zero, List.getD_cons_succ])
  have k9' : fr1 9 = .int .i64 0 := k9.trans (by simp only [upd_same, upd_ne, ne_eq, Nat.reduceEqDiff, not_false_eq_true, frame0, List.getD_cons_zero, List.getD_cons_succ])
  simp only [n49, r49, k2, k3, k8', k9', w1, SB, Nat.reduceLT, callee, aOp, ne_eq, Nat.reduceEqDiff, aBin, aUn, if_true, if_false, reduceCtorEq, frame0, place, notTuple, Nat.reduceAdd, Nat.reduceLeDiff, resVal, dite_true, dite_false, Int.reduceEq, Int.reduceLT, Int.reduceLE]
  rw [Ret_inLoop, Ret_code l49_2.eq_1]
  simp only [n49, r49, k2, k3, k8', k9', w1, Int.toNat_zero, Int.toNat_one, Nat.mul_one, Nat.zero_mul, List.getElem?_cons_succ, SB, Nat.reduceLT, callee, aOp, ne_eq, Nat.reduceEqDiff, aBin, aUn, if_true, if_false, reduceCtorEq, frame0, place, notTuple, Nat.reduceAdd, Nat.reduceLeDiff, resVal, dite_true, dite_false, Int.reduceEq, Int.reduceLT, Int.reduceLE]
  refine inner49 (c := c') (x := grGo 0 a (0, 0)) (hb.app _) nb (by simp only [k2, upd_same, upd_ne, ne_eq, Nat.reduceEqDiff, not_false_eq_true, frame0, List.getD_cons_zero, List.getD_cons_succ]) (by simp only [k3, upd_same, upd_ne, ne_eq, Nat.reduceEqDiff, not_false_eq_true, frame0, List.getD_cons_zero, List.getD_cons_succ]) (by simp only [upd_same, upd_ne, ne_eq, Nat.reduceEqDiff, not_false_eq_true, frame0, List.getD_cons_zero, List.getD_cons_succ]) (by simp only [upd_same, upd_ne, ne_eq, Nat.reduceEqDiff, not_false_eq_true, frame0, List.getD_cons_zero, List.getD_cons_succ]) (by simp only [upd_same, upd_ne, ne_eq, Nat.reduceEqDiff, not_false_eq_true, frame0, List.getD_cons_zero, List.getD_cons_succ]) fun fr2 j2 j3 j8 j9 => ?_
  have j9' : fr2 9 = .int .i64 1 := j9.trans (by simp only [upd_same, upd_ne, ne_eq, Nat.reduceEqDiff, not_false_eq_true, frame0, List.getD_cons_zero, List.getD_cons_succ])
  simp only [n49, r49, j2, j3, j9', w2, SB, Nat.reduceLT, callee, aOp, ne_eq, Nat.reduceEqDiff, aBin, aUn, if_true, if_false, reduceCtorEq, frame0, place, notTuple, Nat.reduceAdd, Nat.reduceLeDiff, resVal, dite_true, dite_false, Int.reduceEq, Int.reduceLT, Int.reduceLE]
  rw [Ret_inLoop, Ret_code l49_2.eq_1]
  simp only [n49, r49, j2, j3, j9', w2, SB, Nat.reduceLT, callee, aOp, ne_eq, Nat.reduceEqDiff, aBin, aUn, if_true, if_false, reduceCtorEq, frame0, place, notTuple, Nat.reduceAdd, Nat.reduceLeDiff, resVal, dite_true, dite_false, Int.reduceEq, Int.reduceLT, Int.reduceLE]
end Go.Proofs.Ytdddehniepofmaa.Fn
namespace Go.Proofs.Ytdddehniepofmaa.Fn
open Go.AM Go.AM.Sym
set_option maxRecDepth 100000
set_option linter.unusedVariables false
set_option linter.unusedSimpArgs false
set_option maxHeartbeats 4000000

/-- A journal lies with its disk. -/
structure Lies (lim : Nat) (H : Heap) (J D S area e lf n sc : Nat) (pp : Option Addr) (cp : Nat) (safe : List Sec) (pend : List Wr) : Prop where
  jl : JLies lim H J D area e lf n safe.length sc (some ⟨S, 0, none⟩) pp cp pend
  s : hget H S = .cells false (safe.flatMap encX)
  lS : lim ≤ S
  SD : S ≠ D
  SJ : S ≠ J
  ps : ∀ a, pp = some a → a.block ≠ S
  ne : safe ≠ []

theorem max0 {a b : Nat} : aMinMaxAll true (.int .i64 0) [.int .i64 ((a : Int) - (b : Int))] = some (.int .i64 ((a - b : Nat) : Int)) := by
  simp only [aMinMaxAll, aMinMax, if_true]
  congr 2
  split <;> omega
theorem needN_le (n : Nat) : needN n ≤ n + 1 := by unfold needN; omega
theorem Room_ok {mp : Bool} {lim l2 J D S area e lf n sc cp : Nat} {pp : Option Addr} {safe : List Sec} {pend : List Wr} {H : Heap} {Q : Value → Heap → Prop} (h : Lies l2 H J D S area e lf n sc pp cp safe pend) (hn : safe.length < 2 ^ 30) (hn2 : n < 2 ^ 30) :
    CallR E mp lim 32 [.pointer (some ⟨J, 0, none⟩)] H Q = Q (.int .i64 ((safe.length / 2 - n : Nat) : Int)) H := by
  refine pc (by decide) e32 rfl rfl ?_
  rw [b32, c32]
  have hJX := fun X => (Ext.refl.app (X := X)).cells h.jl.j
  have hDX := fun X => (Ext.refl.app (X := X)).cells h.jl.d
  have hm := fun X (mp : Bool) (lim : Nat) (Q : Value → Heap → Prop) => missing_ok (mp := mp) (lim := lim) (Q := Q) (hJX X)
  have hs := fun X (mp : Bool) (lim : Nat) (Q : Value → Heap → Prop) => size_ok (mp := mp) (lim := lim) (Q := Q) (hDX X) (by omega)
  have hw : IntKind.i64.wrap (((safe.length / 2 : Nat) : Int) - (n : Int)) = ((safe.length / 2 : Nat) : Int) - (n : Int) := wrap_id (by omega) (by omega)
  simp only [n32, r32, hm, hs, hJX, hw, max0, SB, Nat.reduceLT, callee, aOp, ne_eq, Nat.reduceEqDiff, aBin, aUn, if_true, if_false, reduceCtorEq, frame0, place, notTuple, Nat.reduceAdd, Nat.reduceLeDiff, resVal, dite_true, dite_false, Int.reduceEq, Int.reduceLT, Int.reduceLE]

theorem Commit_ok {lim J D S area e lf n sc cp : Nat} {pp : Option Addr} {safe : List Sec} {pend : List Wr} {H : Heap} {Q : Value → Heap → Prop} (h : Lies lim H J D S area e lf n sc pp cp safe pend) (hn : safe.length < 2 ^ 30) (hn2 : pend.length < 2 ^ 30)
    (hQ : ∀ H', Chg [S, D] H H' → Lies lim H' J D S area e lf n sc none 0 (crashed [] pend safe) [] → Q (.int .i64 0) H') :
    CallR E false lim 34 [.pointer (some ⟨J, 0, none⟩)] H Q := by
  refine runs (by decide) e34 rfl ?_
  rw [b34, c34]
  have hJX := fun X => (Ext.refl.app (X := X)).cells h.jl.j
  have hm := fun X (mp : Bool) (lim : Nat) (Q : Value → Heap → Prop) => missing_ok (mp := mp) (lim := lim) (Q := Q) (hJX X)
  simp only [n34, r34, hm, hJX, SB, Nat.reduceLT, callee, aOp, ne_eq, Nat.reduceEqDiff, aBin, aUn, if_true, if_false, reduceCtorEq, frame0, place, notTuple, Nat.reduceAdd, Nat.reduceLeDiff, resVal, dite_true, dite_false, Int.reduceEq, Int.reduceLT, Int.reduceLE]
  rw [List.append_nil]
  refine Sync_ok h.jl.d h.jl.lD (fun _ => ⟨rfl, h.s, h.lS⟩) h.SD (h.jl.own.sl encW_len) (fun a e _ => ⟨h.ps a e, (h.jl.ap a e).2⟩) (by omega) (by omega) fun H' hC hD' hS' => ?_
  refine Ret_pad ?_
  simp only [n34, r34, SB, Nat.reduceLT, callee, aOp, ne_eq, Nat.reduceEqDiff, aBin, aUn, if_true, if_false, reduceCtorEq, frame0, place, notTuple, Nat.reduceAdd, Nat.reduceLeDiff, resVal, dite_true, dite_false, Int.reduceEq, Int.reduceLT, Int.reduceLE]
  have hl : (crashed [] pend safe).length = safe.length := crashed_len
  rw [List.append_nil]
  refine hQ H' hC ⟨⟨hC.cells h.jl.j (by simp [h.SJ.symm, h.jl.JD]), by rw [hl]; exact hD', Own.nil, h.jl.lJ, h.jl.lD, h.jl.JD, by intro a e; cases e⟩, hS' h.ne, h.lS, h.SD, h.SJ, (by intro a e; cases e), fun e => h.ne (by rw [← List.length_eq_zero_iff, ← hl, e]; rfl)⟩
theorem Chg.lies {lim J D S area e lf n sc cp : Nat} {pp : Option Addr} {safe : List Sec} {pend : List Wr} {H H' : Heap} {L : List Nat} (h : Lies lim H J D S area e lf n sc pp cp safe pend) (hc : Chg L H H') (hL : ∀ j ∈ L, j ≠ J ∧ j ≠ D ∧ j ≠ S ∧ ∀ a, pp = some a → a.block ≠ j) : Lies lim H' J D S area e lf n sc pp cp safe pend := by
  have nin : ∀ j, (j = J ∨ j = D ∨ j = S) → j ∉ L := fun j h1 h2 => by have := hL j h2; omega
  exact ⟨⟨hc.cells h.jl.j (nin _ (by omega)), hc.cells h.jl.d (nin _ (by omega)), h.jl.own.chg hc fun a e hh => (hL _ hh).2.2.2 a e rfl, h.jl.lJ, h.jl.lD, h.jl.JD, h.jl.ap⟩, hc.cells h.s (nin _ (by omega)), h.lS, h.SD, h.SJ, h.ps, h.ne⟩
/-- A record is written, with the disk in sight. -/
theorem writeL_ok {lim J D S area e lf n sc cp c : Nat} {pp p : Option Addr} {safe : List Sec} {pend : List Wr} {b : List UInt8} {H : Heap} {Q : Value → Heap → Prop} (h : Lies lim H J D S area e lf n sc pp cp safe pend) (hs : Sl H encb 1 p b) (hc : CapOk 1 c b.length) (hz : b = [] → p = none) (hp : ∀ a, p = some a → b ≠ [] → a.block ≠ J ∧ a.block ≠ D ∧ a.block ∉ blk pp) (hb : b.length < 2 ^ 20) (hn : safe.length < 2 ^ 30) (hpe : pend.length < 2 ^ 30) (hnn : n < 2 ^ 30) (har : area ≤ 1)
    (hQ : ∀ H' pp' cp', Chg (J :: D :: blk pp) H H' → (∀ a, pp' = some a → a.block ∉ blk pp → H.length ≤ a.block) → Lies lim H' J D S area e lf (n + needN b.length) sc pp' cp' safe (pend ++ wrsOf (area * (safe.length / 2)) e lf n (pcs b)) → Q (.tuple #[]) (H' ++ [])) :
    CallR E false lim 45 [.pointer (some ⟨J, 0, none⟩), .slice p b.length c] H Q := by
  refine write_ok h.jl hs hc hz hp hb hpe hnn hn har fun H' pp' cp' k1 k2 k3 => hQ H' pp' cp' k1 k3 ?_
  rw [pcs_need] at k2
  have hSb : S ∉ blk pp := fun hh => by
    cases pp with
    | none => simp [blk] at hh
    | some a => simp only [blk, List.mem_singleton] at hh; exact h.ps a rfl hh.symm
  have hSl : S < H.length := hget_alive h.s
  refine ⟨k2, k1.cells h.s (by simp only [List.mem_cons, not_or]; exact ⟨h.SJ, h.SD, hSb⟩), h.lS, h.SD, h.SJ, fun a ea => ?_, h.ne⟩
  by_cases hb' : a.block ∈ blk pp
  · intro e1; rw [e1] at hb'; exact hSb hb'
  · have := k3 a ea hb'; omega
theorem Append_ok {lim J D S area e lf n sc cp c : Nat} {pp p : Option Addr} {safe : List Sec} {pend : List Wr} {b : List UInt8} {H : Heap} {Q : Value → Heap → Prop} (h : Lies lim H J D S area e lf n sc pp cp safe pend) (hs : Sl H encb 1 p b) (hc : CapOk 1 c b.length) (hz : b = [] → p = none) (hp : ∀ a, p = some a → b ≠ [] → a.block ≠ J ∧ a.block ≠ D ∧ a.block ∉ blk pp) (hb : b.length ≤ 4000) (hn : safe.length < 2 ^ 30) (hpe : pend.length < 2 ^ 30) (hnn : n < 2 ^ 30) (har : area ≤ 1)
    (hF : safe.length / 2 - n < needN b.length → Q (.int .i64 4) H)
    (hQ : ∀ H' pp' cp', needN b.length ≤ safe.length / 2 - n → Chg (J :: D :: blk pp) H H' → (∀ a, pp' = some a → a.block ∉ blk pp → H.length ≤ a.block) → Lies lim H' J D S area e lf (n + needN b.length) sc pp' cp' safe (pend ++ wrsOf (area * (safe.length / 2)) e lf n (pcs b)) → Q (.int .i64 0) H') :
    CallR E false lim 31 [.pointer (some ⟨J, 0, none⟩), .slice p b.length c] H Q := by
  refine runs (by decide) e31 rfl ?_
  rw [b31, c31]
  have hJX := fun X => (Ext.refl.app (X := X)).cells h.jl.j
  have hm := fun X (mp : Bool) (lim : Nat) (Q : Value → Heap → Prop) => missing_ok (mp := mp) (lim := lim) (Q := Q) (hJX X)
  have hnd := fun X (mp : Bool) (lim : Nat) (Q : Value → Heap → Prop) => need_ok (mp := mp) (lim := lim) (Q := Q) (H := H ++ X) (p := p) (k := c) (n := b.length) (by omega)
  have hLX := fun X => Chg.lies h (Chg.refl.app (X := X) : Chg [] H (H ++ X)) (by simp)
  have hrm := fun X (mp : Bool) (l2 : Nat) (Q : Value → Heap → Prop) => Room_ok (mp := mp) (lim := l2) (Q := Q) (hLX X) hn hnn
  have h4 : ¬ (4000 : Int) < (b.length : Int) := by omega
  by_cases hr : safe.length / 2 - n < needN b.length
  · have hr' : (((safe.length / 2 - n : Nat) : Int) < (needN b.length : Int)) := by omega
    simp only [n31, r31, hm, hJX, h4, hnd, hrm, hr', SB, Nat.reduceLT, callee, aOp, ne_eq, Nat.reduceEqDiff, aBin, aUn, if_true, if_false, reduceCtorEq, frame0, place, notTuple, Nat.reduceAdd, Nat.reduceLeDiff, resVal, dite_true, dite_false, Int.reduceEq, Int.reduceLT, Int.reduceLE]
    rw [List.append_nil]
    exact hF hr
  · have hr' : ¬ (((safe.length / 2 - n : Nat) : Int) < (needN b.length : Int)) := by omega
    simp only [n31, r31, hm, hJX, h4, hnd, hrm, hr', SB, Nat.reduceLT, callee, aOp, ne_eq, Nat.reduceEqDiff, aBin, aUn, if_true, if_false, reduceCtorEq, frame0, place, notTuple, Nat.reduceAdd, Nat.reduceLeDiff, resVal, dite_true, dite_false, Int.reduceEq, Int.reduceLT, Int.reduceLE]
    rw [List.append_nil]
    refine writeL_ok h hs hc hz hp (by omega) hn hpe hnn har fun H' pp' cp' k1 k2 k3 => ?_
    simp only [n31, r31, SB, Nat.reduceLT, callee, aOp, ne_eq, Nat.reduceEqDiff, aBin, aUn, if_true, if_false, reduceCtorEq, frame0, place, notTuple, Nat.reduceAdd, Nat.reduceLeDiff, resVal, dite_true, dite_false, Int.reduceEq, Int.reduceLT, Int.reduceLE]
    rw [List.append_nil]
    exact hQ H' pp' cp' (by omega) k1 k2 k3

theorem Checkpoint_ok {lim J D S area e lf n sc cp c : Nat} {pp p : Option Addr} {safe : List Sec} {pend : List Wr} {b : List UInt8} {H : Heap} {Q : Value → Heap → Prop} (h : Lies lim H J D S area e lf n sc pp cp safe pend) (hs : Sl H encb 1 p b) (hc : CapOk 1 c b.length) (hz : b = [] → p = none) (hp : ∀ a, p = some a → b ≠ [] → a.block ≠ J ∧ a.block ≠ D ∧ a.block ∉ blk pp) (hb : b.length ≤ 4000) (hn : safe.length < 2 ^ 30) (hpe : pend.length + 2 ^ 20 < 2 ^ 30) (he : e < 1073741824) (har : area ≤ 1)
    (hF : safe.length / 2 < needN b.length → Q (.int .i64 4) H)
    (hQ : ∀ H', needN b.length ≤ safe.length / 2 → Chg (S :: J :: D :: blk pp) H H' → Lies lim H' J D S (1 - area) (e + 1) lf (needN b.length) sc none 0 (crashed [] (pend ++ wrsOf ((1 - area) * (safe.length / 2)) (e + 1) lf 0 (pcs b)) safe) [] → Q (.int .i64 0) H') :
    CallR E false lim 30 [.pointer (some ⟨J, 0, none⟩), .slice p b.length c] H Q := by
  refine runs (by decide) e30 rfl ?_
  rw [b30, c30]
  have hJX := fun X => (Ext.refl.app (X := X)).cells h.jl.j
  have hDX := fun X => (Ext.refl.app (X := X)).cells h.jl.d
  have hm := fun X (mp : Bool) (lim : Nat) (Q : Value → Heap → Prop) => missing_ok (mp := mp) (lim := lim) (Q := Q) (hJX X)
  have hnd := fun X (mp : Bool) (lim : Nat) (Q : Value → Heap → Prop) => need_ok (mp := mp) (lim := lim) (Q := Q) (H := H ++ X) (p := p) (k := c) (n := b.length) (by omega)
  have hsz := fun X (mp : Bool) (lim : Nat) (Q : Value → Heap → Prop) => size_ok (mp := mp) (lim := lim) (Q := Q) (hDX X) (by omega)
  have h4 : ¬ (4000 : Int) < (b.length : Int) := by omega
  by_cases hr : safe.length / 2 < needN b.length
  · have hr' : (((safe.length / 2 : Nat) : Int) < (needN b.length : Int)) := by omega
    simp only [n30, r30, hm, hJX, h4, hnd, hsz, hr', SB, Nat.reduceLT, callee, aOp, ne_eq, Nat.reduceEqDiff, aBin, aUn, if_true, if_false, reduceCtorEq, frame0, place, notTuple, Nat.reduceAdd, Nat.reduceLeDiff, resVal, dite_true, dite_false, Int.reduceEq, Int.reduceLT, Int.reduceLE]
    rw [List.append_nil]
    exact hF hr
  · have hr' : ¬ (((safe.length / 2 : Nat) : Int) < (needN b.length : Int)) := by omega
    have he' : ¬ (1073741824 : Int) ≤ (e : Int) := by omega
    have lJ := h.jl.lJ
    have hJl := hget_alive h.jl.j
    obtain ⟨G1, s1, g1, m1⟩ := mut_set hJl (.cells false [.pointer (some ⟨D, 0, none⟩), .int .i64 ((1 - area : Nat) : Int), .int .i64 (e : Int), .int .i64 (lf : Int), .int .i64 (n : Int)])
    obtain ⟨G2, s2, g2, m2⟩ := mut_set (hget_alive g1) (.cells false [.pointer (some ⟨D, 0, none⟩), .int .i64 ((1 - area : Nat) : Int), .int .i64 ((e + 1 : Nat) : Int), .int .i64 (lf : Int), .int .i64 (n : Int)])
    obtain ⟨G3, s3, g3, m3⟩ := mut_set (hget_alive g2) (.cells false [.pointer (some ⟨D, 0, none⟩), .int .i64 ((1 - area : Nat) : Int), .int .i64 ((e + 1 : Nat) : Int), .int .i64 (lf : Int), .int .i64 0])
    have w1 : IntKind.i64.wrap (1 - (area : Int)) = ((1 - area : Nat) : Int) := by rw [wrap_id (by omega) (by omega)]; omega
    have w2 : IntKind.i64.wrap ((e : Int) + 1) = ((e + 1 : Nat) : Int) := wrap_nat (by omega)
    have g1X := fun X => (Ext.refl.app (X := X)).cells g1
    have g2X := fun X => (Ext.refl.app (X := X)).cells g2
    simp only [n30, r30, hm, hJX, h4, hnd, hsz, hr', he', lJ, s1, s2, s3, g1X, g2X, w1, w2, SB, Nat.reduceLT, callee, aOp, ne_eq, Nat.reduceEqDiff, aBin, aUn, if_true, if_false, reduceCtorEq, frame0, place, notTuple, Nat.reduceAdd, Nat.reduceLeDiff, resVal, dite_true, dite_false, Int.reduceEq, Int.reduceLT, Int.reduceLE]
    rw [List.append_nil]
    have hC3 : Chg [J] H G3 := ((Chg.refl.mut m1 (.inl (by simp))).mut m2 (.inl (by simp))).mut m3 (.inl (by simp))
    have hL3 : Lies lim G3 J D S (1 - area) (e + 1) lf 0 sc pp cp safe pend := ⟨⟨g3, hC3.cells h.jl.d (by simpa using h.jl.JD.symm), h.jl.own.chg hC3 fun a ea => by simpa using (h.jl.ap a ea).1, h.jl.lJ, h.jl.lD, h.jl.JD, h.jl.ap⟩, hC3.cells h.s (by simpa using h.SJ), h.lS, h.SD, h.SJ, h.ps, h.ne⟩
    have hs3 : Sl G3 encb 1 p b := hC3.sl hs fun a ea hb' => by simpa using (hp a ea hb').1
    refine writeL_ok hL3 hs3 hc hz hp (by omega) hn (by omega) (by omega) (by omega) fun H' pp' cp' k1 k2 k3 => ?_
    have hJ3 := fun X => (Ext.refl.app (X := X)).cells k3.jl.j
    simp only [n30, r30, hJ3, SB, Nat.reduceLT, callee, aOp, ne_eq, Nat.reduceEqDiff, aBin, aUn, if_true, if_false, reduceCtorEq, frame0, place, notTuple, Nat.reduceAdd, Nat.reduceLeDiff, resVal, dite_true, dite_false, Int.reduceEq, Int.reduceLT, Int.reduceLE]
    rw [List.append_nil]
    refine Sync_ok k3.jl.d k3.jl.lD (fun _ => ⟨rfl, k3.s, k3.lS⟩) k3.SD (k3.jl.own.sl encW_len) (fun a e _ => ⟨k3.ps a e, (k3.jl.ap a e).2⟩) (by omega) (by rw [List.length_append, wrsOf_len, pcs_need]; have := needN_le b.length; omega) fun H2 hC hD' hS' => ?_
    refine Ret_pad ?_
    simp only [n30, r30, SB, Nat.reduceLT, callee, aOp, ne_eq, Nat.reduceEqDiff, aBin, aUn, if_true, if_false, reduceCtorEq, frame0, place, notTuple, Nat.reduceAdd, Nat.reduceLeDiff, resVal, dite_true, dite_false, Int.reduceEq, Int.reduceLT, Int.reduceLE]
    rw [List.append_nil]
    rw [Nat.zero_add] at k3
    have hl : (crashed [] (pend ++ wrsOf ((1 - area) * (safe.length / 2)) (e + 1) lf 0 (pcs b)) safe).length = safe.length := crashed_len
    refine hQ H2 (by omega) ?_ ⟨⟨hC.cells k3.jl.j (by simp [h.SJ.symm, h.jl.JD]), by rw [hl]; exact hD', Own.nil, h.jl.lJ, h.jl.lD, h.jl.JD, by intro a e; cases e⟩, hS' h.ne, h.lS, h.SD, h.SJ, (by intro a e; cases e), fun e => h.ne (by rw [← List.length_eq_zero_iff, ← hl, e]; rfl)⟩
    have hC4 : Chg (S :: J :: D :: blk pp) H G3 := hC3.mono fun j _ h1 => by simp at h1; simp [h1]
    exact (hC4.trans' k1 fun j h1 _ => List.mem_cons_of_mem _ h1).trans' hC fun j h1 _ => by
      simp only [List.mem_cons, List.not_mem_nil, or_false] at h1 ⊢
      rcases h1 with h1 | h1 <;> simp [h1]
end Go.Proofs.Ytdddehniepofmaa.Fn
namespace Go.Proofs.Ytdddehniepofmaa.Fn
open Go.AM Go.AM.Sym
set_option maxRecDepth 100000
set_option linter.unusedVariables false
set_option linter.unusedSimpArgs false
set_option maxHeartbeats 4000000

def areaD (pend : List Wr) (safe : List Sec) (area : Nat) : List Sec := ((readD pend safe).drop (area * (safe.length / 2))).take (safe.length / 2)
theorem readD_len {pend : List Wr} {safe : List Sec} : (readD pend safe).length = safe.length := by unfold readD; exact crashed_len
theorem areaD_len {pend : List Wr} {safe : List Sec} {area : Nat} (h : area ≤ 1) : (areaD pend safe area).length = safe.length / 2 := by
  unfold areaD
  rw [List.length_take, List.length_drop, readD_len]
  rcases (show area = 0 ∨ area = 1 by omega) with rfl | rfl <;> omega
theorem areaD_0 {pend : List Wr} {safe : List Sec} : areaD pend safe 0 = (readD pend safe).take (safe.length / 2) := by simp [areaD]
theorem areaD_1 {pend : List Wr} {safe : List Sec} : areaD pend safe 1 = ((readD pend safe).drop (safe.length / 2)).take (safe.length / 2) := by simp [areaD]

theorem Records_ok {lim J D S area e lf n sc cp l2 : Nat} {pp : Option Addr} {safe : List Sec} {pend : List Wr} {H : Heap} {Q : Value → Heap → Prop} (h : Lies l2 H J D S area e lf n sc pp cp safe pend) (hn : safe.length < 2 ^ 20) (hpe : pend.length < 2 ^ 30) (har : area ≤ 1) (hl : lim ≤ H.length)
    (hQ : ∀ G h0 q cq ds, Chg [] H G → H.length ≤ h0 → RowsAt h0 G q cq ds (recs (areaD pend safe area)).1 → Q (.slice q (recs (areaD pend safe area)).1.length cq) G) :
    CallR E false lim 33 [.pointer (some ⟨J, 0, none⟩)] H Q := by
  refine runs (by decide) e33 rfl ?_
  rw [b33, c33]
  have hJX := fun X => (Ext.refl.app (X := X)).cells h.jl.j
  have hm := fun X (mp : Bool) (lim : Nat) (Q : Value → Heap → Prop) => missing_ok (mp := mp) (lim := lim) (Q := Q) (hJX X)
  simp only [n33, r33, hm, hJX, SB, Nat.reduceLT, callee, aOp, ne_eq, Nat.reduceEqDiff, aBin, aUn, if_true, if_false, reduceCtorEq, frame0, place, notTuple, Nat.reduceAdd, Nat.reduceLeDiff, resVal, dite_true, dite_false, Int.reduceEq, Int.reduceLT, Int.reduceLE]
  rw [List.append_nil]
  have hS : Sl H encX 32 (some ⟨S, 0, none⟩) safe := Sl.row encX_len h.s
  refine areas_ok h.jl.d hS h.ne (h.jl.own.sl encW_len) (by omega) (by omega) (by omega) fun H' p c q c' hC h0 h1 => ?_
  rw [← areaD_0] at h0
  rw [← areaD_1] at h1
  have hlen := hC.len
  refine Ret_pad ?_
  have hJ' := fun X => (Ext.refl.app (X := X)).cells (hC.cells h.jl.j (by simp))
  have key : ∀ (p : Option Addr) (c : Nat) (Q' : Value → Heap → Prop), Sl H' encX 32 p (areaD pend safe area) → (∀ G q cq ds, Chg [] H' G → RowsAt H'.length G q cq ds (recs (areaD pend safe area)).1 → Q' (.tuple #[.slice q (recs (areaD pend safe area)).1.length cq, .int .i64 (epochOf (areaD pend safe area) : Int), .int .i64 ((recs (areaD pend safe area)).2 : Int)]) G) → CallR E false lim 46 [.slice p (safe.length / 2) c] H' Q' := fun p c Q' hs hq => records_ok hs (areaD_len har).symm (by rw [areaD_len har]; omega) (by omega) hq
  rcases (show area = 0 ∨ area = 1 by omega) with rfl | rfl
  · simp only [n33, r33, hJ', Int.cast_ofNat_Int, Int.toNat_zero, Int.toNat_one, Nat.mul_one, Nat.zero_mul, List.getElem?_cons_succ, SB, Nat.reduceLT, callee, aOp, ne_eq, Nat.reduceEqDiff, aBin, aUn, if_true, if_false, reduceCtorEq, frame0, place, notTuple, Nat.reduceAdd, Nat.reduceLeDiff, resVal, dite_true, dite_false, Int.reduceEq, Int.reduceLT, Int.reduceLE]
    rw [List.append_nil]
    refine key p c _ h0 fun G q cq ds k1 k2 => ?_
    refine Ret_pad ?_
    simp only [n33, r33, SB, Nat.reduceLT, callee, aOp, ne_eq, Nat.reduceEqDiff, aBin, aUn, if_true, if_false, reduceCtorEq, frame0, place, notTuple, Nat.reduceAdd, Nat.reduceLeDiff, resVal, dite_true, dite_false, Int.reduceEq, Int.reduceLT, Int.reduceLE]
    rw [List.append_nil]
    exact hQ G _ q cq ds (hC.trans' k1 fun j h _ => by simp at h) hlen k2
  · simp only [n33, r33, hJ', Int.cast_ofNat_Int, Int.toNat_zero, Int.toNat_one, Nat.mul_one, Nat.zero_mul, List.getElem?_cons_succ, SB, Nat.reduceLT, callee, aOp, ne_eq, Nat.reduceEqDiff, aBin, aUn, if_true, if_false, reduceCtorEq, frame0, place, notTuple, Nat.reduceAdd, Nat.reduceLeDiff, resVal, dite_true, dite_false, Int.reduceEq, Int.reduceLT, Int.reduceLE]
    rw [List.append_nil]
    refine key q c' _ h1 fun G q cq ds k1 k2 => ?_
    refine Ret_pad ?_
    simp only [n33, r33, SB, Nat.reduceLT, callee, aOp, ne_eq, Nat.reduceEqDiff, aBin, aUn, if_true, if_false, reduceCtorEq, frame0, place, notTuple, Nat.reduceAdd, Nat.reduceLeDiff, resVal, dite_true, dite_false, Int.reduceEq, Int.reduceLT, Int.reduceLE]
    rw [List.append_nil]
    exact hQ G _ q cq ds (hC.trans' k1 fun j h _ => by simp at h) hlen k2
end Go.Proofs.Ytdddehniepofmaa.Fn
namespace Go.Proofs.Ytdddehniepofmaa.Fn
open Go.AM Go.AM.Sym
set_option maxRecDepth 100000
set_option linter.unusedVariables false
set_option linter.unusedSimpArgs false
set_option maxHeartbeats 4000000

/-- What Open has found: found, area, epoch, next. -/
abbrev OpS := Bool × Nat × Nat × Nat
def opTake (a : List Sec) (x : OpS) : Bool := decide (0 < (recs a).1.length) && (!x.1 || decide (x.2.2.1 < epochOf a))
def opStep (i : Nat) (a : List Sec) (x : OpS) : OpS := if opTake a x then (true, i, epochOf a, (recs a).2) else x
def jcell (D life : Nat) (x : OpS) : List Value := [.pointer (some ⟨D, 0, none⟩), .int .i64 (x.2.1 : Int), .int .i64 (x.2.2.1 : Int), .int .i64 (life : Int), .int .i64 (x.2.2.2 : Int)]
theorem inner35 {lim J D life c c' : Nat} {p q : Option Addr} {A B : List Sec} {fr : Nat → Value} {G : Heap} {K : List AItem} {R : Value → Heap → Prop} (hA : Sl G encX 32 p A) (hB : Sl G encX 32 q B) (nA : A.length < 2 ^ 20) (nB : B.length < 2 ^ 20) (pJ : ∀ a, p = some a → a.block ≠ J) (qJ : ∀ a, q = some a → a.block ≠ J) (hJ : hget G J = .cells false (jcell D life (false, 0, 0, 0))) (lJ : lim ≤ J) (f7 : fr 7 = .pointer (some ⟨J, 0, none⟩)) (f8 : fr 8 = .bool false) (f36 : fr 36 = .agg #[.slice p A.length c, .slice q B.length c']) (f37 : fr 37 = .int .i64 0)
    (hR : ∀ fr' G', Chg [J] G G' → hget G' J = .cells false (jcell D life (opStep 1 B (opStep 0 A (false, 0, 0, 0)))) → fr' 8 = .bool (opStep 1 B (opStep 0 A (false, 0, 0, 0))).1 → fr' 7 = fr 7 → fr' 0 = fr 0 → fr' 5 = fr 5 → Ret E a35 lim K fr' (G' ++ []) R) :
    Ret E a35 lim (.code (.loop l35_1) :: .inBlock 0 :: K) fr G R := by
  have hJl := hget_alive hJ
  refine Ret_rounds (fun s : Nat × OpS => 2 - s.1) (fun s fr' G' => s.1 ≤ 2 ∧ Chg [J] G G' ∧ hget G' J = .cells false (jcell D life s.2) ∧ fr' 8 = .bool s.2.1 ∧ fr' 7 = .pointer (some ⟨J, 0, none⟩) ∧ fr' 36 = .agg #[.slice p A.length c, .slice q B.length c'] ∧ fr' 37 = .int .i64 (s.1 : Int) ∧ fr' 0 = fr 0 ∧ fr' 5 = fr 5 ∧ (s.1 = 0 → s.2 = (false, 0, 0, 0)) ∧ (s.1 = 1 → s.2 = opStep 0 A (false, 0, 0, 0)) ∧ (s.1 = 2 → s.2 = opStep 1 B (opStep 0 A (false, 0, 0, 0)))) (0, (false, 0, 0, 0))
    ⟨Nat.zero_le _, Chg.refl, hJ, f8, f7, f36, f37, rfl, rfl, fun _ => rfl, fun h => by simp at h, fun h => by simp at h⟩ ?_
  rintro ⟨i, x⟩ fr' G' ⟨hi, hC, hx, g8, g7, g36, g37, g0, g5, h0, h1, h2⟩ hN
  simp only at hi hx g8 g37 h0 h1 h2
  rw [Ret_code l35_1.eq_1]
  refine Ret_pad ?_
  have w1 : IntKind.i64.wrap ((0 : Int) + 1) = 1 := by decide
  have w2 : IntKind.i64.wrap ((1 : Int) + 1) = 2 := by decide
  have hl := hC.len
  rcases (show i = 0 ∨ i = 1 ∨ i = 2 by omega) with rfl | rfl | rfl
  · simp only [n35, r35, g8, g7, g36, g37, Int.cast_ofNat_Int, Int.toNat_zero, Int.toNat_one, Nat.mul_one, Nat.zero_mul, List.getElem?_cons_succ, w1, w2, SB, Nat.reduceLT, callee, aOp, ne_eq, Nat.reduceEqDiff, aBin, aUn, if_true, if_false, reduceCtorEq, frame0, place, notTuple, Nat.reduceAdd, Nat.reduceLeDiff, resVal, dite_true, dite_false, Int.reduceEq, Int.reduceLT, Int.reduceLE]
    rw [List.append_nil]
    refine records_ok (hC.sl hA fun a ea _ => by simpa using pJ a ea) rfl (by omega) (by omega) fun G2 q2 cq ds k1 k2 => ?_
    refine Ret_pad ?_
    have hx2 := fun X => (Ext.refl.app (X := X)).cells (k1.cells hx (by simp))
    simp only [jcell] at hx2
    have hC2 : Chg [J] G G2 := hC.trans' k1 fun j h _ => by simp at h
    cases ht : opTake A x with
    | true =>
      have hst : opStep 0 A x = (true, 0, epochOf A, (recs A).2) := by unfold opStep; rw [ht]; rfl
      have hl2 := k1.len
      obtain ⟨G3, s3, g3, m3⟩ := mut_set (G := G2) (R := J) (by omega) (.cells false [.pointer (some ⟨D, 0, none⟩), .int .i64 0, .int .i64 (x.2.2.1 : Int), .int .i64 (life : Int), .int .i64 (x.2.2.2 : Int)])
      obtain ⟨G4, s4, g4, m4⟩ := mut_set (hget_alive g3) (.cells false [.pointer (some ⟨D, 0, none⟩), .int .i64 0, .int .i64 (epochOf A : Int), .int .i64 (life : Int), .int .i64 (x.2.2.2 : Int)])
      obtain ⟨G5, s5, g5', m5⟩ := mut_set (hget_alive g4) (.cells false [.pointer (some ⟨D, 0, none⟩), .int .i64 0, .int .i64 (epochOf A : Int), .int .i64 (life : Int), .int .i64 ((recs A).2 : Int)])
      have g3X := fun X => (Ext.refl.app (X := X)).cells g3
      have g4X := fun X => (Ext.refl.app (X := X)).cells g4
      have hC5 : Chg [J] G (G5 ++ []) := (((hC2.mut m3 (.inl (by simp))).mut m4 (.inl (by simp))).mut m5 (.inl (by simp))).app
      have hg5 : hget (G5 ++ []) J = .cells false (jcell D life (opStep 0 A x)) := by rw [hst, List.append_nil]; exact g5'
      have ht' := ht
      have hpos : (0 : Int) < ((recs A).1.length : Int) := by
        simp only [opTake, Bool.and_eq_true, decide_eq_true_eq] at ht'; omega
      cases hx1 : x.1 with
      | false =>
        simp only [n35, r35, g8, g7, g36, g37, hx2, hpos, hx1, lJ, s3, s4, s5, g3X, g4X, w1, w2, SB, Nat.reduceLT, callee, aOp, ne_eq, Nat.reduceEqDiff, aBin, aUn, if_true, if_false, reduceCtorEq, frame0, place, notTuple, Nat.reduceAdd, Nat.reduceLeDiff, resVal, dite_true, dite_false, Int.reduceEq, Int.reduceLT, Int.reduceLE]
        exact hN (1, opStep 0 A x) _ _ ⟨by show 1 ≤ 2; omega, hC5, hg5, by rw [hst]; exact (by simp only [upd_same, upd_ne, ne_eq, Nat.reduceEqDiff, not_false_eq_true, frame0, List.getD_cons_zero, List.getD_cons_succ]), (by simp only [g7, upd_same, upd_ne, ne_eq, Nat.reduceEqDiff, not_false_eq_true, frame0, List.getD_cons_zero, List.getD_cons_succ]), (by simp only [g36, upd_same, upd_ne, ne_eq, Nat.reduceEqDiff, not_false_eq_true, frame0, List.getD_cons_zero, List.getD_cons_succ]), (by simp only [Int.cast_ofNat_Int, upd_same, upd_ne, ne_eq, Nat.reduceEqDiff, not_false_eq_true, frame0, List.getD_cons_zero, List.getD_cons_succ]), by rw [← g0]; exact (by simp only [upd_same, upd_ne, ne_eq, Nat.reduceEqDiff, not_false_eq_true, frame0, List.getD_cons_zero, List.getD_cons_succ]), by rw [← g5]; exact (by simp only [upd_same, upd_ne, ne_eq, Nat.reduceEqDiff, not_false_eq_true, frame0, List.getD_cons_zero, List.getD_cons_succ]), by simp, fun _ => by rw [h0 rfl], by simp⟩ (by show 2 - 1 < 2 - 0; omega)
      | true =>
        have hep : (x.2.2.1 : Int) < (epochOf A : Int) := by
          simp only [opTake, hx1, Bool.not_true, Bool.false_or, Bool.and_eq_true, decide_eq_true_eq] at ht'; omega
        simp only [n35, r35, g8, g7, g36, g37, hx2, hpos, hx1, hep, lJ, s3, s4, s5, g3X, g4X, w1, w2, SB, Nat.reduceLT, callee, aOp, ne_eq, Nat.reduceEqDiff, aBin, aUn, if_true, if_false, reduceCtorEq, frame0, place, notTuple, Nat.reduceAdd, Nat.reduceLeDiff, resVal, dite_true, dite_false, Int.reduceEq, Int.reduceLT, Int.reduceLE]
        exact hN (1, opStep 0 A x) _ _ ⟨by show 1 ≤ 2; omega, hC5, hg5, by rw [hst]; exact (by simp only [upd_same, upd_ne, ne_eq, Nat.reduceEqDiff, not_false_eq_true, frame0, List.getD_cons_zero, List.getD_cons_succ]), (by simp only [g7, upd_same, upd_ne, ne_eq, Nat.reduceEqDiff, not_false_eq_true, frame0, List.getD_cons_zero, List.getD_cons_succ]), (by simp only [g36, upd_same, upd_ne, ne_eq, Nat.reduceEqDiff, not_false_eq_true, frame0, List.getD_cons_zero, List.getD_cons_succ]), (by simp only [Int.cast_ofNat_Int, upd_same, upd_ne, ne_eq, Nat.reduceEqDiff, not_false_eq_true, frame0, List.getD_cons_zero, List.getD_cons_succ]), by rw [← g0]; exact (by simp only [upd_same, upd_ne, ne_eq, Nat.reduceEqDiff, not_false_eq_true, frame0, List.getD_cons_zero, List.getD_cons_succ]), by rw [← g5]; exact (by simp only [upd_same, upd_ne, ne_eq, Nat.reduceEqDiff, not_false_eq_true, frame0, List.getD_cons_zero, List.getD_cons_succ]), by simp, fun _ => by rw [h0 rfl], by simp⟩ (by show 2 - 1 < 2 - 0; omega)
    | false =>
      have hst : opStep 0 A x = x := by unfold opStep; rw [ht]; rfl
      have ht' := ht
      by_cases hp0 : 0 < (recs A).1.length
      · have hpos : (0 : Int) < ((recs A).1.length : Int) := by omega
        have hx1 : x.1 = true := by
          simp only [opTake, decide_eq_true hp0, Bool.true_and, Bool.or_eq_false_iff, Bool.not_eq_false'] at ht'; exact ht'.1
        have hep : ¬ (x.2.2.1 : Int) < (epochOf A : Int) := by
          simp only [opTake, decide_eq_true hp0, Bool.true_and, Bool.or_eq_false_iff, Bool.not_eq_false', decide_eq_false_iff_not] at ht'; omega
        simp only [n35, r35, g8, g7, g36, g37, hx2, hpos, hx1, hep, w1, w2, SB, Nat.reduceLT, callee, aOp, ne_eq, Nat.reduceEqDiff, aBin, aUn, if_true, if_false, reduceCtorEq, frame0, place, notTuple, Nat.reduceAdd, Nat.reduceLeDiff, resVal, dite_true, dite_false, Int.reduceEq, Int.reduceLT, Int.reduceLE]
        exact hN (1, opStep 0 A x) _ _ ⟨by show 1 ≤ 2; omega, (by rw [List.append_nil]; exact hC2), (by rw [hst, List.append_nil]; exact k1.cells hx (by simp)), by rw [hst, hx1]; exact (by simp only [g8, hx1, upd_same, upd_ne, ne_eq, Nat.reduceEqDiff, not_false_eq_true, frame0, List.getD_cons_zero, List.getD_cons_succ]), (by simp only [g7, upd_same, upd_ne, ne_eq, Nat.reduceEqDiff, not_false_eq_true, frame0, List.getD_cons_zero, List.getD_cons_succ]), (by simp only [g36, upd_same, upd_ne, ne_eq, Nat.reduceEqDiff, not_false_eq_true, frame0, List.getD_cons_zero, List.getD_cons_succ]), (by simp only [Int.cast_ofNat_Int, upd_same, upd_ne, ne_eq, Nat.reduceEqDiff, not_false_eq_true, frame0, List.getD_cons_zero, List.getD_cons_succ]), by rw [← g0]; exact (by simp only [upd_same, upd_ne, ne_eq, Nat.reduceEqDiff, not_false_eq_true, frame0, List.getD_cons_zero, List.getD_cons_succ]), by rw [← g5]; exact (by simp only [upd_same, upd_ne, ne_eq, Nat.reduceEqDiff, not_false_eq_true, frame0, List.getD_cons_zero, List.getD_cons_succ]), by simp, fun _ => by rw [h0 rfl], by simp⟩ (by show 2 - 1 < 2 - 0; omega)
      · have hpos : ¬ (0 : Int) < ((recs A).1.length : Int) := by omega
        simp only [n35, r35, g8, g7, g36, g37, hx2, hpos, w1, w2, SB, Nat.reduceLT, callee, aOp, ne_eq, Nat.reduceEqDiff, aBin, aUn, if_true, if_false, reduceCtorEq, frame0, place, notTuple, Nat.reduceAdd, Nat.reduceLeDiff, resVal, dite_true, dite_false, Int.reduceEq, Int.reduceLT, Int.reduceLE]
        exact hN (1, opStep 0 A x) _ _ ⟨by show 1 ≤ 2; omega, (by rw [List.append_nil]; exact hC2), (by rw [hst, List.append_nil]; exact k1.cells hx (by simp)), by rw [hst]; exact (by simp only [g8, upd_same, upd_ne, ne_eq, Nat.reduceEqDiff, not_false_eq_true, frame0, List.getD_cons_zero, List.getD_cons_succ]), (by simp only [g7, upd_same, upd_ne, ne_eq, Nat.reduceEqDiff, not_false_eq_true, frame0, List.getD_cons_zero, List.getD_cons_succ]), (by simp only [g36, upd_same, upd_ne, ne_eq, Nat.reduceEqDiff, not_false_eq_true, frame0, List.getD_cons_zero, List.getD_cons_succ]), (by simp only [Int.cast_ofNat_Int, upd_same, upd_ne, ne_eq, Nat.reduceEqDiff, not_false_eq_true, frame0, List.getD_cons_zero, List.getD_cons_succ]), by rw [← g0]; exact (by simp only [upd_same, upd_ne, ne_eq, Nat.reduceEqDiff, not_false_eq_true, frame0, List.getD_cons_zero, List.getD_cons_succ]), by rw [← g5]; exact (by simp only [upd_same, upd_ne, ne_eq, Nat.reduceEqDiff, not_false_eq_true, frame0, List.getD_cons_zero, List.getD_cons_succ]), by simp, fun _ => by rw [h0 rfl], by simp⟩ (by show 2 - 1 < 2 - 0; omega)
  · simp only [n35, r35, g8, g7, g36, g37, Int.cast_ofNat_Int, Int.toNat_zero, Int.toNat_one, Nat.mul_one, Nat.zero_mul, List.getElem?_cons_succ, w1, w2, SB, Nat.reduceLT, callee, aOp, ne_eq, Nat.reduceEqDiff, aBin, aUn, if_true, if_false, reduceCtorEq, frame0, place, notTuple, Nat.reduceAdd, Nat.reduceLeDiff, resVal, dite_true, dite_false, Int.reduceEq, Int.reduceLT, Int.reduceLE]
    rw [List.append_nil]
    refine records_ok (hC.sl hB fun a ea _ => by simpa using qJ a ea) rfl (by omega) (by omega) fun G2 q2 cq ds k1 k2 => ?_
    refine Ret_pad ?_
    have hx2 := fun X => (Ext.refl.app (X := X)).cells (k1.cells hx (by simp))
    simp only [jcell] at hx2
    have hC2 : Chg [J] G G2 := hC.trans' k1 fun j h _ => by simp at h
    cases ht : opTake B x with
    | true =>
      have hst : opStep 1 B x = (true, 1, epochOf B, (recs B).2) := by unfold opStep; rw [ht]; rfl
      have hl2 := k1.len
      obtain ⟨G3, s3, g3, m3⟩ := mut_set (G := G2) (R := J) (by omega) (.cells false [.pointer (some ⟨D, 0, none⟩), .int .i64 1, .int .i64 (x.2.2.1 : Int), .int .i64 (life : Int), .int .i64 (x.2.2.2 : Int)])
      obtain ⟨G4, s4, g4, m4⟩ := mut_set (hget_alive g3) (.cells false [.pointer (some ⟨D, 0, none⟩), .int .i64 1, .int .i64 (epochOf B : Int), .int .i64 (life : Int), .int .i64 (x.2.2.2 : Int)])
      obtain ⟨G5, s5, g5', m5⟩ := mut_set (hget_alive g4) (.cells false [.pointer (some ⟨D, 0, none⟩), .int .i64 1, .int .i64 (epochOf B : Int), .int .i64 (life : Int), .int .i64 ((recs B).2 : Int)])
      have g3X := fun X => (Ext.refl.app (X := X)).cells g3
      have g4X := fun X => (Ext.refl.app (X := X)).cells g4
      have hC5 : Chg [J] G (G5 ++ []) := (((hC2.mut m3 (.inl (by simp))).mut m4 (.inl (by simp))).mut m5 (.inl (by simp))).app
      have hg5 : hget (G5 ++ []) J = .cells false (jcell D life (opStep 1 B x)) := by rw [hst, List.append_nil]; exact g5'
      have ht' := ht
      have hpos : (0 : Int) < ((recs B).1.length : Int) := by
        simp only [opTake, Bool.and_eq_true, decide_eq_true_eq] at ht'; omega
      cases hx1 : x.1 with
      | false =>
        simp only [n35, r35, g8, g7, g36, g37, hx2, hpos, hx1, lJ, s3, s4, s5, g3X, g4X, w1, w2, SB, Nat.reduceLT, callee, aOp, ne_eq, Nat.reduceEqDiff, aBin, aUn, if_true, if_false, reduceCtorEq, frame0, place, notTuple, Nat.reduceAdd, Nat.reduceLeDiff, resVal, dite_true, dite_false, Int.reduceEq, Int.reduceLT, Int.reduceLE]
        exact hN (2, opStep 1 B x) _ _ ⟨by show 2 ≤ 2; omega, hC5, hg5, by rw [hst]; exact (by simp only [upd_same, upd_ne, ne_eq, Nat.reduceEqDiff, not_false_eq_true, frame0, List.getD_cons_zero, List.getD_cons_succ]), (by simp only [g7, upd_same, upd_ne, ne_eq, Nat.reduceEqDiff, not_false_eq_true, frame0, List.getD_cons_zero, List.getD_cons_succ]), (by simp only [g36, upd_same, upd_ne, ne_eq, Nat.reduceEqDiff, not_false_eq_true, frame0, List.getD_cons_zero, List.getD_cons_succ]), (by simp only [Int.cast_ofNat_Int, upd_same, upd_ne, ne_eq, Nat.reduceEqDiff, not_false_eq_true, frame0, List.getD_cons_zero, List.getD_cons_succ]), by rw [← g0]; exact (by simp only [upd_same, upd_ne, ne_eq, Nat.reduceEqDiff, not_false_eq_true, frame0, List.getD_cons_zero, List.getD_cons_succ]), by rw [← g5]; exact (by simp only [upd_same, upd_ne, ne_eq, Nat.reduceEqDiff, not_false_eq_true, frame0, List.getD_cons_zero, List.getD_cons_succ]), by simp, by simp, fun _ => by rw [h1 rfl]⟩ (by show 2 - 2 < 2 - 1; omega)
      | true =>
        have hep : (x.2.2.1 : Int) < (epochOf B : Int) := by
          simp only [opTake, hx1, Bool.not_true, Bool.false_or, Bool.and_eq_true, decide_eq_true_eq] at ht'; omega
        simp only [n35, r35, g8, g7, g36, g37, hx2, hpos, hx1, hep, lJ, s3, s4, s5, g3X, g4X, w1, w2, SB, Nat.reduceLT, callee, aOp, ne_eq, Nat.reduceEqDiff, aBin, aUn, if_true, if_false, reduceCtorEq, frame0, place, notTuple, Nat.reduceAdd, Nat.reduceLeDiff, resVal, dite_true, dite_false, Int.reduceEq, Int.reduceLT, Int.reduceLE]
        exact hN (2, opStep 1 B x) _ _ ⟨by show 2 ≤ 2; omega, hC5, hg5, by rw [hst]; exact (by simp only [upd_same, upd_ne, ne_eq, Nat.reduceEqDiff, not_false_eq_true, frame0, List.getD_cons_zero, List.getD_cons_succ]), (by simp only [g7, upd_same, upd_ne, ne_eq, Nat.reduceEqDiff, not_false_eq_true, frame0, List.getD_cons_zero, List.getD_cons_succ]), (by simp only [g36, upd_same, upd_ne, ne_eq, Nat.reduceEqDiff, not_false_eq_true, frame0, List.getD_cons_zero, List.getD_cons_succ]), (by simp only [Int.cast_ofNat_Int, upd_same, upd_ne, ne_eq, Nat.reduceEqDiff, not_false_eq_true, frame0, List.getD_cons_zero, List.getD_cons_succ]), by rw [← g0]; exact (by simp only [upd_same, upd_ne, ne_eq, Nat.reduceEqDiff, not_false_eq_true, frame0, List.getD_cons_zero, List.getD_cons_succ]), by rw [← g5]; exact (by simp only [upd_same, upd_ne, ne_eq, Nat.reduceEqDiff, not_false_eq_true, frame0, List.getD_cons_zero, List.getD_cons_succ]), by simp, by simp, fun _ => by rw [h1 rfl]⟩ (by show 2 - 2 < 2 - 1; omega)
    | false =>
      have hst : opStep 1 B x = x := by unfold opStep; rw [ht]; rfl
      have ht' := ht
      by_cases hp0 : 0 < (recs B).1.length
      · have hpos : (0 : Int) < ((recs B).1.length : Int) := by omega
        have hx1 : x.1 = true := by
          simp only [opTake, decide_eq_true hp0, Bool.true_and, Bool.or_eq_false_iff, Bool.not_eq_false'] at ht'; exact ht'.1
        have hep : ¬ (x.2.2.1 : Int) < (epochOf B : Int) := by
          simp only [opTake, decide_eq_true hp0, Bool.true_and, Bool.or_eq_false_iff, Bool.not_eq_false', decide_eq_false_iff_not] at ht'; omega
        simp only [n35, r35, g8, g7, g36, g37, hx2, hpos, hx1, hep, w1, w2, SB, Nat.reduceLT, callee, aOp, ne_eq, Nat.reduceEqDiff, aBin, aUn, if_true, if_false, reduceCtorEq, frame0, place, notTuple, Nat.reduceAdd, Nat.reduceLeDiff, resVal, dite_true, dite_false, Int.reduceEq, Int.reduceLT, Int.reduceLE]
        exact hN (2, opStep 1 B x) _ _ ⟨by show 2 ≤ 2; omega, (by rw [List.append_nil]; exact hC2), (by rw [hst, List.append_nil]; exact k1.cells hx (by simp)), by rw [hst, hx1]; exact (by simp only [g8, hx1, upd_same, upd_ne, ne_eq, Nat.reduceEqDiff, not_false_eq_true, frame0, List.getD_cons_zero, List.getD_cons_succ]), (by simp only [g7, upd_same, upd_ne, ne_eq, Nat.reduceEqDiff, not_false_eq_true, frame0, List.getD_cons_zero, List.getD_cons_succ]), (by simp only [g36, upd_same, upd_ne, ne_eq, Nat.reduceEqDiff, not_false_eq_true, frame0, List.getD_cons_zero, List.getD_cons_succ]), (by simp only [Int.cast_ofNat_Int, upd_same, upd_ne, ne_eq, Nat.reduceEqDiff, not_false_eq_true, frame0, List.getD_cons_zero, List.getD_cons_succ]), by rw [← g0]; exact (by simp only [upd_same, upd_ne, ne_eq, Nat.reduceEqDiff, not_false_eq_true, frame0, List.getD_cons_zero, List.getD_cons_succ]), by rw [← g5]; exact (by simp only [upd_same, upd_ne, ne_eq, Nat.reduceEqDiff, not_false_eq_true, frame0, List.getD_cons_zero, List.getD_cons_succ]), by simp, by simp, fun _ => by rw [h1 rfl]⟩ (by show 2 - 2 < 2 - 1; omega)
      · have hpos : ¬ (0 : Int) < ((recs B).1.length : Int) := by omega
        simp only [n35, r35, g8, g7, g36, g37, hx2, hpos, w1, w2, SB, Nat.reduceLT, callee, aOp, ne_eq, Nat.reduceEqDiff, aBin, aUn, if_true, if_false, reduceCtorEq, frame0, place, notTuple, Nat.reduceAdd, Nat.reduceLeDiff, resVal, dite_true, dite_false, Int.reduceEq, Int.reduceLT, Int.reduceLE]
        exact hN (2, opStep 1 B x) _ _ ⟨by show 2 ≤ 2; omega, (by rw [List.append_nil]; exact hC2), (by rw [hst, List.append_nil]; exact k1.cells hx (by simp)), by rw [hst]; exact (by simp only [g8, upd_same, upd_ne, ne_eq, Nat.reduceEqDiff, not_false_eq_true, frame0, List.getD_cons_zero, List.getD_cons_succ]), (by simp only [g7, upd_same, upd_ne, ne_eq, Nat.reduceEqDiff, not_false_eq_true, frame0, List.getD_cons_zero, List.getD_cons_succ]), (by simp only [g36, upd_same, upd_ne, ne_eq, Nat.reduceEqDiff, not_false_eq_true, frame0, List.getD_cons_zero, List.getD_cons_succ]), (by simp only [Int.cast_ofNat_Int, upd_same, upd_ne, ne_eq, Nat.reduceEqDiff, not_false_eq_true, frame0, List.getD_cons_zero, List.getD_cons_succ]), by rw [← g0]; exact (by simp only [upd_same, upd_ne, ne_eq, Nat.reduceEqDiff, not_false_eq_true, frame0, List.getD_cons_zero, List.getD_cons_succ]), by rw [← g5]; exact (by simp only [upd_same, upd_ne, ne_eq, Nat.reduceEqDiff, not_false_eq_true, frame0, List.getD_cons_zero, List.getD_cons_succ]), by simp, by simp, fun _ => by rw [h1 rfl]⟩ (by show 2 - 2 < 2 - 1; omega)
  · simp only [n35, r35, g8, g7, g36, g37, Int.cast_ofNat_Int, w1, w2, SB, Nat.reduceLT, callee, aOp, ne_eq, Nat.reduceEqDiff, aBin, aUn, if_true, if_false, reduceCtorEq, frame0, place, notTuple, Nat.reduceAdd, Nat.reduceLeDiff, resVal, dite_true, dite_false, Int.reduceEq, Int.reduceLT, Int.reduceLE]
    rw [h2 rfl] at hx g8
    exact hR _ G' hC hx (by simp only [g8, upd_same, upd_ne, ne_eq, Nat.reduceEqDiff, not_false_eq_true, frame0, List.getD_cons_zero, List.getD_cons_succ]) (by rw [f7]; exact (by simp only [g7, upd_same, upd_ne, ne_eq, Nat.reduceEqDiff, not_false_eq_true, frame0, List.getD_cons_zero, List.getD_cons_succ])) (by rw [← g0]; exact (by simp only [upd_same, upd_ne, ne_eq, Nat.reduceEqDiff, not_false_eq_true, frame0, List.getD_cons_zero, List.getD_cons_succ])) (by rw [← g5]; exact (by simp only [upd_same, upd_ne, ne_eq, Nat.reduceEqDiff, not_false_eq_true, frame0, List.getD_cons_zero, List.getD_cons_succ]))
end Go.Proofs.Ytdddehniepofmaa.Fn
namespace Go.Proofs.Ytdddehniepofmaa.Fn
open Go.AM Go.AM.Sym
set_option maxRecDepth 100000
set_option linter.unusedVariables false
set_option linter.unusedSimpArgs false
set_option maxHeartbeats 4000000

theorem clip_ok {lim : Nat} {H : Heap} {Q : Value → Heap → Prop} (hQ : Q (.slice none 0 0) H) : CallR E false lim 50 [.slice none 0 0] H Q := by
  refine runs (by decide) e50 rfl ?_
  rw [b50, c50]
  have hs : sliceV 33 (.slice none 0 0) none (some (.int .i64 0)) (some (.int .i64 0)) = some (.slice none 0 0) := by rfl
  simp only [n50, r50, hs, SB, Nat.reduceLT, callee, aOp, ne_eq, Nat.reduceEqDiff, aBin, aUn, if_true, if_false, reduceCtorEq, frame0, place, notTuple, Nat.reduceAdd, Nat.reduceLeDiff, resVal, dite_true, dite_false, Int.reduceEq, Int.reduceLT, Int.reduceLE]
  rw [List.append_nil]
  exact hQ
def opA (safe : List Sec) : List Sec := areaD [] safe 0
def opB (safe : List Sec) : List Sec := areaD [] safe 1
def opG (safe : List Sec) : Nat × Nat := grGo 0 (opB safe) (grGo 0 (opA safe) (0, 0))
def opX (safe : List Sec) : OpS := opStep 1 (opB safe) (opStep 0 (opA safe) (false, 0, 0, 0))
theorem opStep_false {i : Nat} {a : List Sec} {x : OpS} (h : (opStep i a x).1 = false) : opStep i a x = x := by
  unfold opStep at h ⊢
  split
  · rename_i h1; rw [if_pos h1] at h; cases h
  · rfl
theorem opX_none {safe : List Sec} (h : (opX safe).1 = false) : opX safe = (false, 0, 0, 0) := by
  unfold opX at h ⊢
  have h1 := opStep_false h
  rw [h1] at h
  rw [h1, opStep_false h]
theorem Open_ok {lim D S sc : Nat} {safe : List Sec} {H : Heap} {Q : Value → Heap → Prop} (hD : hget H D = .cells false [.slice (some ⟨S, 0, none⟩) safe.length sc, .slice none 0 0]) (hS : hget H S = .cells false (safe.flatMap encX)) (lD : lim ≤ D) (lS : lim ≤ S) (hSD : S ≠ D) (hn : 4 ≤ safe.length) (hn2 : safe.length ≤ 32768) (hg2 : (opG safe).2 < 1073741824) (hg1 : (opX safe).1 = false → (opG safe).1 < 1073741824)
    (hF : ∀ H' J, (opX safe).1 = true → Chg [D] H H' → H.length ≤ J → Lies lim H' J D S (opX safe).2.1 (opX safe).2.2.1 ((opG safe).2 + 1) (opX safe).2.2.2 sc none 0 safe [] → Q (.tuple #[.pointer (some ⟨J, 0, none⟩), .int .i64 0]) H')
    (hN : ∀ H' J, (opX safe).1 = false → Chg [S, D] H H' → H.length ≤ J → Lies lim H' J D S 0 ((opG safe).1 + 1) ((opG safe).2 + 1) 1 sc none 0 (crashed [] (wrsOf 0 ((opG safe).1 + 1) ((opG safe).2 + 1) 0 (pcs [])) safe) [] → Q (.tuple #[.pointer (some ⟨J, 0, none⟩), .int .i64 0]) H') :
    CallR E false lim 35 [.pointer (some ⟨D, 0, none⟩)] H Q := by
  have hne : safe ≠ [] := fun e => by rw [e] at hn; simp at hn
  have hDl := hget_alive hD
  have hSl := hget_alive hS
  have sS : Sl H encX 32 (some ⟨S, 0, none⟩) safe := Sl.row encX_len hS
  have sP : Sl H encW 33 none ([] : List Wr) := (Own.nil (lim := lim)).sl encW_len
  refine runs (by decide) e35 rfl ?_
  rw [b35, c35]
  have hDX := fun X => (Ext.refl.app (X := X)).cells hD
  have h48 := fun X (mp : Bool) (lim : Nat) (Q : Value → Heap → Prop) => right_ok (mp := mp) (lim := lim) (Q := Q) (pend := []) (hDX X) (sP.app X) (by simp)
  have hR : rightD safe.length [] = true := by simp [rightD]; omega
  rw [hR] at h48
  simp only [n35, r35, h48, aEq, Bool.not_true, SB, Nat.reduceLT, callee, aOp, ne_eq, Nat.reduceEqDiff, aBin, aUn, if_true, if_false, reduceCtorEq, frame0, place, notTuple, Nat.reduceAdd, Nat.reduceLeDiff, resVal, dite_true, dite_false, Int.reduceEq, Int.reduceLT, Int.reduceLE]
  rw [List.append_nil]
  refine areas_ok (safe := safe) (pend := []) hD sS hne sP (by omega) (by simp) (by omega) fun H' p c q c' hC h0 h1 => ?_
  rw [← areaD_0] at h0
  rw [← areaD_1] at h1
  change Sl H' encX 32 p (opA safe) at h0
  change Sl H' encX 32 q (opB safe) at h1
  have lA : (opA safe).length = safe.length / 2 := areaD_len (by omega)
  have lB : (opB safe).length = safe.length / 2 := areaD_len (by omega)
  have hlen := hC.len
  refine Ret_pad ?_
  have h49 := fun X (mp : Bool) (lim : Nat) (Q : Value → Heap → Prop) => greatest_ok (mp := mp) (lim := lim) (Q := Q) (c := c) (c' := c') (h0.app X) (h1.app X) (by omega) (by omega)
  rw [lA, lB] at h49
  change ∀ X mp lim Q, CallR E mp lim 49 [.agg #[.slice p (safe.length / 2) c, .slice q (safe.length / 2) c']] (H' ++ X) Q = Q (.tuple #[.int .i64 ((opG safe).1 : Int), .int .i64 ((opG safe).2 : Int)]) (H' ++ X) at h49
  have w1 : IntKind.i64.wrap (((opG safe).2 : Int) + 1) = (((opG safe).2 + 1 : Nat) : Int) := wrap_nat (by omega)
  have c1 : ¬ (1073741824 : Int) < (((opG safe).2 + 1 : Nat) : Int) := by omega
  have lh : lim ≤ H'.length := by omega
  simp only [n35, r35, h49, w1, c1, lh, SB, Nat.reduceLT, callee, aOp, ne_eq, Nat.reduceEqDiff, aBin, aUn, if_true, if_false, reduceCtorEq, frame0, place, notTuple, Nat.reduceAdd, Nat.reduceLeDiff, resVal, dite_true, dite_false, Int.reduceEq, Int.reduceLT, Int.reduceLE]
  refine inner35 (J := H'.length + 1) (D := D) (life := (opG safe).2 + 1) (c := c) (c' := c') (h0.app _) (h1.app _) (by omega) (by omega) (fun a ea => ?_) (fun a ea => ?_) (by rw [hget_new]; rfl) (by omega) (by simp only [upd_same, upd_ne, ne_eq, Nat.reduceEqDiff, not_false_eq_true, frame0, List.getD_cons_zero, List.getD_cons_succ]) (by simp only [upd_same, upd_ne, ne_eq, Nat.reduceEqDiff, not_false_eq_true, frame0, List.getD_cons_zero, List.getD_cons_succ]) (by simp only [lA, lB, upd_same, upd_ne, ne_eq, Nat.reduceEqDiff, not_false_eq_true, frame0, List.getD_cons_zero, List.getD_cons_succ]) (by simp only [Int.cast_ofNat_Int, upd_same, upd_ne, ne_eq, Nat.reduceEqDiff, not_false_eq_true, frame0, List.getD_cons_zero, List.getD_cons_succ]) fun fr' G' k1 k2 k8 k7 k0 k5 => ?_
  · subst ea
    have := h0.lt fun e => by rw [e] at lA; simp at lA; omega
    omega
  · subst ea
    have := h1.lt fun e => by rw [e] at lB; simp at lB; omega
    omega
  have k7' : fr' 7 = .pointer (some ⟨H'.length + 1, 0, none⟩) := k7.trans (by simp only [upd_same, upd_ne, ne_eq, Nat.reduceEqDiff, not_false_eq_true, frame0, List.getD_cons_zero, List.getD_cons_succ])
  have k0' : fr' 0 = .pointer (some ⟨D, 0, none⟩) := k0.trans (by simp only [upd_same, upd_ne, ne_eq, Nat.reduceEqDiff, not_false_eq_true, frame0, List.getD_cons_zero, List.getD_cons_succ])
  have k5' : fr' 5 = .int .i64 ((opG safe).1 : Int) := k5.trans (by simp only [upd_same, upd_ne, ne_eq, Nat.reduceEqDiff, not_false_eq_true, frame0, List.getD_cons_zero, List.getD_cons_succ])
  change hget G' (H'.length + 1) = .cells false (jcell D ((opG safe).2 + 1) (opX safe)) at k2
  change fr' 8 = .bool (opX safe).1 at k8
  have hCG : Chg [] H G' := hC.app.trans' k1 fun j h1 h2 => by simp only [List.mem_singleton] at h1; omega
  have hDG := hCG.cells hD (by simp)
  have hSG := hCG.cells hS (by simp)
  have lG := hCG.len
  have hJl := hget_alive k2
  generalize hJe : H'.length + 1 = J at k7' k2 k1 hJl
  have hJH : H.length ≤ J := by omega
  clear k7 k0 k5 hDX h48 h49
  cases hx : (opX safe).1 with
  | true =>
    rw [hx] at k8
    obtain ⟨G1, s1, g1, m1⟩ := mut_set (hget_alive hDG) (.cells false [.slice (some ⟨S, 0, none⟩) safe.length sc, .slice none 0 0])
    have hDGX := fun X => (Ext.refl.app (X := X)).cells hDG
    simp only [n35, r35, k7', k0', k5', k8, hDGX, Bool.not_true, SB, Nat.reduceLT, callee, aOp, ne_eq, Nat.reduceEqDiff, aBin, aUn, if_true, if_false, reduceCtorEq, frame0, place, notTuple, Nat.reduceAdd, Nat.reduceLeDiff, resVal, dite_true, dite_false, Int.reduceEq, Int.reduceLT, Int.reduceLE]
    rw [List.append_nil]
    refine clip_ok ?_
    refine Ret_pad ?_
    simp only [n35, r35, k7', k0', k5', k8, hDGX, lD, s1, SB, Nat.reduceLT, callee, aOp, ne_eq, Nat.reduceEqDiff, aBin, aUn, if_true, if_false, reduceCtorEq, frame0, place, notTuple, Nat.reduceAdd, Nat.reduceLeDiff, resVal, dite_true, dite_false, Int.reduceEq, Int.reduceLT, Int.reduceLE]
    rw [List.append_nil]
    refine hF G1 J hx ((hCG.mono (by simp)).mut m1 (.inl (by simp))) hJH ⟨⟨m1.cells k2 (by omega), g1, Own.nil, by omega, lD, by omega, by intro a e; cases e⟩, m1.cells hSG hSD, lS, hSD, by omega, (by intro a e; cases e), hne⟩
  | false =>
    rw [hx] at k8
    have hg1' := hg1 hx
    have w3 : IntKind.i64.wrap (((opG safe).1 : Int) + 1) = (((opG safe).1 + 1 : Nat) : Int) := wrap_nat (by omega)
    have c3 : ¬ (1073741824 : Int) < (((opG safe).1 + 1 : Nat) : Int) := by omega
    have hX0 : opX safe = (false, 0, 0, 0) := opX_none hx
    rw [hX0] at k2
    obtain ⟨G1, s1, g1, m1⟩ := mut_set hJl (.cells false (jcell D ((opG safe).2 + 1) (false, 0, (opG safe).1 + 1, 0)))
    obtain ⟨G2, s2, g2, m2⟩ := mut_set (hget_alive (m1.cells hDG (by omega))) (.cells false [.slice (some ⟨S, 0, none⟩) safe.length sc, .slice none 0 0])
    have hJX := fun X => (Ext.refl.app (X := X)).cells k2
    have hDGX := fun X => (Ext.refl.app (X := X)).cells (m1.cells hDG (by omega))
    simp only [jcell, Int.cast_ofNat_Int] at hJX s1
    have lJ : lim ≤ J := by omega
    simp only [n35, r35, k7', k0', k5', k8, hDGX, Bool.not_false, w3, c3, hJX, s1, lJ, SB, Nat.reduceLT, callee, aOp, ne_eq, Nat.reduceEqDiff, aBin, aUn, if_true, if_false, reduceCtorEq, frame0, place, notTuple, Nat.reduceAdd, Nat.reduceLeDiff, resVal, dite_true, dite_false, Int.reduceEq, Int.reduceLT, Int.reduceLE]
    rw [List.append_nil]
    refine clip_ok ?_
    refine Ret_pad ?_
    simp only [n35, r35, k7', k0', k5', k8, hDGX, lD, s2, SB, Nat.reduceLT, callee, aOp, ne_eq, Nat.reduceEqDiff, aBin, aUn, if_true, if_false, reduceCtorEq, frame0, place, notTuple, Nat.reduceAdd, Nat.reduceLeDiff, resVal, dite_true, dite_false, Int.reduceEq, Int.reduceLT, Int.reduceLE]
    rw [List.append_nil]
    have hL : Lies lim G2 J D S 0 ((opG safe).1 + 1) ((opG safe).2 + 1) 0 sc none 0 safe [] := ⟨⟨m2.cells g1 (by omega), g2, Own.nil, by omega, lD, by omega, by intro a e; cases e⟩, m2.cells (m1.cells hSG (by omega)) hSD, lS, hSD, by omega, (by intro a e; cases e), hne⟩
    refine writeL_ok (b := []) hL ((Own.nil (lim := lim)).sl encb_len) (Own.nil (lim := lim) (enc := encb) (e := 1) (G := G2)).capOk (fun _ => rfl) (by intro a e; cases e) (by simp) (by omega) (by simp) (by omega) (by omega) fun G3 pp' cp' q1 q2 q3 => ?_
    simp only [n35, r35, k0', SB, Nat.reduceLT, callee, aOp, ne_eq, Nat.reduceEqDiff, aBin, aUn, if_true, if_false, reduceCtorEq, frame0, place, notTuple, Nat.reduceAdd, Nat.reduceLeDiff, resVal, dite_true, dite_false, Int.reduceEq, Int.reduceLT, Int.reduceLE]
    rw [List.append_nil]
    rw [List.nil_append, Nat.zero_mul] at q3
    refine Sync_ok q3.jl.d q3.jl.lD (fun _ => ⟨rfl, q3.s, q3.lS⟩) q3.SD (q3.jl.own.sl encW_len) (fun a e _ => ⟨q3.ps a e, (q3.jl.ap a e).2⟩) (by omega) (by rw [wrsOf_len, pcs_need]; decide) fun H2 hC2 hD' hS' => ?_
    refine Ret_pad ?_
    simp only [n35, r35, k7', SB, Nat.reduceLT, callee, aOp, ne_eq, Nat.reduceEqDiff, aBin, aUn, if_true, if_false, reduceCtorEq, frame0, place, notTuple, Nat.reduceAdd, Nat.reduceLeDiff, resVal, dite_true, dite_false, Int.reduceEq, Int.reduceLT, Int.reduceLE]
    rw [List.append_nil]
    have hl : (crashed [] (wrsOf 0 ((opG safe).1 + 1) ((opG safe).2 + 1) 0 (pcs [])) safe).length = safe.length := crashed_len
    refine hN H2 J hx ?_ hJH ⟨⟨hC2.cells q3.jl.j (by simp [q3.SJ.symm, q3.jl.JD]), by rw [hl]; exact hD', Own.nil, q3.jl.lJ, q3.jl.lD, q3.jl.JD, by intro a e; cases e⟩, hS' hne, lS, hSD, q3.SJ, (by intro a e; cases e), fun e => hne (by rw [← List.length_eq_zero_iff, ← hl, e]; rfl)⟩
    have c2 : Chg [S, D] H G2 := ((hCG.mono (by simp)).mut m1 (.inr hJH)).mut m2 (.inl (by simp))
    exact (c2.trans' q1 fun j h1 h2 => by
      simp only [blk, List.mem_cons, List.not_mem_nil, or_false] at h1 ⊢
      rcases h1 with h1 | h1
      · omega
      · exact .inr h1).trans' hC2 fun j h1 _ => h1
end Go.Proofs.Ytdddehniepofmaa.Fn
namespace Go.Proofs.Ytdddehniepofmaa.Fn
open Go.AM Go.AM.Sym
set_option maxRecDepth 100000
set_option linter.unusedVariables false
set_option linter.unusedSimpArgs false
set_option maxHeartbeats 4000000

theorem u8_of (z : Int) : ∃ b : UInt8, IntKind.u8.wrap z = (b.toNat : Int) := by
  refine ⟨UInt8.ofNat (IntKind.u8.wrap z).toNat, ?_⟩
  have h : 0 ≤ IntKind.u8.wrap z ∧ IntKind.u8.wrap z < 256 := by
    simp only [IntKind.wrap, IntKind.bits, IntKind.signed]
    simp
    omega
  rw [UInt8.toNat_ofNat_of_lt' (by show _ < 256; omega)]
  omega
/-- A row of a step: made anew, short. -/
structure Fresh (h0 : Nat) (G : Heap) (q : Option Addr) (cq : Nat) (l : List UInt8) : Prop where
  own : Own h0 G encb 1 q cq l
  nil : l = [] → q = none
  len : l.length ≤ 60
theorem record_ok {lim i : Nat} {y1 y2 : UInt8} {v0 v3 : Value} {H : Heap} {Q : Value → Heap → Prop} (hi : i < 1000) (hlim : lim ≤ H.length)
    (hQ : ∀ G q cq l, Chg [] H G → Fresh H.length G q cq l → Q (.slice q l.length cq) G) :
    CallR E false lim 29 [.agg #[v0, .int .u8 (y1.toNat : Int), .int .u8 (y2.toNat : Int), v3], .int .i64 (i : Int)] H Q := by
  refine runs (by decide) e29 rfl ?_
  rw [b29, c29]
  simp only [n29, r29, SB, Nat.reduceLT, callee, aOp, ne_eq, Nat.reduceEqDiff, aBin, aUn, if_true, if_false, reduceCtorEq, frame0, place, notTuple, Nat.reduceAdd, Nat.reduceLeDiff, resVal, dite_true, dite_false, Int.reduceEq, Int.reduceLT, Int.reduceLE]
  have hm : y1.toNat % 61 ≤ 60 := by omega
  refine Ret_rounds (fun s : Nat × Option Addr × Nat × List UInt8 => 61 - s.1) (fun s fr G => s.1 ≤ y1.toNat % 61 ∧ s.2.2.2.length = s.1 ∧ fr 1 = .int .i64 (i : Int) ∧ fr 2 = .pointer (some ⟨H.length, 0, none⟩) ∧ fr 5 = .slice s.2.1 s.2.2.2.length s.2.2.1 ∧ fr 6 = .int .i64 (s.1 : Int) ∧ Chg [] H G ∧ H.length + 1 ≤ G.length ∧ hget G H.length = .cells false [v0, .int .u8 (y1.toNat : Int), .int .u8 (y2.toNat : Int), v3] ∧ Own (H.length + 1) G encb 1 s.2.1 s.2.2.1 s.2.2.2 ∧ (s.2.2.2 = [] → s.2.1 = none)) (0, none, 0, [])
    ⟨Nat.zero_le _, rfl, (by simp only [upd_same, upd_ne, ne_eq, Nat.reduceEqDiff, not_false_eq_true, frame0, List.getD_cons_zero, List.getD_cons_succ]), (by simp only [upd_same, upd_ne, ne_eq, Nat.reduceEqDiff, not_false_eq_true, frame0, List.getD_cons_zero, List.getD_cons_succ]), by rfl, by rfl, Chg.refl.app, by simp, by rw [hget_new0]; rfl, Own.nil, fun _ => rfl⟩ ?_
  rintro ⟨j, q, cq, l⟩ fr G ⟨hj, hl, g1, g2, g5, g6, hC, hlen, hb, hO, hz⟩ hN
  simp only at hj hl g5 g6 hO hz
  rw [Ret_code l29_1.eq_1]
  refine Ret_pad ?_
  have hbX := fun X => (Ext.refl.app (X := X)).cells hb
  have hy1 := y1.toNat_lt
  have wc : IntKind.i64.wrap (y1.toNat : Int) = (y1.toNat : Int) := wrap_id (by omega) (by omega)
  have wr : Int.tmod (y1.toNat : Int) 61 = ((y1.toNat % 61 : Nat) : Int) := rfl
  by_cases hlt : j < y1.toNat % 61
  · have hlt' : (j : Int) < ((y1.toNat % 61 : Nat) : Int) := by omega
    have hw1 : IntKind.i64.wrap ((j : Int) + 1) = ((j + 1 : Nat) : Int) := wrap_nat (by omega)
    obtain ⟨b, eb⟩ := u8_of ((y2.toNat : Int) + IntKind.u8.wrap (IntKind.i64.wrap (IntKind.i64.wrap (7 * (j : Int)) + (i : Int))))
    obtain ⟨G2, e1, O2, C2, hold, l2, _⟩ := hO.step (lim' := lim) (bytes := 1) (by omega) encb_len (by decide) b (by rw [hl]; unfold maxBytes; omega) (by rw [hl]; omega) hlen [.cells false (encb b)] G.length 1 (by rw [hget_new0]; rfl)
    simp only [encb, u8] at e1
    rw [hl] at e1
    rw [hl] at g5
    simp only [n29, r29, g1, g2, g5, g6, hbX, wc, wr, hlt', eb, e1, hw1, SB, Nat.reduceLT, callee, aOp, ne_eq, Nat.reduceEqDiff, aBin, aUn, if_true, if_false, reduceCtorEq, frame0, place, notTuple, Nat.reduceAdd, Nat.reduceLeDiff, resVal, dite_true, dite_false, Int.reduceEq, Int.reduceLT, Int.reduceLE]
    have hb2 : hget (G2 ++ []) H.length = .cells false [v0, .int .u8 (y1.toNat : Int), .int .u8 (y2.toNat : Int), v3] := by
      rw [hold _ (by omega) fun a ea => by have := (hO.block ea).1; omega]; exact hb
    exact hN (j + 1, _, loose 1, l ++ [b]) _ _ ⟨by show j + 1 ≤ _; omega, by simp [hl], (by simp only [g1, upd_same, upd_ne, ne_eq, Nat.reduceEqDiff, not_false_eq_true, frame0, List.getD_cons_zero, List.getD_cons_succ]), (by simp only [g2, upd_same, upd_ne, ne_eq, Nat.reduceEqDiff, not_false_eq_true, frame0, List.getD_cons_zero, List.getD_cons_succ]), (by simp only [List.length_append, List.length_cons, List.length_nil, hl, upd_same, upd_ne, ne_eq, Nat.reduceEqDiff, not_false_eq_true, frame0, List.getD_cons_zero, List.getD_cons_succ]), (by simp only [upd_same, upd_ne, ne_eq, Nat.reduceEqDiff, not_false_eq_true, frame0, List.getD_cons_zero, List.getD_cons_succ]), C2 _ _ (by omega) hC, by simp [l2]; omega, hb2, O2, fun h => by simp at h⟩ (by show 61 - (j + 1) < 61 - j; omega)
  obtain rfl : j = y1.toNat % 61 := by omega
  simp only [n29, r29, g1, g2, g5, g6, hbX, wc, wr, SB, Nat.reduceLT, callee, aOp, ne_eq, Nat.reduceEqDiff, aBin, aUn, if_true, if_false, reduceCtorEq, frame0, place, notTuple, Nat.reduceAdd, Nat.reduceLeDiff, resVal, dite_true, dite_false, Int.reduceEq, Int.reduceLT, Int.reduceLE]
  rw [List.append_nil]
  exact hQ G q cq l hC ⟨hO.le (by omega), hz, by omega⟩
end Go.Proofs.Ytdddehniepofmaa.Fn
namespace Go.Proofs.Ytdddehniepofmaa.Fn
open Go.AM Go.AM.Sym
set_option maxRecDepth 100000
set_option linter.unusedVariables false
set_option linter.unusedSimpArgs false
set_option maxHeartbeats 4000000

def zsec : Sec := Vector.replicate 32 0
theorem zsec_get : get4 zsec 0 = 0 := by decide +kernel
theorem zsec_mark (i : Nat) : sMarked zsec i = false := by
  unfold sMarked
  rw [zsec_get]; simp
theorem grGo_z : ∀ (m i : Nat) (x : Nat × Nat), grGo i (List.replicate m zsec) x = x
  | 0, i, x => rfl
  | m + 1, i, x => by rw [List.replicate_succ, grGo, zsec_mark]; exact grGo_z m (i + 1) x
theorem recs_z (m : Nat) : recs (List.replicate m zsec) = ([], 0) := by
  cases m with
  | zero => rfl
  | succ m =>
    rw [List.replicate_succ]
    unfold recs recGo
    have : goesOn (epochOf (zsec :: List.replicate m zsec)) 0 false 0 zsec = false := by unfold goesOn; rw [zsec_mark]; rfl
    rw [this]; rfl
theorem areaD_z {n a : Nat} : ∃ m, areaD [] (List.replicate n zsec) a = List.replicate m zsec := by
  unfold areaD
  have : readD [] (List.replicate n zsec) = List.replicate n zsec := rfl
  rw [this, List.drop_replicate, List.take_replicate]
  exact ⟨_, rfl⟩
theorem opG_z {n : Nat} : opG (List.replicate n zsec) = (0, 0) := by
  obtain ⟨a, ha⟩ := areaD_z (n := n) (a := 0)
  obtain ⟨b, hb⟩ := areaD_z (n := n) (a := 1)
  unfold opG opA opB
  rw [ha, hb, grGo_z, grGo_z]
theorem opX_z {n : Nat} : opX (List.replicate n zsec) = (false, 0, 0, 0) := by
  obtain ⟨a, ha⟩ := areaD_z (n := n) (a := 0)
  obtain ⟨b, hb⟩ := areaD_z (n := n) (a := 1)
  unfold opX opA opB opStep opTake
  rw [ha, hb, recs_z, recs_z]; rfl
def safe0 (n : Nat) : List Sec := crashed [] (wrsOf 0 1 1 0 (pcs [])) (List.replicate n zsec)
theorem safe0_len (n : Nat) : (safe0 n).length = n := by unfold safe0; rw [crashed_len, List.length_replicate]
theorem begun_ok {lim : Nat} {y : UInt8} {H : Heap} {Q : Value → Heap → Prop} (hlim : lim ≤ H.length)
    (hQ : ∀ G J D S, Chg [] H G → H.length ≤ J → H.length ≤ D → H.length ≤ S → Lies lim G J D S 0 1 1 1 (4 + y.toNat % 64) none 0 (safe0 (4 + y.toNat % 64)) [] → Q (.tuple #[.pointer (some ⟨J, 0, none⟩), .pointer (some ⟨D, 0, none⟩), .bool true]) G) :
    CallR E false lim 28 [.int .u8 (y.toNat : Int)] H Q := by
  refine runs (by decide) e28 rfl ?_
  rw [b28, c28]
  have hy := y.toNat_lt
  have w0 : Int.tmod (y.toNat : Int) 64 = ((y.toNat % 64 : Nat) : Int) := rfl
  have w2 : IntKind.i64.wrap ((y.toNat % 64 : Nat) : Int) = ((y.toNat % 64 : Nat) : Int) := wrap_id (by omega) (by omega)
  have w3 : IntKind.i64.wrap (4 + ((y.toNat % 64 : Nat) : Int)) = ((4 + y.toNat % 64 : Nat) : Int) := by rw [wrap_id (by omega) (by omega)]; omega
  generalize hn : 4 + y.toNat % 64 = n at w3 hQ
  simp only [n28, r28, w0, w2, w3, SB, Nat.reduceLT, callee, aOp, ne_eq, Nat.reduceEqDiff, aBin, aUn, if_true, if_false, reduceCtorEq, frame0, place, notTuple, Nat.reduceAdd, Nat.reduceLeDiff, resVal, dite_true, dite_false, Int.reduceEq, Int.reduceLT, Int.reduceLE]
  rw [List.append_nil]
  refine NewDisk_ok (by omega) (by omega) ?_
  refine Ret_pad ?_
  simp only [n28, r28, aEq, SB, Nat.reduceLT, callee, aOp, ne_eq, Nat.reduceEqDiff, aBin, aUn, if_true, if_false, reduceCtorEq, frame0, place, notTuple, Nat.reduceAdd, Nat.reduceLeDiff, resVal, dite_true, dite_false, Int.reduceEq, Int.reduceLT, Int.reduceLE]
  change CallR E false lim 35 _ (H ++ [.cells false ((List.replicate n zsec).flatMap encX), _]) _
  have hlz : (List.replicate n zsec).length = n := List.length_replicate
  refine Open_ok (D := H.length + 1) (S := H.length) (sc := n) (safe := List.replicate n zsec) (by rw [hget_new, hlz]; rfl) (by rw [hget_new0]; rfl) (by omega) (by omega) (by omega) (by omega) (by omega) (by rw [opG_z]; decide) (fun _ => by rw [opG_z]; decide) (fun H' J h _ _ _ => by rw [opX_z] at h; cases h) fun H' J _ hC hJ hL => ?_
  rw [opG_z] at hL
  refine Ret_pad ?_
  simp only [n28, r28, SB, Nat.reduceLT, callee, aOp, ne_eq, Nat.reduceEqDiff, aBin, aUn, if_true, if_false, reduceCtorEq, frame0, place, notTuple, Nat.reduceAdd, Nat.reduceLeDiff, resVal, dite_true, dite_false, Int.reduceEq, Int.reduceLT, Int.reduceLE]
  rw [List.append_nil]
  exact hQ H' J (H.length + 1) H.length ((Chg.refl.app (X := [_, _]) : Chg [] H _).trans' hC fun j h1 h2 => by
    simp only [List.mem_cons, List.not_mem_nil, or_false] at h1; omega) (by simp at hJ; omega) (by omega) (Nat.le_refl _) hL
end Go.Proofs.Ytdddehniepofmaa.Fn
namespace Go.Proofs.Ytdddehniepofmaa.Fn
open Go.AM Go.AM.Sym
set_option maxRecDepth 100000
set_option linter.unusedVariables false
set_option linter.unusedSimpArgs false
set_option maxHeartbeats 4000000

/-- A step. -/
structure Stp where
  a : UInt8
  b : UInt8
  c : UInt8
  m : Int
deriving Inhabited
def encS (x : Stp) : List Value := [.int .u8 (x.a.toNat : Int), .int .u8 (x.b.toNat : Int), .int .u8 (x.c.toNat : Int), .int .u64 x.m]
theorem encS_len (x : Stp) : (encS x).length = 4 := rfl
theorem inner5 {lim L cq : Nat} {q : Option Addr} {fr : Nat → Value} {G : Heap} {K : List AItem} {R : Value → Heap → Prop} (hL : L ≤ 60) (f12 : fr 12 = .slice q L cq) (f13 : fr 13 = .int .i64 1)
    (hR : ∀ fr', fr' 13 = .int .i64 (needN L : Int) → fr' 12 = fr 12 → fr' 5 = fr 5 → fr' 6 = fr 6 → fr' 8 = fr 8 → fr' 9 = fr 9 → fr' 10 = fr 10 → fr' 11 = fr 11 → fr' 33 = fr 33 → fr' 34 = fr 34 → fr' 35 = fr 35 → Ret E a5 lim K fr' (G ++ []) R) :
    Ret E a5 lim (.code (.loop l5_1) :: .inBlock 2 :: K) fr G R := by
  refine Ret_rounds (fun j => 61 - j) (fun j fr' G' => 1 ≤ j ∧ j ≤ needN L ∧ G' = G ∧ fr' 13 = .int .i64 (j : Int) ∧ fr' 12 = fr 12 ∧ fr' 5 = fr 5 ∧ fr' 6 = fr 6 ∧ fr' 8 = fr 8 ∧ fr' 9 = fr 9 ∧ fr' 10 = fr 10 ∧ fr' 11 = fr 11 ∧ fr' 33 = fr 33 ∧ fr' 34 = fr 34 ∧ fr' 35 = fr 35) 1
    ⟨Nat.le_refl _, by unfold needN; omega, rfl, f13, rfl, rfl, rfl, rfl, rfl, rfl, rfl, rfl, rfl, rfl⟩ ?_
  rintro j fr' G' ⟨h1, h2, rfl, g13, g12, g5, g6, g8, g9, g10, g11, g33, g34, g35⟩ hN
  have h3 : needN L ≤ 61 := by unfold needN; omega
  rw [f12] at g12
  rw [Ret_code l5_1.eq_1]
  refine Ret_pad ?_
  have w1 : IntKind.i64.wrap ((j : Int) * 18) = ((j * 18 : Nat) : Int) := by rw [wrap_id (by omega) (by omega)]; omega
  have hw1 : IntKind.i64.wrap ((j : Int) + 1) = ((j + 1 : Nat) : Int) := wrap_nat (by omega)
  by_cases hlt : j * 18 < L
  · have hlt' : ((j * 18 : Nat) : Int) < (L : Int) := by omega
    simp only [n5, r5, g12, g13, w1, hw1, hlt', SB, Nat.reduceLT, callee, aOp, ne_eq, Nat.reduceEqDiff, aBin, aUn, if_true, if_false, reduceCtorEq, frame0, place, notTuple, Nat.reduceAdd, Nat.reduceLeDiff, resVal, dite_true, dite_false, Int.reduceEq, Int.reduceLT, Int.reduceLE]
    rw [List.append_nil]
    exact hN (j + 1) _ _ ⟨by omega, by unfold needN; omega, rfl, (by simp only [upd_same, upd_ne, ne_eq, Nat.reduceEqDiff, not_false_eq_true, frame0, List.getD_cons_zero, List.getD_cons_succ]), by rw [f12]; exact (by simp only [g12, upd_same, upd_ne, ne_eq, Nat.reduceEqDiff, not_false_eq_true, frame0, List.getD_cons_zero, List.getD_cons_succ]), by rw [← g5]; exact (by simp only [upd_same, upd_ne, ne_eq, Nat.reduceEqDiff, not_false_eq_true, frame0, List.getD_cons_zero, List.getD_cons_succ]), by rw [← g6]; exact (by simp only [upd_same, upd_ne, ne_eq, Nat.reduceEqDiff, not_false_eq_true, frame0, List.getD_cons_zero, List.getD_cons_succ]), by rw [← g8]; exact (by simp only [upd_same, upd_ne, ne_eq, Nat.reduceEqDiff, not_false_eq_true, frame0, List.getD_cons_zero, List.getD_cons_succ]), by rw [← g9]; exact (by simp only [upd_same, upd_ne, ne_eq, Nat.reduceEqDiff, not_false_eq_true, frame0, List.getD_cons_zero, List.getD_cons_succ]), by rw [← g10]; exact (by simp only [upd_same, upd_ne, ne_eq, Nat.reduceEqDiff, not_false_eq_true, frame0, List.getD_cons_zero, List.getD_cons_succ]), by rw [← g11]; exact (by simp only [upd_same, upd_ne, ne_eq, Nat.reduceEqDiff, not_false_eq_true, frame0, List.getD_cons_zero, List.getD_cons_succ]), by rw [← g33]; exact (by simp only [upd_same, upd_ne, ne_eq, Nat.reduceEqDiff, not_false_eq_true, frame0, List.getD_cons_zero, List.getD_cons_succ]), by rw [← g34]; exact (by simp only [upd_same, upd_ne, ne_eq, Nat.reduceEqDiff, not_false_eq_true, frame0, List.getD_cons_zero, List.getD_cons_succ]), by rw [← g35]; exact (by simp only [upd_same, upd_ne, ne_eq, Nat.reduceEqDiff, not_false_eq_true, frame0, List.getD_cons_zero, List.getD_cons_succ])⟩ (by omega)
  · have hlt' : ¬ ((j * 18 : Nat) : Int) < (L : Int) := by omega
    have hj : j = needN L := by unfold needN at h2 ⊢; omega
    simp only [n5, r5, g12, g13, w1, hw1, hlt', SB, Nat.reduceLT, callee, aOp, ne_eq, Nat.reduceEqDiff, aBin, aUn, if_true, if_false, reduceCtorEq, frame0, place, notTuple, Nat.reduceAdd, Nat.reduceLeDiff, resVal, dite_true, dite_false, Int.reduceEq, Int.reduceLT, Int.reduceLE]
    exact hR _ (by rw [← hj]; exact (by simp only [g13, upd_same, upd_ne, ne_eq, Nat.reduceEqDiff, not_false_eq_true, frame0, List.getD_cons_zero, List.getD_cons_succ])) (by rw [f12]; exact (by simp only [g12, upd_same, upd_ne, ne_eq, Nat.reduceEqDiff, not_false_eq_true, frame0, List.getD_cons_zero, List.getD_cons_succ])) (by rw [← g5]; exact (by simp only [upd_same, upd_ne, ne_eq, Nat.reduceEqDiff, not_false_eq_true, frame0, List.getD_cons_zero, List.getD_cons_succ])) (by rw [← g6]; exact (by simp only [upd_same, upd_ne, ne_eq, Nat.reduceEqDiff, not_false_eq_true, frame0, List.getD_cons_zero, List.getD_cons_succ])) (by rw [← g8]; exact (by simp only [upd_same, upd_ne, ne_eq, Nat.reduceEqDiff, not_false_eq_true, frame0, List.getD_cons_zero, List.getD_cons_succ])) (by rw [← g9]; exact (by simp only [upd_same, upd_ne, ne_eq, Nat.reduceEqDiff, not_false_eq_true, frame0, List.getD_cons_zero, List.getD_cons_succ])) (by rw [← g10]; exact (by simp only [upd_same, upd_ne, ne_eq, Nat.reduceEqDiff, not_false_eq_true, frame0, List.getD_cons_zero, List.getD_cons_succ])) (by rw [← g11]; exact (by simp only [upd_same, upd_ne, ne_eq, Nat.reduceEqDiff, not_false_eq_true, frame0, List.getD_cons_zero, List.getD_cons_succ])) (by rw [← g33]; exact (by simp only [upd_same, upd_ne, ne_eq, Nat.reduceEqDiff, not_false_eq_true, frame0, List.getD_cons_zero, List.getD_cons_succ])) (by rw [← g34]; exact (by simp only [upd_same, upd_ne, ne_eq, Nat.reduceEqDiff, not_false_eq_true, frame0, List.getD_cons_zero, List.getD_cons_succ])) (by rw [← g35]; exact (by simp only [upd_same, upd_ne, ne_eq, Nat.reduceEqDiff, not_false_eq_true, frame0, List.getD_cons_zero, List.getD_cons_succ]))

/-- What holds between the steps of JournalRooms. -/
structure RSt where
  i : Nat
  area : Nat
  e : Nat
  nn : Nat
  pp : Option Addr
  cp : Nat
  safe : List Sec
  pend : List Wr
structure RInv (lim n J D S : Nat) (H : Heap) (s : RSt) (G : Heap) : Prop where
  li : Lies lim G J D S s.area s.e 1 s.nn n s.pp s.cp s.safe s.pend
  len : s.safe.length = n
  area : s.area ≤ 1
  nn : s.nn ≤ n / 2
  e : s.e ≤ s.i + 1
  pend : s.pend.length ≤ 4 * s.i
  chg : Chg [] H G
  new : ∀ a, s.pp = some a → H.length ≤ a.block
theorem btt : (true == true) = true := id rfl
theorem btf : (true == false) = false := id rfl
theorem bft : (false == true) = false := id rfl
theorem bff : (false == false) = true := id rfl
theorem JournalRooms_ok {mp : Bool} {lim c : Nat} {y : UInt8} {p : Option Addr} {steps : List Stp} {H : Heap} {Q : Value → Heap → Prop} (hs : Sl H encS 4 p steps) (hn : steps.length < 2 ^ 63) :
    CallR E mp lim 5 [.int .u8 (y.toNat : Int), .slice p steps.length c] H Q = Q (.bool true) H := by
  refine pc (by decide) e5 rfl rfl ?_
  rw [b5, c5]
  simp only [n5, r5, SB, Nat.reduceLT, callee, aOp, ne_eq, Nat.reduceEqDiff, aBin, aUn, if_true, if_false, reduceCtorEq, frame0, place, notTuple, Nat.reduceAdd, Nat.reduceLeDiff, resVal, dite_true, dite_false, Int.reduceEq, Int.reduceLT, Int.reduceLE]
  rw [List.append_nil]
  refine begun_ok (Nat.le_refl _) fun G J D S hC hJ hD hS hL => ?_
  have hyl : 4 + y.toNat % 64 < 68 := by omega
  generalize hnn : 4 + y.toNat % 64 = n at hL hyl
  have hn4 : 4 ≤ n := by omega
  refine Ret_pad ?_
  have hDX := fun X => (Ext.refl.app (X := X)).cells hL.jl.d
  rw [safe0_len] at hDX
  have w1 : IntKind.i64.wrap (Int.tdiv (n : Int) 2) = ((n / 2 : Nat) : Int) := by
    rw [show Int.tdiv (n : Int) 2 = ((n / 2 : Nat) : Int) from rfl]
    exact wrap_id (by omega) (by omega)
  have w2 : IntKind.i64.wrap (((n / 2 : Nat) : Int) - 1) = ((n / 2 - 1 : Nat) : Int) := by rw [wrap_id (by omega) (by omega)]; omega
  simp only [n5, r5, hDX, w1, w2, Bool.not_true, SB, Nat.reduceLT, callee, aOp, ne_eq, Nat.reduceEqDiff, aBin, aUn, if_true, if_false, reduceCtorEq, frame0, place, notTuple, Nat.reduceAdd, Nat.reduceLeDiff, resVal, dite_true, dite_false, Int.reduceEq, Int.reduceLT, Int.reduceLE]
  refine Ret_rounds (fun s : RSt => steps.length - s.i) (fun s fr G => s.i ≤ steps.length ∧ s.i ≤ 30 ∧ RInv H.length n J D S H s G ∧ fr 5 = .pointer (some ⟨J, 0, none⟩) ∧ fr 6 = .pointer (some ⟨D, 0, none⟩) ∧ fr 8 = .int .i64 ((n / 2 : Nat) : Int) ∧ fr 9 = .int .i64 ((n / 2 - s.nn : Nat) : Int) ∧ fr 33 = .slice p steps.length c ∧ fr 34 = .int .i64 (steps.length : Int) ∧ fr 35 = .int .i64 (s.i : Int)) ⟨0, 0, 1, 1, none, 0, safe0 n, []⟩
    ⟨Nat.zero_le _, Nat.zero_le _, ⟨by rw [List.append_nil]; exact hL, safe0_len n, by simp, by show 1 ≤ n / 2; omega, Nat.le_refl _, by simp, by rw [List.append_nil]; exact hC, by intro a e; cases e⟩, (by simp only [upd_same, upd_ne, ne_eq, Nat.reduceEqDiff, not_false_eq_true, frame0, List.getD_cons_zero, List.getD_cons_succ]), (by simp only [upd_same, upd_ne, ne_eq, Nat.reduceEqDiff, not_false_eq_true, frame0, List.getD_cons_zero, List.getD_cons_succ]), (by simp only [upd_same, upd_ne, ne_eq, Nat.reduceEqDiff, not_false_eq_true, frame0, List.getD_cons_zero, List.getD_cons_succ]), (by simp only [upd_same, upd_ne, ne_eq, Nat.reduceEqDiff, not_false_eq_true, frame0, List.getD_cons_zero, List.getD_cons_succ]), (by simp only [upd_same, upd_ne, ne_eq, Nat.reduceEqDiff, not_false_eq_true, frame0, List.getD_cons_zero, List.getD_cons_succ]), (by simp only [upd_same, upd_ne, ne_eq, Nat.reduceEqDiff, not_false_eq_true, frame0, List.getD_cons_zero, List.getD_cons_succ]), by rfl⟩ ?_
  rintro ⟨i, area, e, nn, pp, cp, safe, pend⟩ fr G1 ⟨hi, hi30, I, g5, g6, g8, g9, g33, g34, g35⟩ hN
  simp only at hi hi30 g9 g35
  have hli := I.li
  have hsl := I.len
  have har := I.area
  have hnn2 := I.nn
  have he := I.e
  have hpd := I.pend
  have hCG := I.chg
  have hnew := I.new
  simp only at hli hsl har hnn2 he hpd hnew
  rw [Ret_code l5_2.eq_1]
  refine Ret_pad ?_
  by_cases hlt : i < steps.length
  · have hsG := hCG.sl hs (by simp)
    have hld := fun X => (hsG.app X).loadCells encS_len hlt
    have hidx := fun c (k : IntKind) (H1 : Heap) => hsG.idx (c := c) (k := k) (H1 := H1) hlt
    have hw1 : IntKind.i64.wrap ((i : Int) + 1) = ((i + 1 : Nat) : Int) := wrap_nat (by omega)
    simp only [encS] at hld
    by_cases h30 : i = 30
    · have h30' : ((i : Int) = 30) = True := eq_true (by omega)
      simp only [n5, r5, g5, g6, g8, g9, g33, g34, g35, hlt, hld, hidx, h30', show H.length ≤ G1.length by have := hCG.len; omega, awake_ok, SB, Nat.reduceLT, callee, aOp, ne_eq, Nat.reduceEqDiff, aBin, aUn, if_true, if_false, reduceCtorEq, frame0, place, notTuple, Nat.reduceAdd, Nat.reduceLeDiff, resVal, dite_true, dite_false, Int.reduceEq, Int.reduceLT, Int.reduceLE]
    · have h30' : ((i : Int) = 30) = False := eq_false (by omega)
      simp only [n5, r5, g5, g6, g8, g9, g33, g34, g35, hlt, hld, hidx, h30', show H.length ≤ G1.length by have := hCG.len; omega, SB, Nat.reduceLT, callee, aOp, ne_eq, Nat.reduceEqDiff, aBin, aUn, if_true, if_false, reduceCtorEq, frame0, place, notTuple, Nat.reduceAdd, Nat.reduceLeDiff, resVal, dite_true, dite_false, Int.reduceEq, Int.reduceLT, Int.reduceLE]
      refine record_ok (by omega) (by simp; have := hCG.len; omega) fun G2 q cq l hC2 hF => ?_
      have hlen1 := hCG.len
      have hl60 := hF.len
      have hB2 : hget G2 G1.length = .cells false [.int .u8 ((gt steps i).a.toNat : Int), .int .u8 ((gt steps i).b.toNat : Int), .int .u8 ((gt steps i).c.toNat : Int), .int .u64 (gt steps i).m] := hC2.cells (by rw [hget_new0]; rfl) (by simp)
      have hC12 : Chg [] G1 G2 := hC2.pre
      have hli2 := Chg.lies hli hC12 (by simp)
      have hCG2 : Chg [] H G2 := hCG.trans' hC12 fun j h _ => by simp at h
      have hJl := hget_alive hli.jl.j
      have hDl := hget_alive hli.jl.d
      have hSl := hget_alive hli.s
      have hqn : ∀ a, q = some a → G1.length + 1 ≤ a.block := fun a ea => by have := (hF.own.block ea).1; simpa using this
      have hppl : ∀ a, pp = some a → a.block < G1.length := fun a ea => (hli.jl.own.block ea).2
      have hnd := needN_le l.length
      have hq1 : ∀ a, q = some a → l ≠ [] → a.block ≠ J ∧ a.block ≠ D ∧ a.block ∉ blk pp := fun a ea _ => by
        have := hqn a ea
        refine ⟨by omega, by omega, fun hh => ?_⟩
        cases pp with
        | none => simp [blk] at hh
        | some b => simp only [blk, List.mem_singleton] at hh; have := hppl b rfl; omega
      refine Ret_pad ?_
      simp only [n5, r5, g5, g6, g8, g9, g33, g34, g35, SB, Nat.reduceLT, callee, aOp, ne_eq, Nat.reduceEqDiff, aBin, aUn, if_true, if_false, reduceCtorEq, frame0, place, notTuple, Nat.reduceAdd, Nat.reduceLeDiff, resVal, dite_true, dite_false, Int.reduceEq, Int.reduceLT, Int.reduceLE]
      refine inner5 (q := q) (cq := cq) hl60 (by simp only [upd_same, upd_ne, ne_eq, Nat.reduceEqDiff, not_false_eq_true, frame0, List.getD_cons_zero, List.getD_cons_succ]) (by simp only [upd_same, upd_ne, ne_eq, Nat.reduceEqDiff, not_false_eq_true, frame0, List.getD_cons_zero, List.getD_cons_succ]) fun fr2 k13 k12 k5 k6 k8 k9 k10 k11 k33 k34 k35 => ?_
      have k12' : fr2 12 = .slice q l.length cq := k12.trans (by simp only [upd_same, upd_ne, ne_eq, Nat.reduceEqDiff, not_false_eq_true, frame0, List.getD_cons_zero, List.getD_cons_succ])
      have k5' : fr2 5 = .pointer (some ⟨J, 0, none⟩) := k5.trans (by simp only [g5, upd_same, upd_ne, ne_eq, Nat.reduceEqDiff, not_false_eq_true, frame0, List.getD_cons_zero, List.getD_cons_succ])
      have k6' : fr2 6 = .pointer (some ⟨D, 0, none⟩) := k6.trans (by simp only [g6, upd_same, upd_ne, ne_eq, Nat.reduceEqDiff, not_false_eq_true, frame0, List.getD_cons_zero, List.getD_cons_succ])
      have k8' : fr2 8 = .int .i64 ((n / 2 : Nat) : Int) := k8.trans (by simp only [g8, upd_same, upd_ne, ne_eq, Nat.reduceEqDiff, not_false_eq_true, frame0, List.getD_cons_zero, List.getD_cons_succ])
      have k9' : fr2 9 = .int .i64 ((n / 2 - nn : Nat) : Int) := k9.trans (by simp only [g9, upd_same, upd_ne, ne_eq, Nat.reduceEqDiff, not_false_eq_true, frame0, List.getD_cons_zero, List.getD_cons_succ])
      have k11' : fr2 11 = .pointer (some ⟨G1.length, 0, none⟩) := k11.trans (by simp only [upd_same, upd_ne, ne_eq, Nat.reduceEqDiff, not_false_eq_true, frame0, List.getD_cons_zero, List.getD_cons_succ])
      have k33' : fr2 33 = .slice p steps.length c := k33.trans (by simp only [g33, upd_same, upd_ne, ne_eq, Nat.reduceEqDiff, not_false_eq_true, frame0, List.getD_cons_zero, List.getD_cons_succ])
      have k34' : fr2 34 = .int .i64 (steps.length : Int) := k34.trans (by simp only [g34, upd_same, upd_ne, ne_eq, Nat.reduceEqDiff, not_false_eq_true, frame0, List.getD_cons_zero, List.getD_cons_succ])
      have k35' : fr2 35 = .int .i64 (i : Int) := k35.trans (by simp only [g35, upd_same, upd_ne, ne_eq, Nat.reduceEqDiff, not_false_eq_true, frame0, List.getD_cons_zero, List.getD_cons_succ])
      clear k12 k5 k6 k8 k9 k10 k11 k33 k34 k35
      have hBX := fun X => (Ext.refl.app (X := X)).cells hB2
      have hD2X := fun X => (Ext.refl.app (X := X)).cells hli2.jl.d
      have hrm := fun X (mp : Bool) (l2 : Nat) (Q : Value → Heap → Prop) => Room_ok (mp := mp) (lim := l2) (Q := Q) (Chg.lies hli2 (Chg.refl.app (X := X) : Chg [] G2 (G2 ++ X)) (by simp)) (by omega) (by omega)
      rw [hsl] at hrm
      by_cases h6 : (gt steps i).a.toNat % 6 = 0
      · have h6' : Int.tmod ((gt steps i).a.toNat : Int) 6 = 0 := by
          rw [show Int.tmod ((gt steps i).a.toNat : Int) 6 = (((gt steps i).a.toNat % 6 : Nat) : Int) from rfl, h6]; rfl
        simp only [n5, r5, k13, k12', k5', k6', k8', k9', k11', k33', k34', k35', hBX, h6', eq_true h6', SB, Nat.reduceLT, callee, aOp, ne_eq, Nat.reduceEqDiff, aBin, aUn, if_true, if_false, reduceCtorEq, frame0, place, notTuple, Nat.reduceAdd, Nat.reduceLeDiff, resVal, dite_true, dite_false, Int.reduceEq, Int.reduceLT, Int.reduceLE]
        rw [List.append_nil]
        refine Checkpoint_ok hli2 (hF.own.sl encb_len) hF.own.capOk hF.nil hq1 (by omega) (by omega) (by omega) (by omega) har (fun hr => ?_) fun G3 hr hC3 hli3 => ?_
        · rw [hsl] at hr
          have hr' : ¬ ((needN l.length : Int) ≤ ((n / 2 : Nat) : Int)) := by omega
          refine Ret_pad ?_
          simp only [n5, r5, k13, k12', k5', k6', k8', k9', k11', k33', k34', k35', hr', hrm, aEq, hw1, btt, btf, bft, bff, SB, Nat.reduceLT, callee, aOp, ne_eq, Nat.reduceEqDiff, aBin, aUn, if_true, if_false, reduceCtorEq, frame0, place, notTuple, Nat.reduceAdd, Nat.reduceLeDiff, resVal, dite_true, dite_false, Int.reduceEq, Int.reduceLT, Int.reduceLE]
          rw [List.append_nil]
          exact hN ⟨i + 1, area, e, nn, pp, cp, safe, pend⟩ _ _ ⟨by show i + 1 ≤ _; omega, by show i + 1 ≤ 30; omega, ⟨hli2, hsl, har, hnn2, by show e ≤ i + 1 + 1; omega, by show pend.length ≤ 4 * (i + 1); omega, hCG2, hnew⟩, (by simp only [k5', upd_same, upd_ne, ne_eq, Nat.reduceEqDiff, not_false_eq_true, frame0, List.getD_cons_zero, List.getD_cons_succ]), (by simp only [k6', upd_same, upd_ne, ne_eq, Nat.reduceEqDiff, not_false_eq_true, frame0, List.getD_cons_zero, List.getD_cons_succ]), (by simp only [k8', upd_same, upd_ne, ne_eq, Nat.reduceEqDiff, not_false_eq_true, frame0, List.getD_cons_zero, List.getD_cons_succ]), (by simp only [k9', upd_same, upd_ne, ne_eq, Nat.reduceEqDiff, not_false_eq_true, frame0, List.getD_cons_zero, List.getD_cons_succ]), (by simp only [k33', upd_same, upd_ne, ne_eq, Nat.reduceEqDiff, not_false_eq_true, frame0, List.getD_cons_zero, List.getD_cons_succ]), (by simp only [k34', upd_same, upd_ne, ne_eq, Nat.reduceEqDiff, not_false_eq_true, frame0, List.getD_cons_zero, List.getD_cons_succ]), (by simp only [upd_same, upd_ne, ne_eq, Nat.reduceEqDiff, not_false_eq_true, frame0, List.getD_cons_zero, List.getD_cons_succ])⟩ (by show _ - (i + 1) < _ - i; omega)
        · rw [hsl] at hr
          have hr' : ((needN l.length : Int) ≤ ((n / 2 : Nat) : Int)) := by omega
          have wv : IntKind.i64.wrap (((n / 2 : Nat) : Int) - (needN l.length : Int)) = ((n / 2 - needN l.length : Nat) : Int) := by rw [wrap_id (by omega) (by omega)]; omega
          have hls3 : (crashed [] (pend ++ wrsOf ((1 - area) * (safe.length / 2)) (e + 1) 1 0 (pcs l)) safe).length = n := by rw [crashed_len, hsl]
          generalize crashed [] (pend ++ wrsOf ((1 - area) * (safe.length / 2)) (e + 1) 1 0 (pcs l)) safe = safe3 at hli3 hls3
          have hrm3 := fun X (mp : Bool) (l2 : Nat) (Q : Value → Heap → Prop) => Room_ok (mp := mp) (lim := l2) (Q := Q) (Chg.lies hli3 (Chg.refl.app (X := X) : Chg [] G3 (G3 ++ X)) (by simp)) (by omega) (by omega)
          rw [hls3] at hrm3
          have hCG3 : Chg [] H G3 := hCG2.trans' hC3 fun j h1 h2 => by
            simp only [List.mem_cons] at h1
            rcases h1 with h1 | h1 | h1 | h1
            · omega
            · omega
            · omega
            · cases pp with
              | none => simp [blk] at h1
              | some b => simp only [blk, List.mem_singleton] at h1; have := hnew b rfl; omega
          refine Ret_pad ?_
          simp only [n5, r5, k13, k12', k5', k6', k8', k9', k11', k33', k34', k35', eq_true hr', hrm3, aEq, hw1, btt, btf, bft, bff, wv, SB, Nat.reduceLT, callee, aOp, ne_eq, Nat.reduceEqDiff, aBin, aUn, if_true, if_false, reduceCtorEq, frame0, place, notTuple, Nat.reduceAdd, Nat.reduceLeDiff, resVal, dite_true, dite_false, Int.reduceEq, Int.reduceLT, Int.reduceLE]
          rw [List.append_nil]
          exact hN ⟨i + 1, 1 - area, e + 1, needN l.length, none, 0, safe3, []⟩ _ _ ⟨by show i + 1 ≤ _; omega, by show i + 1 ≤ 30; omega, ⟨hli3, hls3, by show 1 - area ≤ 1; omega, hr, by show e + 1 ≤ i + 1 + 1; omega, by simp, hCG3, by intro a ea; cases ea⟩, (by simp only [k5', upd_same, upd_ne, ne_eq, Nat.reduceEqDiff, not_false_eq_true, frame0, List.getD_cons_zero, List.getD_cons_succ]), (by simp only [k6', upd_same, upd_ne, ne_eq, Nat.reduceEqDiff, not_false_eq_true, frame0, List.getD_cons_zero, List.getD_cons_succ]), (by simp only [k8', upd_same, upd_ne, ne_eq, Nat.reduceEqDiff, not_false_eq_true, frame0, List.getD_cons_zero, List.getD_cons_succ]), (by simp only [upd_same, upd_ne, ne_eq, Nat.reduceEqDiff, not_false_eq_true, frame0, List.getD_cons_zero, List.getD_cons_succ]), (by simp only [k33', upd_same, upd_ne, ne_eq, Nat.reduceEqDiff, not_false_eq_true, frame0, List.getD_cons_zero, List.getD_cons_succ]), (by simp only [k34', upd_same, upd_ne, ne_eq, Nat.reduceEqDiff, not_false_eq_true, frame0, List.getD_cons_zero, List.getD_cons_succ]), (by simp only [upd_same, upd_ne, ne_eq, Nat.reduceEqDiff, not_false_eq_true, frame0, List.getD_cons_zero, List.getD_cons_succ])⟩ (by show _ - (i + 1) < _ - i; omega)
      · have h6' : ¬ Int.tmod ((gt steps i).a.toNat : Int) 6 = 0 := by
          rw [show Int.tmod ((gt steps i).a.toNat : Int) 6 = (((gt steps i).a.toNat % 6 : Nat) : Int) from rfl]; omega
        simp only [n5, r5, k13, k12', k5', k6', k8', k9', k11', k33', k34', k35', hBX, h6', eq_false h6', hD2X, SB, Nat.reduceLT, callee, aOp, ne_eq, Nat.reduceEqDiff, aBin, aUn, if_true, if_false, reduceCtorEq, frame0, place, notTuple, Nat.reduceAdd, Nat.reduceLeDiff, resVal, dite_true, dite_false, Int.reduceEq, Int.reduceLT, Int.reduceLE]
        rw [List.append_nil]
        refine Append_ok hli2 (hF.own.sl encb_len) hF.own.capOk hF.nil hq1 (by omega) (by omega) (by omega) (by omega) har (fun hr => ?_) fun G3 pp3 cp3 hr hC3 hn3 hli3 => ?_
        · rw [hsl] at hr
          have hr' : ¬ ((needN l.length : Int) ≤ ((n / 2 - nn : Nat) : Int)) := by omega
          refine Ret_pad ?_
          simp only [n5, r5, k13, k12', k5', k6', k8', k9', k11', k33', k34', k35', hr', hrm, aEq, hw1, btt, btf, bft, bff, hD2X, SB, Nat.reduceLT, callee, aOp, ne_eq, Nat.reduceEqDiff, aBin, aUn, if_true, if_false, reduceCtorEq, frame0, place, notTuple, Nat.reduceAdd, Nat.reduceLeDiff, resVal, dite_true, dite_false, Int.reduceEq, Int.reduceLT, Int.reduceLE]
          rw [List.append_nil]
          exact hN ⟨i + 1, area, e, nn, pp, cp, safe, pend⟩ _ _ ⟨by show i + 1 ≤ _; omega, by show i + 1 ≤ 30; omega, ⟨hli2, hsl, har, hnn2, by show e ≤ i + 1 + 1; omega, by show pend.length ≤ 4 * (i + 1); omega, hCG2, hnew⟩, (by simp only [k5', upd_same, upd_ne, ne_eq, Nat.reduceEqDiff, not_false_eq_true, frame0, List.getD_cons_zero, List.getD_cons_succ]), (by simp only [k6', upd_same, upd_ne, ne_eq, Nat.reduceEqDiff, not_false_eq_true, frame0, List.getD_cons_zero, List.getD_cons_succ]), (by simp only [k8', upd_same, upd_ne, ne_eq, Nat.reduceEqDiff, not_false_eq_true, frame0, List.getD_cons_zero, List.getD_cons_succ]), (by simp only [k9', upd_same, upd_ne, ne_eq, Nat.reduceEqDiff, not_false_eq_true, frame0, List.getD_cons_zero, List.getD_cons_succ]), (by simp only [k33', upd_same, upd_ne, ne_eq, Nat.reduceEqDiff, not_false_eq_true, frame0, List.getD_cons_zero, List.getD_cons_succ]), (by simp only [k34', upd_same, upd_ne, ne_eq, Nat.reduceEqDiff, not_false_eq_true, frame0, List.getD_cons_zero, List.getD_cons_succ]), (by simp only [upd_same, upd_ne, ne_eq, Nat.reduceEqDiff, not_false_eq_true, frame0, List.getD_cons_zero, List.getD_cons_succ])⟩ (by show _ - (i + 1) < _ - i; omega)
        · rw [hsl] at hr
          have hr' : ((needN l.length : Int) ≤ ((n / 2 - nn : Nat) : Int)) := by omega
          have hnd4 : needN l.length ≤ 4 := by unfold needN; omega
          have wv : IntKind.i64.wrap (((n / 2 - nn : Nat) : Int) - (needN l.length : Int)) = ((n / 2 - (nn + needN l.length) : Nat) : Int) := by rw [wrap_id (by omega) (by omega)]; omega
          have wp : IntKind.i64.wrap ((pend.length : Int) + (needN l.length : Int)) = ((pend.length + needN l.length : Nat) : Int) := by rw [wrap_id (by omega) (by omega)]; omega
          have hlp : (pend ++ wrsOf (area * (safe.length / 2)) e 1 nn (pcs l)).length = pend.length + needN l.length := by rw [List.length_append, wrsOf_len, pcs_need]
          generalize pend ++ wrsOf (area * (safe.length / 2)) e 1 nn (pcs l) = pend3 at hli3 hlp
          have hrm3 := fun X (mp : Bool) (l2 : Nat) (Q : Value → Heap → Prop) => Room_ok (mp := mp) (lim := l2) (Q := Q) (Chg.lies hli3 (Chg.refl.app (X := X) : Chg [] G3 (G3 ++ X)) (by simp)) (by omega) (by omega)
          rw [hsl] at hrm3
          have hD3X := fun X => (Ext.refl.app (X := X)).cells hli3.jl.d
          rw [hlp] at hD3X
          have hin : ∀ a, a ∈ blk pp → H.length ≤ a := fun a h1 => by
            cases pp with
            | none => simp [blk] at h1
            | some b => simp only [blk, List.mem_singleton] at h1; have := hnew b rfl; omega
          have hCG3 : Chg [] H G3 := hCG2.trans' hC3 fun j h1 h2 => by
            simp only [List.mem_cons] at h1
            rcases h1 with h1 | h1 | h1
            · omega
            · omega
            · have := hin _ h1; omega
          have hl2 := hCG2.len
          refine Ret_pad ?_
          simp only [n5, r5, k13, k12', k5', k6', k8', k9', k11', k33', k34', k35', eq_true hr', hrm3, aEq, hw1, btt, btf, bft, bff, wv, wp, hD3X, SB, Nat.reduceLT, callee, aOp, ne_eq, Nat.reduceEqDiff, aBin, aUn, if_true, if_false, reduceCtorEq, frame0, place, notTuple, Nat.reduceAdd, Nat.reduceLeDiff, resVal, dite_true, dite_false, Int.reduceEq, Int.reduceLT, Int.reduceLE]
          rw [List.append_nil]
          exact hN ⟨i + 1, area, e, nn + needN l.length, pp3, cp3, safe, pend3⟩ _ _ ⟨by show i + 1 ≤ _; omega, by show i + 1 ≤ 30; omega, ⟨hli3, hsl, har, by show nn + needN l.length ≤ n / 2; omega, by show e ≤ i + 1 + 1; omega, by show pend3.length ≤ 4 * (i + 1); omega, hCG3, fun a ea => by
            by_cases hb : a.block ∈ blk pp
            · exact hin _ hb
            · have := hn3 a ea hb; omega⟩, (by simp only [k5', upd_same, upd_ne, ne_eq, Nat.reduceEqDiff, not_false_eq_true, frame0, List.getD_cons_zero, List.getD_cons_succ]), (by simp only [k6', upd_same, upd_ne, ne_eq, Nat.reduceEqDiff, not_false_eq_true, frame0, List.getD_cons_zero, List.getD_cons_succ]), (by simp only [k8', upd_same, upd_ne, ne_eq, Nat.reduceEqDiff, not_false_eq_true, frame0, List.getD_cons_zero, List.getD_cons_succ]), (by simp only [upd_same, upd_ne, ne_eq, Nat.reduceEqDiff, not_false_eq_true, frame0, List.getD_cons_zero, List.getD_cons_succ]), (by simp only [k33', upd_same, upd_ne, ne_eq, Nat.reduceEqDiff, not_false_eq_true, frame0, List.getD_cons_zero, List.getD_cons_succ]), (by simp only [k34', upd_same, upd_ne, ne_eq, Nat.reduceEqDiff, not_false_eq_true, frame0, List.getD_cons_zero, List.getD_cons_succ]), (by simp only [upd_same, upd_ne, ne_eq, Nat.reduceEqDiff, not_false_eq_true, frame0, List.getD_cons_zero, List.getD_cons_succ])⟩ (by show _ - (i + 1) < _ - i; omega)
  · obtain rfl : i = steps.length := by omega
    simp only [n5, r5, g33, g34, g35, hlt, awake_ok, SB, Nat.reduceLT, callee, aOp, ne_eq, Nat.reduceEqDiff, aBin, aUn, if_true, if_false, reduceCtorEq, frame0, place, notTuple, Nat.reduceAdd, Nat.reduceLeDiff, resVal, dite_true, dite_false, Int.reduceEq, Int.reduceLT, Int.reduceLE]
end Go.Proofs.Ytdddehniepofmaa.Fn
namespace Go.Proofs.Ytdddehniepofmaa.Fn
open Go.AM Go.AM.Sym
set_option maxRecDepth 100000
set_option linter.unusedVariables false
set_option linter.unusedSimpArgs false
set_option maxHeartbeats 4000000

theorem wrsOf_get {base e lf : Nat} : ∀ (r : List (Nat × List UInt8)) (n k : Nat), k < r.length → (gt (wrsOf base e lf n r) k).pos = ((base + n + k : Nat) : Int)
  | [], n, k, h => by simp at h
  | x :: r, n, 0, h => by rw [wrsOf, gt_lt (by simp)]; rfl
  | x :: r, n, k + 1, h => by
    have h' : k < r.length := by simpa using h
    have := wrsOf_get (base := base) (e := e) (lf := lf) r (n + 1) k h'
    rw [gt_lt (by rw [wrsOf_len]; exact h')] at this
    rw [wrsOf, gt_lt (by simp [wrsOf_len]; omega), List.getElem_cons_succ, this]
    congr 1; omega
/-- The writes of a record leave all other sectors. -/
theorem crashGo_wrsOf_other {lost : List Bool} {base e lf : Nat} : ∀ (r : List (Nat × List UInt8)) (n i : Nat) (s : List Sec) (j : Nat), (j < base + n ∨ base + n + r.length ≤ j) → (crashGo lost i (wrsOf base e lf n r) s)[j]? = s[j]?
  | [], n, i, s, j, h => rfl
  | x :: r, n, i, s, j, h => by
    have hl : (x :: r).length = r.length + 1 := rfl
    rw [wrsOf, crashGo, crashGo_wrsOf_other r (n + 1) (i + 1) _ j (by omega)]
    split
    · rw [List.getElem?_set_ne]
      simp only [Int.toNat_natCast]
      omega
    · rfl
theorem gt_right {α : Type} [Inhabited α] {a b : List α} {k : Nat} (h : k < b.length) : gt (a ++ b) (a.length + k) = gt b k := by
  rw [gt_lt (by simp; omega), gt_lt h, List.getElem_append_right (by omega)]
  congr 1
  omega
/-- The positions of the new writes are looked at. -/
theorem inner6w {lim D n m area nn e lf cp : Nat} {sc : Nat} {sp pp : Option Addr} {pend : List Wr} {r : List (Nat × List UInt8)} {fr : Nat → Value} {G : Heap} {K : List AItem} {R : Value → Heap → Prop} (hD : hget G D = .cells false [.slice sp n sc, .slice pp (pend ++ wrsOf (area * m) e lf nn r).length cp]) (hP : Sl G encW 33 pp (pend ++ wrsOf (area * m) e lf nn r)) (hm : m < 2 ^ 20) (ha : area ≤ 1) (hn : nn < 2 ^ 20) (hp : pend.length + r.length < 2 ^ 30)
    (f6 : fr 6 = .pointer (some ⟨D, 0, none⟩)) (f8 : fr 8 = .int .i64 (m : Int)) (f9 : fr 9 = .int .i64 (area : Int)) (f12 : fr 12 = .int .i64 (nn : Int)) (f15 : fr 15 = .int .i64 (pend.length : Int)) (f16 : fr 16 = .int .i64 (pend.length : Int))
    (hR : ∀ fr', fr' 5 = fr 5 → fr' 6 = fr 6 → fr' 8 = fr 8 → fr' 9 = fr 9 → fr' 31 = fr 31 → fr' 32 = fr 32 → fr' 33 = fr 33 → Ret E a6 lim K fr' (G ++ []) R) :
    Ret E a6 lim (.code (.loop l6_1) :: .inBlock 4 :: K) fr G R := by
  refine Ret_rounds (fun j => r.length - j) (fun j fr' G' => j ≤ r.length ∧ G' = G ∧ fr' 16 = .int .i64 ((pend.length + j : Nat) : Int) ∧ fr' 6 = fr 6 ∧ fr' 8 = fr 8 ∧ fr' 9 = fr 9 ∧ fr' 12 = fr 12 ∧ fr' 15 = fr 15 ∧ fr' 5 = fr 5 ∧ fr' 31 = fr 31 ∧ fr' 32 = fr 32 ∧ fr' 33 = fr 33) 0
    ⟨Nat.zero_le _, rfl, f16, rfl, rfl, rfl, rfl, rfl, rfl, rfl, rfl, rfl⟩ ?_
  rintro j fr' G' ⟨hj, rfl, g16, g6, g8, g9, g12, g15, g5, g31, g32, g33⟩ hN
  rw [f6] at g6
  rw [f8] at g8
  rw [f9] at g9
  rw [f12] at g12
  rw [f15] at g15
  have hll : (pend ++ wrsOf (area * m) e lf nn r).length = pend.length + r.length := by rw [List.length_append, wrsOf_len]
  rw [hll] at hD
  have hDX := fun X => (Ext.refl.app (X := X)).cells hD
  rw [Ret_code l6_1.eq_1]
  refine Ret_pad ?_
  have ham : area * m ≤ m := by
    rcases (show area = 0 ∨ area = 1 by omega) with rfl | rfl <;> omega
  by_cases hlt : j < r.length
  · have hlt' : ((pend.length + j : Nat) : Int) < ((pend.length + r.length : Nat) : Int) := by omega
    have hi : pend.length + j < (pend ++ wrsOf (area * m) e lf nn r).length := by omega
    have hidx := fun c (k : IntKind) (H1 : Heap) => hP.idx (c := c) (k := k) (H1 := H1) hi
    rw [hll] at hidx
    have hld := fun X => (hP.app X).loadCell0 encW_len hi (by decide)
    have hpos : (gt (pend ++ wrsOf (area * m) e lf nn r) (pend.length + j)).pos = ((area * m + nn + j : Nat) : Int) := by
      rw [gt_right (by rw [wrsOf_len]; exact hlt), wrsOf_get r nn j hlt]
    have w1 : IntKind.i64.wrap ((area : Int) * (m : Int)) = ((area * m : Nat) : Int) := by rw [show (area : Int) * (m : Int) = ((area * m : Nat) : Int) by push_cast; rfl]; exact wrap_id (by omega) (by omega)
    have w2 : IntKind.i64.wrap (((area * m : Nat) : Int) + (nn : Int)) = ((area * m + nn : Nat) : Int) := by rw [wrap_id (by omega) (by omega)]; omega
    have w3 : IntKind.i64.wrap (((area * m + nn : Nat) : Int) + ((pend.length + j : Nat) : Int)) = ((area * m + nn + pend.length + j : Nat) : Int) := by rw [wrap_id (by omega) (by omega)]; omega
    have w4 : IntKind.i64.wrap (((area * m + (nn + (pend.length + j)) : Nat) : Int) - (pend.length : Int)) = ((area * m + (nn + j) : Nat) : Int) := by rw [wrap_id (by omega) (by omega)]; omega
    have w5 : IntKind.i64.wrap (((pend.length + j : Nat) : Int) + 1) = ((pend.length + (j + 1) : Nat) : Int) := by rw [wrap_id (by omega) (by omega)]; omega
    have ha0 : (elt pp 33 (pend.length + j)).add 0 = elt pp 33 (pend.length + j) := rfl
    simp only [n6, r6, g16, g6, g8, g9, g12, g15, hDX, hlt', hidx, hld, ha0, encW_0, hpos, w1, w2, w3, w4, w5, SB, Nat.reduceLT, callee, aOp, ne_eq, Nat.reduceEqDiff, aBin, aUn, if_true, if_false, reduceCtorEq, frame0, place, notTuple, Nat.reduceAdd, Nat.reduceLeDiff, resVal, dite_true, dite_false, Int.reduceEq, Int.reduceLT, Int.reduceLE]
    rw [List.append_nil]
    exact hN (j + 1) _ _ ⟨by omega, rfl, (by simp only [upd_same, upd_ne, ne_eq, Nat.reduceEqDiff, not_false_eq_true, frame0, List.getD_cons_zero, List.getD_cons_succ]), by rw [f6]; exact (by simp only [g6, upd_same, upd_ne, ne_eq, Nat.reduceEqDiff, not_false_eq_true, frame0, List.getD_cons_zero, List.getD_cons_succ]), by rw [f8]; exact (by simp only [g8, upd_same, upd_ne, ne_eq, Nat.reduceEqDiff, not_false_eq_true, frame0, List.getD_cons_zero, List.getD_cons_succ]), by rw [f9]; exact (by simp only [g9, upd_same, upd_ne, ne_eq, Nat.reduceEqDiff, not_false_eq_true, frame0, List.getD_cons_zero, List.getD_cons_succ]), by rw [f12]; exact (by simp only [g12, upd_same, upd_ne, ne_eq, Nat.reduceEqDiff, not_false_eq_true, frame0, List.getD_cons_zero, List.getD_cons_succ]), by rw [f15]; exact (by simp only [g15, upd_same, upd_ne, ne_eq, Nat.reduceEqDiff, not_false_eq_true, frame0, List.getD_cons_zero, List.getD_cons_succ]), by rw [← g5]; exact (by simp only [upd_same, upd_ne, ne_eq, Nat.reduceEqDiff, not_false_eq_true, frame0, List.getD_cons_zero, List.getD_cons_succ]), by rw [← g31]; exact (by simp only [upd_same, upd_ne, ne_eq, Nat.reduceEqDiff, not_false_eq_true, frame0, List.getD_cons_zero, List.getD_cons_succ]), by rw [← g32]; exact (by simp only [upd_same, upd_ne, ne_eq, Nat.reduceEqDiff, not_false_eq_true, frame0, List.getD_cons_zero, List.getD_cons_succ]), by rw [← g33]; exact (by simp only [upd_same, upd_ne, ne_eq, Nat.reduceEqDiff, not_false_eq_true, frame0, List.getD_cons_zero, List.getD_cons_succ])⟩ (by omega)
  · obtain rfl : j = r.length := by omega
    simp only [n6, r6, g16, g6, g8, g9, g12, g15, hDX, SB, Nat.reduceLT, callee, aOp, ne_eq, Nat.reduceEqDiff, aBin, aUn, if_true, if_false, reduceCtorEq, frame0, place, notTuple, Nat.reduceAdd, Nat.reduceLeDiff, resVal, dite_true, dite_false, Int.reduceEq, Int.reduceLT, Int.reduceLE]
    exact hR _ (by rw [← g5]; exact (by simp only [upd_same, upd_ne, ne_eq, Nat.reduceEqDiff, not_false_eq_true, frame0, List.getD_cons_zero, List.getD_cons_succ])) (by rw [f6]; exact (by simp only [g6, upd_same, upd_ne, ne_eq, Nat.reduceEqDiff, not_false_eq_true, frame0, List.getD_cons_zero, List.getD_cons_succ])) (by rw [f8]; exact (by simp only [g8, upd_same, upd_ne, ne_eq, Nat.reduceEqDiff, not_false_eq_true, frame0, List.getD_cons_zero, List.getD_cons_succ])) (by rw [f9]; exact (by simp only [g9, upd_same, upd_ne, ne_eq, Nat.reduceEqDiff, not_false_eq_true, frame0, List.getD_cons_zero, List.getD_cons_succ])) (by rw [← g31]; exact (by simp only [upd_same, upd_ne, ne_eq, Nat.reduceEqDiff, not_false_eq_true, frame0, List.getD_cons_zero, List.getD_cons_succ])) (by rw [← g32]; exact (by simp only [upd_same, upd_ne, ne_eq, Nat.reduceEqDiff, not_false_eq_true, frame0, List.getD_cons_zero, List.getD_cons_succ])) (by rw [← g33]; exact (by simp only [upd_same, upd_ne, ne_eq, Nat.reduceEqDiff, not_false_eq_true, frame0, List.getD_cons_zero, List.getD_cons_succ]))
end Go.Proofs.Ytdddehniepofmaa.Fn
namespace Go.Proofs.Ytdddehniepofmaa.Fn
open Go.AM Go.AM.Sym
set_option maxRecDepth 100000
set_option linter.unusedVariables false
set_option linter.unusedSimpArgs false
set_option maxHeartbeats 4000000

theorem inner6c {lim D n m area cq sc cp : Nat} {pd : Nat} {q sp pp : Option Addr} {old new : List Sec} {fr : Nat → Value} {G : Heap} {K : List AItem} {R : Value → Heap → Prop} (hD : hget G D = .cells false [.slice sp n sc, .slice pp pd cp]) (ho : Sl G encX 32 q old) (hnw : Sl G encX 32 sp new) (lo : old.length = n) (ln : new.length = n) (hn : n < 2 ^ 30) (hm : 0 < m) (hm2 : m < 2 ^ 30) (har : area ≤ 1)
    (hsame : ∀ j, j < n → j / m ≠ 1 - area → gt new j = gt old j)
    (f6 : fr 6 = .pointer (some ⟨D, 0, none⟩)) (f8 : fr 8 = .int .i64 (m : Int)) (f9 : fr 9 = .int .i64 (area : Int)) (f13 : fr 13 = .slice q n cq) (f63 : fr 63 = .int .i64 (n : Int)) (f64 : fr 64 = .int .i64 0)
    (hR : ∀ fr', fr' 5 = fr 5 → fr' 6 = fr 6 → fr' 8 = fr 8 → fr' 9 = fr 9 → fr' 31 = fr 31 → fr' 32 = fr 32 → fr' 33 = fr 33 → Ret E a6 lim K fr' (G ++ []) R) :
    Ret E a6 lim (.code (.loop l6_2) :: .inBlock 2 :: K) fr G R := by
  refine Ret_rounds (fun j => n - j) (fun j fr' G' => j ≤ n ∧ G' = G ∧ fr' 64 = .int .i64 (j : Int) ∧ fr' 6 = fr 6 ∧ fr' 8 = fr 8 ∧ fr' 9 = fr 9 ∧ fr' 13 = fr 13 ∧ fr' 63 = fr 63 ∧ fr' 5 = fr 5 ∧ fr' 31 = fr 31 ∧ fr' 32 = fr 32 ∧ fr' 33 = fr 33) 0
    ⟨Nat.zero_le _, rfl, f64, rfl, rfl, rfl, rfl, rfl, rfl, rfl, rfl, rfl⟩ ?_
  rintro j fr' G' ⟨hj, rfl, g64, g6, g8, g9, g13, g63, g5, g31, g32, g33⟩ hN
  rw [f6] at g6
  rw [f8] at g8
  rw [f9] at g9
  rw [f13] at g13
  rw [f63] at g63
  have hDX := fun X => (Ext.refl.app (X := X)).cells hD
  rw [Ret_code l6_2.eq_1]
  refine Ret_pad ?_
  by_cases hlt : j < n
  · have hio := fun c (k : IntKind) (H1 : Heap) => ho.idx (c := c) (k := k) (H1 := H1) (i := j) (by omega)
    have hin := fun c (k : IntKind) (H1 : Heap) => hnw.idx (c := c) (k := k) (H1 := H1) (i := j) (by omega)
    rw [lo] at hio
    rw [ln] at hin
    have hlo := fun X => (ho.app X).loadCells encX_len (i := j) (by omega)
    have hln := fun X => (hnw.app X).loadCells encX_len (i := j) (by omega)
    have w1 : Int.tdiv (j : Int) (m : Int) = ((j / m : Nat) : Int) := rfl
    have w2 : IntKind.i64.wrap (1 - (area : Int)) = ((1 - area : Nat) : Int) := by rw [wrap_id (by omega) (by omega)]; omega
    have hjm : j / m ≤ j := Nat.div_le_self _ _
    have w3 : IntKind.i64.wrap ((j / m : Nat) : Int) = ((j / m : Nat) : Int) := (fun k (h : k < 2 ^ 30) => wrap_id (by omega) (by omega) : ∀ k : Nat, k < 2 ^ 30 → IntKind.i64.wrap (k : Int) = (k : Int)) _ (Nat.lt_of_le_of_lt hjm (by omega))
    have hm0 : ((m : Int) = 0) = False := eq_false (by omega)
    have w5 : IntKind.i64.wrap ((j : Int) + 1) = ((j + 1 : Nat) : Int) := wrap_nat (by omega)
    by_cases hq : j / m = 1 - area
    · have hq' : (((j / m : Nat) : Int) = ((1 - area : Nat) : Int)) = True := eq_true (by omega)
      simp only [n6, r6, g64, g6, g8, g9, g13, g63, hDX, hlt, hio, hin, hlo, hln, w1, w2, w3, hm0, w5, hq', encX_len, SB, Nat.reduceLT, callee, aOp, ne_eq, Nat.reduceEqDiff, aBin, aUn, if_true, if_false, reduceCtorEq, frame0, place, notTuple, Nat.reduceAdd, Nat.reduceLeDiff, resVal, dite_true, dite_false, Int.reduceEq, Int.reduceLT, Int.reduceLE]
      rw [List.append_nil]
      exact hN (j + 1) _ _ ⟨by omega, rfl, (by simp only [upd_same, upd_ne, ne_eq, Nat.reduceEqDiff, not_false_eq_true, frame0, List.getD_cons_zero, List.getD_cons_succ]), by rw [f6]; exact (by simp only [g6, upd_same, upd_ne, ne_eq, Nat.reduceEqDiff, not_false_eq_true, frame0, List.getD_cons_zero, List.getD_cons_succ]), by rw [f8]; exact (by simp only [g8, upd_same, upd_ne, ne_eq, Nat.reduceEqDiff, not_false_eq_true, frame0, List.getD_cons_zero, List.getD_cons_succ]), by rw [f9]; exact (by simp only [g9, upd_same, upd_ne, ne_eq, Nat.reduceEqDiff, not_false_eq_true, frame0, List.getD_cons_zero, List.getD_cons_succ]), by rw [f13]; exact (by simp only [g13, upd_same, upd_ne, ne_eq, Nat.reduceEqDiff, not_false_eq_true, frame0, List.getD_cons_zero, List.getD_cons_succ]), by rw [f63]; exact (by simp only [g63, upd_same, upd_ne, ne_eq, Nat.reduceEqDiff, not_false_eq_true, frame0, List.getD_cons_zero, List.getD_cons_succ]), by rw [← g5]; exact (by simp only [upd_same, upd_ne, ne_eq, Nat.reduceEqDiff, not_false_eq_true, frame0, List.getD_cons_zero, List.getD_cons_succ]), by rw [← g31]; exact (by simp only [upd_same, upd_ne, ne_eq, Nat.reduceEqDiff, not_false_eq_true, frame0, List.getD_cons_zero, List.getD_cons_succ]), by rw [← g32]; exact (by simp only [upd_same, upd_ne, ne_eq, Nat.reduceEqDiff, not_false_eq_true, frame0, List.getD_cons_zero, List.getD_cons_succ]), by rw [← g33]; exact (by simp only [upd_same, upd_ne, ne_eq, Nat.reduceEqDiff, not_false_eq_true, frame0, List.getD_cons_zero, List.getD_cons_succ])⟩ (by omega)
    · have hq' : (((j / m : Nat) : Int) = ((1 - area : Nat) : Int)) = False := eq_false (by omega)
      have hs := hsame j hlt hq
      simp only [n6, r6, g64, g6, g8, g9, g13, g63, hDX, hlt, hio, hin, hlo, hln, w1, w2, w3, hm0, w5, hq', encX_len, hs, eqX, SB, Nat.reduceLT, callee, aOp, ne_eq, Nat.reduceEqDiff, aBin, aUn, if_true, if_false, reduceCtorEq, frame0, place, notTuple, Nat.reduceAdd, Nat.reduceLeDiff, resVal, dite_true, dite_false, Int.reduceEq, Int.reduceLT, Int.reduceLE]
      rw [List.append_nil]
      exact hN (j + 1) _ _ ⟨by omega, rfl, (by simp only [upd_same, upd_ne, ne_eq, Nat.reduceEqDiff, not_false_eq_true, frame0, List.getD_cons_zero, List.getD_cons_succ]), by rw [f6]; exact (by simp only [g6, upd_same, upd_ne, ne_eq, Nat.reduceEqDiff, not_false_eq_true, frame0, List.getD_cons_zero, List.getD_cons_succ]), by rw [f8]; exact (by simp only [g8, upd_same, upd_ne, ne_eq, Nat.reduceEqDiff, not_false_eq_true, frame0, List.getD_cons_zero, List.getD_cons_succ]), by rw [f9]; exact (by simp only [g9, upd_same, upd_ne, ne_eq, Nat.reduceEqDiff, not_false_eq_true, frame0, List.getD_cons_zero, List.getD_cons_succ]), by rw [f13]; exact (by simp only [g13, upd_same, upd_ne, ne_eq, Nat.reduceEqDiff, not_false_eq_true, frame0, List.getD_cons_zero, List.getD_cons_succ]), by rw [f63]; exact (by simp only [g63, upd_same, upd_ne, ne_eq, Nat.reduceEqDiff, not_false_eq_true, frame0, List.getD_cons_zero, List.getD_cons_succ]), by rw [← g5]; exact (by simp only [upd_same, upd_ne, ne_eq, Nat.reduceEqDiff, not_false_eq_true, frame0, List.getD_cons_zero, List.getD_cons_succ]), by rw [← g31]; exact (by simp only [upd_same, upd_ne, ne_eq, Nat.reduceEqDiff, not_false_eq_true, frame0, List.getD_cons_zero, List.getD_cons_succ]), by rw [← g32]; exact (by simp only [upd_same, upd_ne, ne_eq, Nat.reduceEqDiff, not_false_eq_true, frame0, List.getD_cons_zero, List.getD_cons_succ]), by rw [← g33]; exact (by simp only [upd_same, upd_ne, ne_eq, Nat.reduceEqDiff, not_false_eq_true, frame0, List.getD_cons_zero, List.getD_cons_succ])⟩ (by omega)
  · obtain rfl : j = n := by omega
    simp only [n6, r6, g64, g6, g8, g9, g13, g63, hDX, SB, Nat.reduceLT, callee, aOp, ne_eq, Nat.reduceEqDiff, aBin, aUn, if_true, if_false, reduceCtorEq, frame0, place, notTuple, Nat.reduceAdd, Nat.reduceLeDiff, resVal, dite_true, dite_false, Int.reduceEq, Int.reduceLT, Int.reduceLE]
    exact hR _ (by rw [← g5]; exact (by simp only [upd_same, upd_ne, ne_eq, Nat.reduceEqDiff, not_false_eq_true, frame0, List.getD_cons_zero, List.getD_cons_succ])) (by rw [f6]; exact (by simp only [g6, upd_same, upd_ne, ne_eq, Nat.reduceEqDiff, not_false_eq_true, frame0, List.getD_cons_zero, List.getD_cons_succ])) (by rw [f8]; exact (by simp only [g8, upd_same, upd_ne, ne_eq, Nat.reduceEqDiff, not_false_eq_true, frame0, List.getD_cons_zero, List.getD_cons_succ])) (by rw [f9]; exact (by simp only [g9, upd_same, upd_ne, ne_eq, Nat.reduceEqDiff, not_false_eq_true, frame0, List.getD_cons_zero, List.getD_cons_succ])) (by rw [← g31]; exact (by simp only [upd_same, upd_ne, ne_eq, Nat.reduceEqDiff, not_false_eq_true, frame0, List.getD_cons_zero, List.getD_cons_succ])) (by rw [← g32]; exact (by simp only [upd_same, upd_ne, ne_eq, Nat.reduceEqDiff, not_false_eq_true, frame0, List.getD_cons_zero, List.getD_cons_succ])) (by rw [← g33]; exact (by simp only [upd_same, upd_ne, ne_eq, Nat.reduceEqDiff, not_false_eq_true, frame0, List.getD_cons_zero, List.getD_cons_succ]))
end Go.Proofs.Ytdddehniepofmaa.Fn
namespace Go.Proofs.Ytdddehniepofmaa.Fn
open Go.AM Go.AM.Sym
set_option maxRecDepth 100000
set_option linter.unusedVariables false
set_option linter.unusedSimpArgs false
set_option maxHeartbeats 4000000

/-- A sync, with the journal in sight. -/
theorem SyncL_ok {lim J D S area e lf n sc cp : Nat} {pp : Option Addr} {safe : List Sec} {pend : List Wr} {H : Heap} {Q : Value → Heap → Prop} (h : Lies lim H J D S area e lf n sc pp cp safe pend) (hn : safe.length < 2 ^ 30) (hn2 : pend.length < 2 ^ 30)
    (hQ : ∀ H', Chg [S, D] H H' → Lies lim H' J D S area e lf n sc none 0 (crashed [] pend safe) [] → Q (.tuple #[]) H') :
    CallR E false lim 14 [.pointer (some ⟨D, 0, none⟩)] H Q := by
  refine Sync_ok h.jl.d h.jl.lD (fun _ => ⟨rfl, h.s, h.lS⟩) h.SD (h.jl.own.sl encW_len) (fun a e _ => ⟨h.ps a e, (h.jl.ap a e).2⟩) (by omega) (by omega) fun H' hC hD' hS' => ?_
  have hl : (crashed [] pend safe).length = safe.length := crashed_len
  refine hQ H' hC ⟨⟨hC.cells h.jl.j (by simp [h.SJ.symm, h.jl.JD]), by rw [hl]; exact hD', Own.nil, h.jl.lJ, h.jl.lD, h.jl.JD, by intro a e; cases e⟩, hS' h.ne, h.lS, h.SD, h.SJ, (by intro a e; cases e), fun e => h.ne (by rw [← List.length_eq_zero_iff, ← hl, e]; rfl)⟩
/-- A checkpoint's writes leave the other half. -/
theorem check_same {n m area e : Nat} {l : List UInt8} {safe : List Sec} (hm : 0 < m) (hn : needN l.length ≤ m) (har : area ≤ 1) (hl : safe.length = n) (j : Nat) (hj : j < n) (hq : j / m ≠ 1 - area) :
    gt (crashed [] ([] ++ wrsOf ((1 - area) * m) e 1 0 (pcs l)) safe) j = gt safe j := by
  have hk : j < (1 - area) * m + 0 ∨ (1 - area) * m + 0 + (pcs l).length ≤ j := by
    rw [pcs_need]
    rcases Nat.lt_or_ge j ((1 - area) * m) with h1 | h1
    · exact .inl (by omega)
    · refine .inr ?_
      rcases Nat.lt_or_ge j ((1 - area) * m + m) with h2 | h2
      · refine absurd ?_ hq
        rcases (show area = 0 ∨ area = 1 by omega) with rfl | rfl
        · simp only [Nat.sub_zero, Nat.one_mul] at h1 h2 ⊢
          exact Nat.div_eq_of_lt_le (by omega) (by omega)
        · simp only [Nat.sub_self, Nat.zero_mul, Nat.zero_add] at h2 ⊢
          exact Nat.div_eq_of_lt h2
      · omega
  have h := crashGo_wrsOf_other (lost := []) (base := (1 - area) * m) (e := e) (lf := 1) (pcs l) 0 0 safe j hk
  unfold gt
  rw [List.getD_eq_getElem?_getD, List.getD_eq_getElem?_getD, List.nil_append]
  unfold crashed
  rw [h]
theorem JournalFixed_ok {mp : Bool} {lim c : Nat} {y : UInt8} {p : Option Addr} {steps : List Stp} {H : Heap} {Q : Value → Heap → Prop} (hs : Sl H encS 4 p steps) (hn : steps.length < 2 ^ 63) :
    CallR E mp lim 6 [.int .u8 (y.toNat : Int), .slice p steps.length c] H Q = Q (.bool true) H := by
  refine pc (by decide) e6 rfl rfl ?_
  rw [b6, c6]
  simp only [n6, r6, SB, Nat.reduceLT, callee, aOp, ne_eq, Nat.reduceEqDiff, aBin, aUn, if_true, if_false, reduceCtorEq, frame0, place, notTuple, Nat.reduceAdd, Nat.reduceLeDiff, resVal, dite_true, dite_false, Int.reduceEq, Int.reduceLT, Int.reduceLE]
  rw [List.append_nil]
  refine begun_ok (Nat.le_refl _) fun G J D S hC hJ hD hS hL => ?_
  have hyl : 4 + y.toNat % 64 < 68 := by omega
  generalize hnn : 4 + y.toNat % 64 = n at hL hyl
  have hn4 : 4 ≤ n := by omega
  refine Ret_pad ?_
  have hDX := fun X => (Ext.refl.app (X := X)).cells hL.jl.d
  rw [safe0_len] at hDX
  have w1 : IntKind.i64.wrap (Int.tdiv (n : Int) 2) = ((n / 2 : Nat) : Int) := by
    rw [show Int.tdiv (n : Int) 2 = ((n / 2 : Nat) : Int) from rfl]
    exact wrap_id (by omega) (by omega)
  simp only [n6, r6, hDX, w1, Bool.not_true, SB, Nat.reduceLT, callee, aOp, ne_eq, Nat.reduceEqDiff, aBin, aUn, if_true, if_false, reduceCtorEq, frame0, place, notTuple, Nat.reduceAdd, Nat.reduceLeDiff, resVal, dite_true, dite_false, Int.reduceEq, Int.reduceLT, Int.reduceLE]
  refine Ret_rounds (fun s : RSt => steps.length - s.i) (fun s fr G => s.i ≤ steps.length ∧ s.i ≤ 20 ∧ RInv H.length n J D S H s G ∧ fr 5 = .pointer (some ⟨J, 0, none⟩) ∧ fr 6 = .pointer (some ⟨D, 0, none⟩) ∧ fr 8 = .int .i64 ((n / 2 : Nat) : Int) ∧ fr 9 = .int .i64 (s.area : Int) ∧ fr 31 = .slice p steps.length c ∧ fr 32 = .int .i64 (steps.length : Int) ∧ fr 33 = .int .i64 (s.i : Int)) ⟨0, 0, 1, 1, none, 0, safe0 n, []⟩
    ⟨Nat.zero_le _, Nat.zero_le _, ⟨by rw [List.append_nil]; exact hL, safe0_len n, by simp, by show 1 ≤ n / 2; omega, Nat.le_refl _, by simp, by rw [List.append_nil]; exact hC, by intro a e; cases e⟩, (by simp only [upd_same, upd_ne, ne_eq, Nat.reduceEqDiff, not_false_eq_true, frame0, List.getD_cons_zero, List.getD_cons_succ]), (by simp only [upd_same, upd_ne, ne_eq, Nat.reduceEqDiff, not_false_eq_true, frame0, List.getD_cons_zero, List.getD_cons_succ]), (by simp only [upd_same, upd_ne, ne_eq, Nat.reduceEqDiff, not_false_eq_true, frame0, List.getD_cons_zero, List.getD_cons_succ]), by rfl, (by simp only [upd_same, upd_ne, ne_eq, Nat.reduceEqDiff, not_false_eq_true, frame0, List.getD_cons_zero, List.getD_cons_succ]), (by simp only [upd_same, upd_ne, ne_eq, Nat.reduceEqDiff, not_false_eq_true, frame0, List.getD_cons_zero, List.getD_cons_succ]), by rfl⟩ ?_
  rintro ⟨i, area, e, nn, pp, cp, safe, pend⟩ fr G1 ⟨hi, hi20, I, g5, g6, g8, g9, g31, g32, g33⟩ hN
  simp only at hi hi20 g9 g33
  have hli := I.li
  have hsl := I.len
  have har := I.area
  have hnn2 := I.nn
  have he := I.e
  have hpd := I.pend
  have hCG := I.chg
  have hnew := I.new
  simp only at hli hsl har hnn2 he hpd hnew
  rw [Ret_code l6_3.eq_1]
  refine Ret_pad ?_
  by_cases hlt : i < steps.length
  · have hsG := hCG.sl hs (by simp)
    have hld := fun X => (hsG.app X).loadCells encS_len hlt
    have hidx := fun c (k : IntKind) (H1 : Heap) => hsG.idx (c := c) (k := k) (H1 := H1) hlt
    have hw1 : IntKind.i64.wrap ((i : Int) + 1) = ((i + 1 : Nat) : Int) := wrap_nat (by omega)
    simp only [encS] at hld
    by_cases h20 : i = 20
    · have h20' : ((i : Int) = 20) = True := eq_true (by omega)
      simp only [n6, r6, g5, g6, g8, g9, g31, g32, g33, hlt, hld, hidx, h20', show H.length ≤ G1.length by have := hCG.len; omega, awake_ok, SB, Nat.reduceLT, callee, aOp, ne_eq, Nat.reduceEqDiff, aBin, aUn, if_true, if_false, reduceCtorEq, frame0, place, notTuple, Nat.reduceAdd, Nat.reduceLeDiff, resVal, dite_true, dite_false, Int.reduceEq, Int.reduceLT, Int.reduceLE]
    · have h20' : ((i : Int) = 20) = False := eq_false (by omega)
      have hlen1 := hCG.len
      have hrm := fun X (mp : Bool) (l2 : Nat) (Q : Value → Heap → Prop) => Room_ok (mp := mp) (lim := l2) (Q := Q) (Chg.lies hli (Chg.refl.app (X := X) : Chg [] G1 (G1 ++ X)) (by simp)) (by omega) (by omega)
      rw [hsl] at hrm
      have wE : IntKind.i64.wrap (((n / 2 : Nat) : Int) - ((n / 2 - nn : Nat) : Int)) = (nn : Int) := by rw [wrap_id (by omega) (by omega)]; omega
      have hJl := hget_alive hli.jl.j
      have hDl := hget_alive hli.jl.d
      have hSl := hget_alive hli.s
      have hD1X := fun X => (Ext.refl.app (X := X)).cells hli.jl.d
      by_cases h4 : (gt steps i).a.toNat % 4 = 0
      · have h4' : Int.tmod ((gt steps i).a.toNat : Int) 4 = 0 := by
          rw [show Int.tmod ((gt steps i).a.toNat : Int) 4 = (((gt steps i).a.toNat % 4 : Nat) : Int) from rfl, h4]; rfl
        simp only [n6, r6, g5, g6, g8, g9, g31, g32, g33, hlt, hld, hidx, h20', hlen1, hrm, wE, h4', eq_true h4', SB, Nat.reduceLT, callee, aOp, ne_eq, Nat.reduceEqDiff, aBin, aUn, if_true, if_false, reduceCtorEq, frame0, place, notTuple, Nat.reduceAdd, Nat.reduceLeDiff, resVal, dite_true, dite_false, Int.reduceEq, Int.reduceLT, Int.reduceLE]
        refine SyncL_ok (Chg.lies hli (Chg.refl.app : Chg [] G1 _) (by simp)) (by omega) (by omega) fun G2 hC2 hli2 => ?_
        have hlen2 := hC2.len
        simp only [List.length_append, List.length_cons, List.length_nil] at hlen2
        have hB2 : hget G2 G1.length = .cells false [.int .u8 ((gt steps i).a.toNat : Int), .int .u8 ((gt steps i).b.toNat : Int), .int .u8 ((gt steps i).c.toNat : Int), .int .u64 (gt steps i).m] := hC2.cells (by rw [hget_new0]; rfl) (by simp; omega)
        have hC12 : Chg [S, D] G1 G2 := hC2.pre
        have hsl2 : (crashed [] pend safe).length = n := by rw [crashed_len, hsl]
        generalize crashed [] pend safe = safe2 at hli2 hsl2
        have hCG2 : Chg [] H G2 := hCG.trans' hC12 fun j h1 h2 => by
          simp only [List.mem_cons, List.not_mem_nil, or_false] at h1
          omega
        have hsS2 : Sl G2 encX 32 (some ⟨S, 0, none⟩) safe2 := Sl.row encX_len hli2.s
        have happ := fun X (h : hget (G2 ++ X) G2.length = .cells false []) => append_newN (lim := H.length) (b := G2.length) (bytes := 32) (c := n) h (hsS2.app X) (by decide) (by unfold maxBytes; omega) (by omega) hli2.ne
        have hD2X := fun X => (Ext.refl.app (X := X)).cells hli2.jl.d
        have hB2X := fun X => (Ext.refl.app (X := X)).cells hB2
        rw [hsl2] at happ hD2X
        refine Ret_pad ?_
        simp only [n6, r6, g5, g6, g8, g9, g31, g32, g33, happ, hD2X, hB2X, SB, Nat.reduceLT, callee, aOp, ne_eq, Nat.reduceEqDiff, aBin, aUn, if_true, if_false, reduceCtorEq, frame0, place, notTuple, Nat.reduceAdd, Nat.reduceLeDiff, resVal, dite_true, dite_false, Int.reduceEq, Int.reduceLT, Int.reduceLE]
        refine record_ok (by omega) (by simp; omega) fun G3 q cq l hC3 hF => ?_
        have hC23 : Chg [] G2 G3 := hC3.pre
        have hlen3 := hC3.len
        simp only [List.length_append, List.length_cons, List.length_nil] at hlen3
        have hcopy : hget G3 (G2.length + 1) = .cells false (safe2.flatMap encX) := hC3.cells (by rw [hget_new]; rfl) (by simp)
        have hl60 := hF.len
        have hli3 := Chg.lies hli2 hC23 (by simp)
        have hCG3 : Chg [] H G3 := hCG2.trans' hC23 fun j h _ => by simp at h
        have hqn : ∀ a, q = some a → G2.length + 2 ≤ a.block := fun a ea => by have := (hF.own.block ea).1; simpa using this
        have hq1 : ∀ a, q = some a → l ≠ [] → a.block ≠ J ∧ a.block ≠ D ∧ a.block ∉ blk (none : Option Addr) := fun a ea _ => by
          have := hqn a ea
          exact ⟨by omega, by omega, by simp [blk]⟩
        have hnd := needN_le l.length
        refine Ret_pad ?_
        simp only [n6, r6, g5, g6, g8, g9, g31, g32, g33, SB, Nat.reduceLT, callee, aOp, ne_eq, Nat.reduceEqDiff, aBin, aUn, if_true, if_false, reduceCtorEq, frame0, place, notTuple, Nat.reduceAdd, Nat.reduceLeDiff, resVal, dite_true, dite_false, Int.reduceEq, Int.reduceLT, Int.reduceLE]
        rw [List.append_nil]
        refine Checkpoint_ok hli3 (hF.own.sl encb_len) hF.own.capOk hF.nil hq1 (by omega) (by omega) (by show (0 : Nat) + 2 ^ 20 < 2 ^ 30; omega) (by omega) har (fun hr => ?_) fun G4 hr hC4 hli4 => ?_
        · refine Ret_pad ?_
          simp only [n6, r6, g5, g6, g8, g9, g31, g32, g33, aEq, hw1, btt, btf, bft, bff, SB, Nat.reduceLT, callee, aOp, ne_eq, Nat.reduceEqDiff, aBin, aUn, if_true, if_false, reduceCtorEq, frame0, place, notTuple, Nat.reduceAdd, Nat.reduceLeDiff, resVal, dite_true, dite_false, Int.reduceEq, Int.reduceLT, Int.reduceLE]
          rw [List.append_nil]
          exact hN ⟨i + 1, area, e, nn, none, 0, safe2, []⟩ _ _ ⟨by show i + 1 ≤ _; omega, by show i + 1 ≤ 20; omega, ⟨hli3, hsl2, har, hnn2, by show e ≤ i + 1 + 1; omega, by simp, hCG3, by intro a ea; cases ea⟩, (by simp only [g5, upd_same, upd_ne, ne_eq, Nat.reduceEqDiff, not_false_eq_true, frame0, List.getD_cons_zero, List.getD_cons_succ]), (by simp only [g6, upd_same, upd_ne, ne_eq, Nat.reduceEqDiff, not_false_eq_true, frame0, List.getD_cons_zero, List.getD_cons_succ]), (by simp only [g8, upd_same, upd_ne, ne_eq, Nat.reduceEqDiff, not_false_eq_true, frame0, List.getD_cons_zero, List.getD_cons_succ]), (by simp only [g9, upd_same, upd_ne, ne_eq, Nat.reduceEqDiff, not_false_eq_true, frame0, List.getD_cons_zero, List.getD_cons_succ]), (by simp only [g31, upd_same, upd_ne, ne_eq, Nat.reduceEqDiff, not_false_eq_true, frame0, List.getD_cons_zero, List.getD_cons_succ]), (by simp only [g32, upd_same, upd_ne, ne_eq, Nat.reduceEqDiff, not_false_eq_true, frame0, List.getD_cons_zero, List.getD_cons_succ]), (by simp only [upd_same, upd_ne, ne_eq, Nat.reduceEqDiff, not_false_eq_true, frame0, List.getD_cons_zero, List.getD_cons_succ])⟩ (by show _ - (i + 1) < _ - i; omega)
        · rw [hsl2] at hr hli4
          have hls4 : (crashed [] ([] ++ wrsOf ((1 - area) * (n / 2)) (e + 1) 1 0 (pcs l)) safe2).length = n := by rw [crashed_len, hsl2]
          have hsame := check_same (m := n / 2) (e := e + 1) (l := l) (by omega) hr har hsl2
          generalize crashed [] ([] ++ wrsOf ((1 - area) * (n / 2)) (e + 1) 1 0 (pcs l)) safe2 = safe4 at hli4 hls4 hsame
          have hlen4 := hC4.len
          have hcopy4 : hget G4 (G2.length + 1) = .cells false (safe2.flatMap encX) := hC4.cells hcopy (by simp [blk]; omega)
          have hCG4 : Chg [] H G4 := hCG3.trans' hC4 fun j h1 h2 => by
            simp only [List.mem_cons, blk, List.not_mem_nil, or_false] at h1
            omega
          have wv : IntKind.i64.wrap (1 - (area : Int)) = ((1 - area : Nat) : Int) := by rw [wrap_id (by omega) (by omega)]; omega
          have hd4 := hli4.jl.d
          rw [hls4] at hd4
          refine Ret_pad ?_
          simp only [n6, r6, g5, g6, g8, g9, g31, g32, g33, aEq, btt, btf, bft, bff, SB, Nat.reduceLT, callee, aOp, ne_eq, Nat.reduceEqDiff, aBin, aUn, if_true, if_false, reduceCtorEq, frame0, place, notTuple, Nat.reduceAdd, Nat.reduceLeDiff, resVal, dite_true, dite_false, Int.reduceEq, Int.reduceLT, Int.reduceLE]
          rw [List.append_nil]
          refine inner6c (q := some ⟨G2.length + 1, 0, none⟩) (cq := loose 32) (sp := some ⟨S, 0, none⟩) hd4 (Sl.row encX_len hcopy4) (Sl.row encX_len hli4.s) hsl2 hls4 (by omega) (by omega) (by omega) har hsame (by simp only [g6, upd_same, upd_ne, ne_eq, Nat.reduceEqDiff, not_false_eq_true, frame0, List.getD_cons_zero, List.getD_cons_succ]) (by simp only [g8, upd_same, upd_ne, ne_eq, Nat.reduceEqDiff, not_false_eq_true, frame0, List.getD_cons_zero, List.getD_cons_succ]) (by simp only [g9, upd_same, upd_ne, ne_eq, Nat.reduceEqDiff, not_false_eq_true, frame0, List.getD_cons_zero, List.getD_cons_succ]) (by simp only [upd_same, upd_ne, ne_eq, Nat.reduceEqDiff, not_false_eq_true, frame0, List.getD_cons_zero, List.getD_cons_succ]) (by simp only [upd_same, upd_ne, ne_eq, Nat.reduceEqDiff, not_false_eq_true, frame0, List.getD_cons_zero, List.getD_cons_succ]) (by simp only [upd_same, upd_ne, ne_eq, Nat.reduceEqDiff, not_false_eq_true, frame0, List.getD_cons_zero, List.getD_cons_succ]) fun fr2 k5 k6 k8 k9 k31 k32 k33 => ?_
          have k5' : fr2 5 = .pointer (some ⟨J, 0, none⟩) := k5.trans (by simp only [g5, upd_same, upd_ne, ne_eq, Nat.reduceEqDiff, not_false_eq_true, frame0, List.getD_cons_zero, List.getD_cons_succ])
          have k6' : fr2 6 = .pointer (some ⟨D, 0, none⟩) := k6.trans (by simp only [g6, upd_same, upd_ne, ne_eq, Nat.reduceEqDiff, not_false_eq_true, frame0, List.getD_cons_zero, List.getD_cons_succ])
          have k8' : fr2 8 = .int .i64 ((n / 2 : Nat) : Int) := k8.trans (by simp only [g8, upd_same, upd_ne, ne_eq, Nat.reduceEqDiff, not_false_eq_true, frame0, List.getD_cons_zero, List.getD_cons_succ])
          have k9' : fr2 9 = .int .i64 (area : Int) := k9.trans (by simp only [g9, upd_same, upd_ne, ne_eq, Nat.reduceEqDiff, not_false_eq_true, frame0, List.getD_cons_zero, List.getD_cons_succ])
          have k31' : fr2 31 = .slice p steps.length c := k31.trans (by simp only [g31, upd_same, upd_ne, ne_eq, Nat.reduceEqDiff, not_false_eq_true, frame0, List.getD_cons_zero, List.getD_cons_succ])
          have k32' : fr2 32 = .int .i64 (steps.length : Int) := k32.trans (by simp only [g32, upd_same, upd_ne, ne_eq, Nat.reduceEqDiff, not_false_eq_true, frame0, List.getD_cons_zero, List.getD_cons_succ])
          have k33' : fr2 33 = .int .i64 (i : Int) := k33.trans (by simp only [g33, upd_same, upd_ne, ne_eq, Nat.reduceEqDiff, not_false_eq_true, frame0, List.getD_cons_zero, List.getD_cons_succ])
          clear k5 k6 k8 k9 k31 k32 k33
          simp only [n6, r6, k5', k6', k8', k9', k31', k32', k33', wv, hw1, SB, Nat.reduceLT, callee, aOp, ne_eq, Nat.reduceEqDiff, aBin, aUn, if_true, if_false, reduceCtorEq, frame0, place, notTuple, Nat.reduceAdd, Nat.reduceLeDiff, resVal, dite_true, dite_false, Int.reduceEq, Int.reduceLT, Int.reduceLE]
          rw [List.append_nil]
          exact hN ⟨i + 1, 1 - area, e + 1, needN l.length, none, 0, safe4, []⟩ _ _ ⟨by show i + 1 ≤ _; omega, by show i + 1 ≤ 20; omega, ⟨hli4, hls4, by show 1 - area ≤ 1; omega, hr, by show e + 1 ≤ i + 1 + 1; omega, by simp, hCG4, by intro a ea; cases ea⟩, (by simp only [k5', upd_same, upd_ne, ne_eq, Nat.reduceEqDiff, not_false_eq_true, frame0, List.getD_cons_zero, List.getD_cons_succ]), (by simp only [k6', upd_same, upd_ne, ne_eq, Nat.reduceEqDiff, not_false_eq_true, frame0, List.getD_cons_zero, List.getD_cons_succ]), (by simp only [k8', upd_same, upd_ne, ne_eq, Nat.reduceEqDiff, not_false_eq_true, frame0, List.getD_cons_zero, List.getD_cons_succ]), (by simp only [upd_same, upd_ne, ne_eq, Nat.reduceEqDiff, not_false_eq_true, frame0, List.getD_cons_zero, List.getD_cons_succ]), (by simp only [k31', upd_same, upd_ne, ne_eq, Nat.reduceEqDiff, not_false_eq_true, frame0, List.getD_cons_zero, List.getD_cons_succ]), (by simp only [k32', upd_same, upd_ne, ne_eq, Nat.reduceEqDiff, not_false_eq_true, frame0, List.getD_cons_zero, List.getD_cons_succ]), (by simp only [upd_same, upd_ne, ne_eq, Nat.reduceEqDiff, not_false_eq_true, frame0, List.getD_cons_zero, List.getD_cons_succ])⟩ (by show _ - (i + 1) < _ - i; omega)
      · have h4' : ¬ Int.tmod ((gt steps i).a.toNat : Int) 4 = 0 := by
          rw [show Int.tmod ((gt steps i).a.toNat : Int) 4 = (((gt steps i).a.toNat % 4 : Nat) : Int) from rfl]; omega
        simp only [n6, r6, g5, g6, g8, g9, g31, g32, g33, hlt, hld, hidx, h20', hlen1, hrm, wE, h4', eq_false h4', hD1X, SB, Nat.reduceLT, callee, aOp, ne_eq, Nat.reduceEqDiff, aBin, aUn, if_true, if_false, reduceCtorEq, frame0, place, notTuple, Nat.reduceAdd, Nat.reduceLeDiff, resVal, dite_true, dite_false, Int.reduceEq, Int.reduceLT, Int.reduceLE]
        refine record_ok (by omega) (by simp; omega) fun G2 q cq l hC2 hF => ?_
        have hl60 := hF.len
        have hC12 : Chg [] G1 G2 := hC2.pre
        have hli2 := Chg.lies hli hC12 (by simp)
        have hCG2 : Chg [] H G2 := hCG.trans' hC12 fun j h _ => by simp at h
        have hqn : ∀ a, q = some a → G1.length + 1 ≤ a.block := fun a ea => by have := (hF.own.block ea).1; simpa using this
        have hppl : ∀ a, pp = some a → a.block < G1.length := fun a ea => (hli.jl.own.block ea).2
        have hnd := needN_le l.length
        have hq1 : ∀ a, q = some a → l ≠ [] → a.block ≠ J ∧ a.block ≠ D ∧ a.block ∉ blk pp := fun a ea _ => by
          have := hqn a ea
          refine ⟨by omega, by omega, fun hh => ?_⟩
          cases pp with
          | none => simp [blk] at hh
          | some b => simp only [blk, List.mem_singleton] at hh; have := hppl b rfl; omega
        refine Ret_pad ?_
        simp only [n6, r6, g5, g6, g8, g9, g31, g32, g33, SB, Nat.reduceLT, callee, aOp, ne_eq, Nat.reduceEqDiff, aBin, aUn, if_true, if_false, reduceCtorEq, frame0, place, notTuple, Nat.reduceAdd, Nat.reduceLeDiff, resVal, dite_true, dite_false, Int.reduceEq, Int.reduceLT, Int.reduceLE]
        rw [List.append_nil]
        refine Append_ok hli2 (hF.own.sl encb_len) hF.own.capOk hF.nil hq1 (by omega) (by omega) (by omega) (by omega) har (fun hr => ?_) fun G3 pp3 cp3 hr hC3 hn3 hli3 => ?_
        · refine Ret_pad ?_
          simp only [n6, r6, g5, g6, g8, g9, g31, g32, g33, aEq, hw1, btt, btf, bft, bff, SB, Nat.reduceLT, callee, aOp, ne_eq, Nat.reduceEqDiff, aBin, aUn, if_true, if_false, reduceCtorEq, frame0, place, notTuple, Nat.reduceAdd, Nat.reduceLeDiff, resVal, dite_true, dite_false, Int.reduceEq, Int.reduceLT, Int.reduceLE]
          rw [List.append_nil]
          exact hN ⟨i + 1, area, e, nn, pp, cp, safe, pend⟩ _ _ ⟨by show i + 1 ≤ _; omega, by show i + 1 ≤ 20; omega, ⟨hli2, hsl, har, hnn2, by show e ≤ i + 1 + 1; omega, by show pend.length ≤ 4 * (i + 1); omega, hCG2, hnew⟩, (by simp only [g5, upd_same, upd_ne, ne_eq, Nat.reduceEqDiff, not_false_eq_true, frame0, List.getD_cons_zero, List.getD_cons_succ]), (by simp only [g6, upd_same, upd_ne, ne_eq, Nat.reduceEqDiff, not_false_eq_true, frame0, List.getD_cons_zero, List.getD_cons_succ]), (by simp only [g8, upd_same, upd_ne, ne_eq, Nat.reduceEqDiff, not_false_eq_true, frame0, List.getD_cons_zero, List.getD_cons_succ]), (by simp only [g9, upd_same, upd_ne, ne_eq, Nat.reduceEqDiff, not_false_eq_true, frame0, List.getD_cons_zero, List.getD_cons_succ]), (by simp only [g31, upd_same, upd_ne, ne_eq, Nat.reduceEqDiff, not_false_eq_true, frame0, List.getD_cons_zero, List.getD_cons_succ]), (by simp only [g32, upd_same, upd_ne, ne_eq, Nat.reduceEqDiff, not_false_eq_true, frame0, List.getD_cons_zero, List.getD_cons_succ]), (by simp only [upd_same, upd_ne, ne_eq, Nat.reduceEqDiff, not_false_eq_true, frame0, List.getD_cons_zero, List.getD_cons_succ])⟩ (by show _ - (i + 1) < _ - i; omega)
        · rw [hsl] at hr hli3
          have hnd4 : needN l.length ≤ 4 := by unfold needN; omega
          have hlp : (pend ++ wrsOf (area * (n / 2)) e 1 nn (pcs l)).length = pend.length + needN l.length := by rw [List.length_append, wrsOf_len, pcs_need]
          have hin : ∀ a, a ∈ blk pp → H.length ≤ a := fun a h1 => by
            cases pp with
            | none => simp [blk] at h1
            | some b => simp only [blk, List.mem_singleton] at h1; have := hnew b rfl; omega
          have hCG3 : Chg [] H G3 := hCG2.trans' hC3 fun j h1 h2 => by
            simp only [List.mem_cons] at h1
            rcases h1 with h1 | h1 | h1
            · omega
            · omega
            · have := hin _ h1; omega
          have hl2 := hCG2.len
          have hd3 := hli3.jl.d
          rw [hsl] at hd3
          refine Ret_pad ?_
          simp only [n6, r6, g5, g6, g8, g9, g31, g32, g33, aEq, btt, btf, bft, bff, SB, Nat.reduceLT, callee, aOp, ne_eq, Nat.reduceEqDiff, aBin, aUn, if_true, if_false, reduceCtorEq, frame0, place, notTuple, Nat.reduceAdd, Nat.reduceLeDiff, resVal, dite_true, dite_false, Int.reduceEq, Int.reduceLT, Int.reduceLE]
          rw [List.append_nil]
          refine inner6w hd3 (hli3.jl.own.sl encW_len) (by omega) har (by omega) (by rw [pcs_need]; omega) (by simp only [g6, upd_same, upd_ne, ne_eq, Nat.reduceEqDiff, not_false_eq_true, frame0, List.getD_cons_zero, List.getD_cons_succ]) (by simp only [g8, upd_same, upd_ne, ne_eq, Nat.reduceEqDiff, not_false_eq_true, frame0, List.getD_cons_zero, List.getD_cons_succ]) (by simp only [g9, upd_same, upd_ne, ne_eq, Nat.reduceEqDiff, not_false_eq_true, frame0, List.getD_cons_zero, List.getD_cons_succ]) (by simp only [upd_same, upd_ne, ne_eq, Nat.reduceEqDiff, not_false_eq_true, frame0, List.getD_cons_zero, List.getD_cons_succ]) (by simp only [upd_same, upd_ne, ne_eq, Nat.reduceEqDiff, not_false_eq_true, frame0, List.getD_cons_zero, List.getD_cons_succ]) (by simp only [upd_same, upd_ne, ne_eq, Nat.reduceEqDiff, not_false_eq_true, frame0, List.getD_cons_zero, List.getD_cons_succ]) fun fr2 k5 k6 k8 k9 k31 k32 k33 => ?_
          have k5' : fr2 5 = .pointer (some ⟨J, 0, none⟩) := k5.trans (by simp only [g5, upd_same, upd_ne, ne_eq, Nat.reduceEqDiff, not_false_eq_true, frame0, List.getD_cons_zero, List.getD_cons_succ])
          have k6' : fr2 6 = .pointer (some ⟨D, 0, none⟩) := k6.trans (by simp only [g6, upd_same, upd_ne, ne_eq, Nat.reduceEqDiff, not_false_eq_true, frame0, List.getD_cons_zero, List.getD_cons_succ])
          have k8' : fr2 8 = .int .i64 ((n / 2 : Nat) : Int) := k8.trans (by simp only [g8, upd_same, upd_ne, ne_eq, Nat.reduceEqDiff, not_false_eq_true, frame0, List.getD_cons_zero, List.getD_cons_succ])
          have k9' : fr2 9 = .int .i64 (area : Int) := k9.trans (by simp only [g9, upd_same, upd_ne, ne_eq, Nat.reduceEqDiff, not_false_eq_true, frame0, List.getD_cons_zero, List.getD_cons_succ])
          have k31' : fr2 31 = .slice p steps.length c := k31.trans (by simp only [g31, upd_same, upd_ne, ne_eq, Nat.reduceEqDiff, not_false_eq_true, frame0, List.getD_cons_zero, List.getD_cons_succ])
          have k32' : fr2 32 = .int .i64 (steps.length : Int) := k32.trans (by simp only [g32, upd_same, upd_ne, ne_eq, Nat.reduceEqDiff, not_false_eq_true, frame0, List.getD_cons_zero, List.getD_cons_succ])
          have k33' : fr2 33 = .int .i64 (i : Int) := k33.trans (by simp only [g33, upd_same, upd_ne, ne_eq, Nat.reduceEqDiff, not_false_eq_true, frame0, List.getD_cons_zero, List.getD_cons_succ])
          clear k5 k6 k8 k9 k31 k32 k33
          simp only [n6, r6, k5', k6', k8', k9', k31', k32', k33', hw1, SB, Nat.reduceLT, callee, aOp, ne_eq, Nat.reduceEqDiff, aBin, aUn, if_true, if_false, reduceCtorEq, frame0, place, notTuple, Nat.reduceAdd, Nat.reduceLeDiff, resVal, dite_true, dite_false, Int.reduceEq, Int.reduceLT, Int.reduceLE]
          rw [List.append_nil]
          exact hN ⟨i + 1, area, e, nn + needN l.length, pp3, cp3, safe, pend ++ wrsOf (area * (n / 2)) e 1 nn (pcs l)⟩ _ _ ⟨by show i + 1 ≤ _; omega, by show i + 1 ≤ 20; omega, ⟨hli3, hsl, har, by show nn + needN l.length ≤ n / 2; omega, by show e ≤ i + 1 + 1; omega, by show (pend ++ wrsOf (area * (n / 2)) e 1 nn (pcs l)).length ≤ 4 * (i + 1); omega, hCG3, fun a ea => by
            by_cases hb : a.block ∈ blk pp
            · exact hin _ hb
            · have := hn3 a ea hb; omega⟩, (by simp only [k5', upd_same, upd_ne, ne_eq, Nat.reduceEqDiff, not_false_eq_true, frame0, List.getD_cons_zero, List.getD_cons_succ]), (by simp only [k6', upd_same, upd_ne, ne_eq, Nat.reduceEqDiff, not_false_eq_true, frame0, List.getD_cons_zero, List.getD_cons_succ]), (by simp only [k8', upd_same, upd_ne, ne_eq, Nat.reduceEqDiff, not_false_eq_true, frame0, List.getD_cons_zero, List.getD_cons_succ]), (by simp only [k9', upd_same, upd_ne, ne_eq, Nat.reduceEqDiff, not_false_eq_true, frame0, List.getD_cons_zero, List.getD_cons_succ]), (by simp only [k31', upd_same, upd_ne, ne_eq, Nat.reduceEqDiff, not_false_eq_true, frame0, List.getD_cons_zero, List.getD_cons_succ]), (by simp only [k32', upd_same, upd_ne, ne_eq, Nat.reduceEqDiff, not_false_eq_true, frame0, List.getD_cons_zero, List.getD_cons_succ]), (by simp only [upd_same, upd_ne, ne_eq, Nat.reduceEqDiff, not_false_eq_true, frame0, List.getD_cons_zero, List.getD_cons_succ])⟩ (by show _ - (i + 1) < _ - i; omega)
  · obtain rfl : i = steps.length := by omega
    simp only [n6, r6, g31, g32, g33, hlt, awake_ok, SB, Nat.reduceLT, callee, aOp, ne_eq, Nat.reduceEqDiff, aBin, aUn, if_true, if_false, reduceCtorEq, frame0, place, notTuple, Nat.reduceAdd, Nat.reduceLeDiff, resVal, dite_true, dite_false, Int.reduceEq, Int.reduceLT, Int.reduceLE]
end Go.Proofs.Ytdddehniepofmaa.Fn
