/-
  Joined texts, 8 of 9. A part of the claim that the last text states.
-/
import Derived.Test.YtdddehniepofmaaSN7
namespace Go.Proofs.Ytdddehniepofmaa.Fn
open Go.AM Go.AM.Sym
set_option maxRecDepth 100000
set_option linter.unusedVariables false
set_option linter.unusedSimpArgs false
set_option maxHeartbeats 4000000

theorem dif_len {C V : List Sec} : ∀ k, (dif C V k).length ≤ k
  | 0 => Nat.le_refl _
  | k + 1 => by
    have := dif_len (C := C) (V := V) k
    rw [dif, List.length_append]
    split <;> simp <;> omega
theorem snap_dif {lim h0 n D S D1 S1 D2 S2 cp1 sc sc2 : Nat} {pp1 : Option Addr} {x y : Value} {C V safe : List Sec} {P : List Wr} {fr : Nat → Value} {G0 : Heap} {K : List AItem} {Rt : Value → Heap → Prop}
    (hD : hget G0 D = .cells false [.slice (some ⟨S, 0, none⟩) n sc, x]) (hS : hget G0 S = .cells false (C.flatMap encX)) (hD2 : hget G0 D2 = .cells false [.slice (some ⟨S2, 0, none⟩) n sc2, y]) (hS2 : hget G0 S2 = .cells false (V.flatMap encX)) (L1 : DL h0 G0 D1 S1 n (loose 32) pp1 cp1 safe P)
    (hCl : C.length = n) (hVl : V.length = n) (hn : n < 2 ^ 15) (hP : P.length < 2 ^ 20) (hl0 : h0 ≤ G0.length) (hlim : lim ≤ h0)
    (a1 : ∀ j ∈ [D, S, D2, S2], j ≠ D1 ∧ ∀ a, pp1 = some a → a.block ≠ j)
    (f10 : fr 10 = .pointer (some ⟨D, 0, none⟩)) (f17 : fr 17 = .pointer (some ⟨D1, 0, none⟩)) (f20 : fr 20 = .pointer (some ⟨D2, 0, none⟩)) (f101 : fr 101 = .int .i64 (n : Int)) (f102 : fr 102 = .int .i64 0)
    (hR : ∀ fr' G' pp' cp', Chg (D1 :: blk pp1) G0 G' → DL h0 G' D1 S1 n (loose 32) pp' cp' safe (P ++ dif C V n) → (∀ a, pp' = some a → a.block ∈ blk pp1 ∨ G0.length ≤ a.block) → fr' 3 = fr 3 → fr' 12 = fr 12 → fr' 13 = fr 13 → fr' 17 = fr 17 → fr' 18 = fr 18 → Ret E a9 lim K fr' (G' ++ []) Rt) :
    Ret E a9 lim (.code (.loop l9_1) :: .inBlock 2 :: K) fr G0 Rt := by
  refine Ret_rounds (fun x : Nat × Option Addr × Nat => n - x.1) (fun x fr' G => x.1 ≤ n ∧ Chg (D1 :: blk pp1) G0 G ∧ DL h0 G D1 S1 n (loose 32) x.2.1 x.2.2 safe (P ++ dif C V x.1) ∧ (∀ a, x.2.1 = some a → a.block ∈ blk pp1 ∨ G0.length ≤ a.block) ∧ fr' 102 = .int .i64 (x.1 : Int) ∧ fr' 10 = fr 10 ∧ fr' 17 = fr 17 ∧ fr' 20 = fr 20 ∧ fr' 101 = fr 101 ∧ fr' 3 = fr 3 ∧ fr' 12 = fr 12 ∧ fr' 13 = fr 13 ∧ fr' 18 = fr 18) (0, pp1, cp1)
    ⟨Nat.zero_le _, Chg.refl, by show DL _ _ _ _ _ _ _ _ _ (P ++ []); rw [List.append_nil]; exact L1, fun a ea => .inl (blk_mem.2 ⟨a, ea, rfl⟩), f102, rfl, rfl, rfl, rfl, rfl, rfl, rfl, rfl⟩ ?_
  rintro ⟨k, pp, cp⟩ fr' G ⟨hk, hC, hL, hpp, g102, g10, g17, g20, g101, g3, g12, g13, g18⟩ hN
  simp only at hk hL hpp g102
  rw [f10] at g10
  rw [f17] at g17
  rw [f20] at g20
  rw [f101] at g101
  have hCl0 := hC.len
  have hin : ∀ j ∈ [D, S, D2, S2], j ∉ D1 :: blk pp1 := fun j hj hh => by
    obtain ⟨h1, h2⟩ := a1 j hj
    simp only [List.mem_cons] at hh
    rcases hh with hh | hh
    · exact h1 hh
    · obtain ⟨a, e1, e2⟩ := blk_mem.1 hh
      exact h2 a e1 e2
  have dD := hC.cells hD (hin D (by simp))
  have dS := hC.cells hS (hin S (by simp))
  have dD2 := hC.cells hD2 (hin D2 (by simp))
  have dS2 := hC.cells hS2 (hin S2 (by simp))
  have hDX := fun X => (Ext.refl.app (X := X)).cells dD
  have hD2X := fun X => (Ext.refl.app (X := X)).cells dD2
  have sC : Sl G encX 32 (some ⟨S, 0, none⟩) C := Sl.row encX_len dS
  have sV : Sl G encX 32 (some ⟨S2, 0, none⟩) V := Sl.row encX_len dS2
  have w1 : IntKind.i64.wrap ((k : Int) + 1) = ((k + 1 : Nat) : Int) := wrap_nat (by omega)
  have hdl := dif_len (C := C) (V := V) k
  rw [Ret_code l9_1.eq_1]
  refine Ret_pad ?_
  by_cases hlt : k < n
  case neg =>
    obtain rfl : k = n := by omega
    simp only [n9, r9, g102, g10, g17, g20, g101, SB, Nat.reduceLT, callee, aOp, ne_eq, Nat.reduceEqDiff, aBin, aUn, if_true, if_false, reduceCtorEq, frame0, place, notTuple, Nat.reduceAdd, Nat.reduceLeDiff, resVal, dite_true, dite_false, Int.reduceEq, Int.reduceLT, Int.reduceLE]
    exact hR _ G pp cp hC hL hpp (by rw [← g3]; exact (by simp only [upd_same, upd_ne, ne_eq, Nat.reduceEqDiff, not_false_eq_true, frame0, List.getD_cons_zero, List.getD_cons_succ])) (by rw [← g12]; exact (by simp only [upd_same, upd_ne, ne_eq, Nat.reduceEqDiff, not_false_eq_true, frame0, List.getD_cons_zero, List.getD_cons_succ])) (by rw [← g13]; exact (by simp only [upd_same, upd_ne, ne_eq, Nat.reduceEqDiff, not_false_eq_true, frame0, List.getD_cons_zero, List.getD_cons_succ])) (by rw [f17]; exact (by simp only [g17, upd_same, upd_ne, ne_eq, Nat.reduceEqDiff, not_false_eq_true, frame0, List.getD_cons_zero, List.getD_cons_succ])) (by rw [← g18]; exact (by simp only [upd_same, upd_ne, ne_eq, Nat.reduceEqDiff, not_false_eq_true, frame0, List.getD_cons_zero, List.getD_cons_succ]))
  have ic := fun c (k' : IntKind) (H1 : Heap) => sC.idx (c := c) (k := k') (H1 := H1) (i := k) (by omega)
  have iv := fun c (k' : IntKind) (H1 : Heap) => sV.idx (c := c) (k := k') (H1 := H1) (i := k) (by omega)
  rw [hCl] at ic
  rw [hVl] at iv
  have lc := fun X => (sC.app X).loadCells encX_len (i := k) (by omega)
  have lv := fun X => (sV.app X).loadCells encX_len (i := k) (by omega)
  by_cases he : gt C k = gt V k
  · have hdif : dif C V (k + 1) = dif C V k := by rw [dif, if_pos he, List.append_nil]
    simp only [n9, r9, g102, g10, g17, g20, g101, hlt, hDX, hD2X, ic, iv, lc, lv, eqX, encX_len, he, w1, SB, Nat.reduceLT, callee, aOp, ne_eq, Nat.reduceEqDiff, aBin, aUn, if_true, if_false, reduceCtorEq, frame0, place, notTuple, Nat.reduceAdd, Nat.reduceLeDiff, resVal, dite_true, dite_false, Int.reduceEq, Int.reduceLT, Int.reduceLE]
    rw [List.append_nil]
    exact hN (k + 1, pp, cp) _ _ ⟨by show k + 1 ≤ n; omega, hC, by rw [hdif]; exact hL, hpp, (by simp only [upd_same, upd_ne, ne_eq, Nat.reduceEqDiff, not_false_eq_true, frame0, List.getD_cons_zero, List.getD_cons_succ]), by rw [f10]; exact (by simp only [g10, upd_same, upd_ne, ne_eq, Nat.reduceEqDiff, not_false_eq_true, frame0, List.getD_cons_zero, List.getD_cons_succ]), by rw [f17]; exact (by simp only [g17, upd_same, upd_ne, ne_eq, Nat.reduceEqDiff, not_false_eq_true, frame0, List.getD_cons_zero, List.getD_cons_succ]), by rw [f20]; exact (by simp only [g20, upd_same, upd_ne, ne_eq, Nat.reduceEqDiff, not_false_eq_true, frame0, List.getD_cons_zero, List.getD_cons_succ]), by rw [f101]; exact (by simp only [g101, upd_same, upd_ne, ne_eq, Nat.reduceEqDiff, not_false_eq_true, frame0, List.getD_cons_zero, List.getD_cons_succ]), by rw [← g3]; exact (by simp only [upd_same, upd_ne, ne_eq, Nat.reduceEqDiff, not_false_eq_true, frame0, List.getD_cons_zero, List.getD_cons_succ]), by rw [← g12]; exact (by simp only [upd_same, upd_ne, ne_eq, Nat.reduceEqDiff, not_false_eq_true, frame0, List.getD_cons_zero, List.getD_cons_succ]), by rw [← g13]; exact (by simp only [upd_same, upd_ne, ne_eq, Nat.reduceEqDiff, not_false_eq_true, frame0, List.getD_cons_zero, List.getD_cons_succ]), by rw [← g18]; exact (by simp only [upd_same, upd_ne, ne_eq, Nat.reduceEqDiff, not_false_eq_true, frame0, List.getD_cons_zero, List.getD_cons_succ])⟩ (by show n - (k + 1) < n - k; omega)
  · have hdif : P ++ dif C V (k + 1) = (P ++ dif C V k) ++ [⟨((k : Nat) : Int), gt C k⟩] := by rw [dif, if_neg he, List.append_assoc]
    obtain ⟨lD1, lS1, lP1⟩ := hL.lives
    obtain ⟨G2, cp', e1, O2, hold, l2⟩ := hL.p.pushD (lim := lim) (d := G.length + 1) (b := G.length) (w := ⟨((k : Nat) : Int), gt C k⟩) hlim (by omega) (by rw [List.length_append]; omega) [.cells false (encW ⟨((k : Nat) : Int), gt C k⟩), .dead] (by omega) (by simp) (by rw [hget_new0]; rfl)
    have hlp : ∃ m, (P ++ dif C V k).length = m := ⟨_, rfl⟩
    obtain ⟨m, hm⟩ := hlp
    have hd := hL.d
    rw [hm] at hd e1
    have hd1X := fun X => (Ext.refl.app (X := X)).cells hd
    have hd2 : hget (G2 ++ []) D1 = _ := (hold D1 lD1 fun a ea => (hL.ps a ea).2.symm).trans hd
    have hs2 : hget (G2 ++ []) S1 = _ := (hold S1 lS1 fun a ea => (hL.ps a ea).1.symm).trans hL.s
    have hd2' := hd2
    rw [List.append_nil] at hd2' hs2
    obtain ⟨G3, s3, d3, m3⟩ := mut_set (hget_alive hd2') (.cells false [.slice (some ⟨S1, 0, none⟩) n (loose 32), .slice (some ⟨G.length + 1, 0, none⟩) (m + 1) cp'])
    have hlD1 := hL.lD
    have ew : Value.int .i64 (k : Int) :: encX (gt C k) = encW ⟨((k : Nat) : Int), gt C k⟩ := (encW_mk).symm
    have hun : unmaskH G.length [0, 1] (G2 ++ []) (((G2 ++ []).set G.length .dead).set (G.length + 1) .dead) = G2 ++ [] := unmask_mask G.length [0, 1] (G2 ++ [])
    have ne1 : ¬ D1 = G.length := by omega
    have ne2 : ¬ D1 = G.length + 1 := by omega
    simp only [n9, r9, g102, g10, g17, g20, g101, hlt, hDX, hD2X, ic, iv, lc, lv, eqX, encX_len, he, w1, decide_false, Bool.not_false, hd1X, ew, encW_len, e1, s3, hun, hget_set_ne, ne1, ne2, hd2, take_all, setAll_full, show lim ≤ D1 by omega, SB, Nat.reduceLT, callee, aOp, ne_eq, Nat.reduceEqDiff, aBin, aUn, if_true, if_false, reduceCtorEq, frame0, place, notTuple, Nat.reduceAdd, Nat.reduceLeDiff, resVal, dite_true, dite_false, Int.reduceEq, Int.reduceLT, Int.reduceLE]
    rw [List.append_nil]
    have O2' := O2
    rw [List.append_nil] at O2'
    have hC2 : Chg (blk pp) G G2 := ⟨l2, fun j hj hA => by
      have := hold j hj fun a ea e => hA (blk_mem.2 ⟨a, ea, e.symm⟩)
      rwa [List.append_nil] at this⟩
    have hC3 : Chg (D1 :: blk pp1) G0 G3 := (hC.trans' hC2 fun j h1 h2 => by
      obtain ⟨a, e1, e2⟩ := blk_mem.1 h1
      rcases hpp a e1 with h3 | h3
      · exact List.mem_cons_of_mem _ (e2 ▸ h3)
      · omega).mut m3 (.inl (by simp))
    exact hN (k + 1, some ⟨G.length + 1, 0, none⟩, cp') _ _ ⟨by show k + 1 ≤ n; omega, hC3, ⟨by rw [hdif, List.length_append, hm]; exact d3, m3.cells hs2 hL.SD, .inr (by rw [hdif]; exact O2'.mut m3 fun a ea => by cases ea; show G.length + 1 ≠ D1; omega), hL.len, hL.lD, hL.lS, hL.SD, fun a ea => by cases ea; exact ⟨by show G.length + 1 ≠ S1; omega, by show G.length + 1 ≠ D1; omega⟩⟩, fun a ea => by cases ea; exact .inr (by show G0.length ≤ G.length + 1; omega), (by simp only [upd_same, upd_ne, ne_eq, Nat.reduceEqDiff, not_false_eq_true, frame0, List.getD_cons_zero, List.getD_cons_succ]), by rw [f10]; exact (by simp only [g10, upd_same, upd_ne, ne_eq, Nat.reduceEqDiff, not_false_eq_true, frame0, List.getD_cons_zero, List.getD_cons_succ]), by rw [f17]; exact (by simp only [g17, upd_same, upd_ne, ne_eq, Nat.reduceEqDiff, not_false_eq_true, frame0, List.getD_cons_zero, List.getD_cons_succ]), by rw [f20]; exact (by simp only [g20, upd_same, upd_ne, ne_eq, Nat.reduceEqDiff, not_false_eq_true, frame0, List.getD_cons_zero, List.getD_cons_succ]), by rw [f101]; exact (by simp only [g101, upd_same, upd_ne, ne_eq, Nat.reduceEqDiff, not_false_eq_true, frame0, List.getD_cons_zero, List.getD_cons_succ]), by rw [← g3]; exact (by simp only [upd_same, upd_ne, ne_eq, Nat.reduceEqDiff, not_false_eq_true, frame0, List.getD_cons_zero, List.getD_cons_succ]), by rw [← g12]; exact (by simp only [upd_same, upd_ne, ne_eq, Nat.reduceEqDiff, not_false_eq_true, frame0, List.getD_cons_zero, List.getD_cons_succ]), by rw [← g13]; exact (by simp only [upd_same, upd_ne, ne_eq, Nat.reduceEqDiff, not_false_eq_true, frame0, List.getD_cons_zero, List.getD_cons_succ]), by rw [← g18]; exact (by simp only [upd_same, upd_ne, ne_eq, Nat.reduceEqDiff, not_false_eq_true, frame0, List.getD_cons_zero, List.getD_cons_succ])⟩ (by show n - (k + 1) < n - k; omega)
end Go.Proofs.Ytdddehniepofmaa.Fn
namespace Go.Proofs.Ytdddehniepofmaa.Fn
open Go.AM Go.AM.Sym
set_option maxRecDepth 100000
set_option linter.unusedVariables false
set_option linter.unusedSimpArgs false
set_option maxHeartbeats 4000000

theorem KO.kx {area e lf : Nat} {safe : List Sec} {rl : LR} (h : KO area e lf safe rl) : KX area e lf safe rl :=
  ⟨h.lay, h.up, h.short, h.ne, h.cur.life, h.oth.life, other_epoch h.oth, h.e1, h.e2, h.l2, h.a1, h.sz⟩
theorem MJ.begun {lim n D S J cq h0 : Nat} {H G0 G : Heap} {ds : List Desc} {q : Option Addr} (hn4 : 4 ≤ n) (hn : n < 2 ^ 15) (hC0 : Chg [] H G0) (hJ : H.length ≤ J) (hD : H.length ≤ D) (hS : H.length ≤ S) (hL : Lies lim G0 J D S 0 1 1 1 n none 0 (safe0 n) []) (hC : Chg [] G0 G) (h0l : G0.length ≤ h0) (hA : RowsAt h0 G q cq ds (recs (areaD [] (safe0 n) 0)).1) :
    (recs (areaD [] (safe0 n) 0)).1 = [[]] ∧ ∃ R, q = some ⟨R, 0, none⟩ ∧ MJ H J D S 0 ⟨0, 1, 1, 1, none, 0, safe0 n, [], [(1, [])], []⟩ R cq ds [[]] G := by
  have hkd := KD.begun n hn4 (by omega)
  have hr : (recs (areaD [] (safe0 n) 0)).1 = [[]] := by
    rw [areaD_of, readD_nil, hkd.recs]; rfl
  rw [hr] at hA
  have hlen : ds.length = 1 := hA.len
  obtain ⟨a1, a2⟩ := hA.row 0 (by simp)
  have hC0l := hC0.len
  have hCl := hC.len
  rcases hA.own with ⟨h1, _, _⟩ | ⟨R, h1, h2, h3, h4⟩
  · rw [h1] at hlen; cases hlen
  have hJl := hget_alive hL.jl.j
  have hDl := hget_alive hL.jl.d
  have hSl := hget_alive hL.s
  refine ⟨hr, R, h1, ⟨⟨⟨[], by rw [List.append_nil]; exact h3⟩, .inl h2, by simp, hlen, fun k hk => ?_, by show H.length ≤ R; omega, ?_⟩, fun k hk a ea => ?_, fun k hk => ?_, rfl, Nat.le_refl _⟩⟩
  · have : k = 0 := by simpa using hk
    subst this
    refine ⟨a1, a2.sl encb_len, fun a ea => ?_⟩
    have k1 := (a2.block ea).1
    refine ⟨?_, hA.ap 0 (by simp) a _ ea h1, by omega⟩
    simp [blk]; omega
  · show R ∉ _
    simp [blk]; omega
  · have : k = 0 := by simpa using hk
    subst this
    exact (a2.block ea).2
  · have : k = 0 := by simpa using hk
    subst this
    show ([] : List UInt8).length < _
    simp
theorem snaps_ret {c : Nat} {y : UInt8} {sn : Stp} {m : Int} {p : Option Addr} {steps : List Stp} {H : Heap} (hs : Sl H encS 4 p steps) (hn : steps.length < 2 ^ 63) :
    Ret E a9 H.length [.code a9.body] (frame0 [.int .u8 (y.toNat : Int), .slice p steps.length c, .agg (encS sn).toArray, .int .u64 m]) (H ++ []) fun v _ => v = .bool true := by
  rw [b9, c9]
  simp only [encS]
  simp only [n9, r9, SB, Nat.reduceLT, callee, aOp, ne_eq, Nat.reduceEqDiff, aBin, aUn, if_true, if_false, reduceCtorEq, frame0, place, notTuple, Nat.reduceAdd, Nat.reduceLeDiff, resVal, dite_true, dite_false, Int.reduceEq, Int.reduceLT, Int.reduceLE]
  have hC0' : Chg [] H (H ++ [.cells false [.int .u8 (sn.a.toNat : Int), .int .u8 (sn.b.toNat : Int), .int .u8 (sn.c.toNat : Int), .int .u64 sn.m]]) := Chg.refl.app
  have hs1 := hs.app [.cells false [.int .u8 (sn.a.toNat : Int), .int .u8 (sn.b.toNat : Int), .int .u8 (sn.c.toNat : Int), .int .u64 sn.m]]
  have hB1 : hget (H ++ [.cells false [.int .u8 (sn.a.toNat : Int), .int .u8 (sn.b.toNat : Int), .int .u8 (sn.c.toNat : Int), .int .u64 sn.m]]) H.length = .cells false [.int .u8 (sn.a.toNat : Int), .int .u8 (sn.b.toNat : Int), .int .u8 (sn.c.toNat : Int), .int .u64 sn.m] := by rw [hget_new0]; rfl
  have hl1 : (H ++ [Blk.cells false [.int .u8 (sn.a.toNat : Int), .int .u8 (sn.b.toNat : Int), .int .u8 (sn.c.toNat : Int), .int .u64 sn.m]]).length = H.length + 1 := by simp
  generalize (H ++ [Blk.cells false [.int .u8 (sn.a.toNat : Int), .int .u8 (sn.b.toNat : Int), .int .u8 (sn.c.toNat : Int), .int .u64 sn.m]]) = H1 at hC0' hs1 hB1 hl1
  refine begun_ok (by omega) fun G0 J D S hC0 hJ hD hS hL => ?_
  have hyl : 4 + y.toNat % 64 < 68 := by omega
  generalize hnn : 4 + y.toNat % 64 = n at hL hyl
  have hn4 : 4 ≤ n := by omega
  have hC0l := hC0.len
  have I0 := KJ.begun (lim := H.length) hn4 (by omega) hC0 hJ hD hS hL
  refine Ret_pad ?_
  simp only [n9, r9, Bool.not_true, SB, Nat.reduceLT, callee, aOp, ne_eq, Nat.reduceEqDiff, aBin, aUn, if_true, if_false, reduceCtorEq, frame0, place, notTuple, Nat.reduceAdd, Nat.reduceLeDiff, resVal, dite_true, dite_false, Int.reduceEq, Int.reduceLT, Int.reduceLE]
  rw [List.append_nil]
  refine Records_ok hL (by rw [safe0_len]; omega) (by simp) (by omega) (by omega) fun G1 h0 q cq ds hC1 h0l hA => ?_
  obtain ⟨hr, R, rfl, M0⟩ := MJ.begun hn4 (by omega) hC0 hJ hD hS hL hC1 h0l hA
  have I1 := I0.to hC1 (by simp)
  rw [hr]
  refine Ret_pad ?_
  simp only [n9, r9, SB, Nat.reduceLT, callee, aOp, ne_eq, Nat.reduceEqDiff, aBin, aUn, if_true, if_false, reduceCtorEq, frame0, place, notTuple, Nat.reduceAdd, Nat.reduceLeDiff, resVal, dite_true, dite_false, Int.reduceEq, Int.reduceLT, Int.reduceLE]
  rw [List.append_nil]
  refine snap_loop (c := c) (m := .int .u64 m) (B6 := H.length) (p := p) (steps := steps) hs1 (by omega) hn (by omega) I1 M0 ⟨(by simp only [upd_same, upd_ne, ne_eq, Nat.reduceEqDiff, not_false_eq_true, frame0, List.getD_cons_zero, List.getD_cons_succ]), (by simp only [upd_same, upd_ne, ne_eq, Nat.reduceEqDiff, not_false_eq_true, frame0, List.getD_cons_zero, List.getD_cons_succ]), by show _ = Value.slice _ 1 _; exact (by simp only [upd_same, upd_ne, ne_eq, Nat.reduceEqDiff, not_false_eq_true, frame0, List.getD_cons_zero, List.getD_cons_succ]), by show _ = Value.int .i64 1; exact (by simp only [upd_same, upd_ne, ne_eq, Nat.reduceEqDiff, not_false_eq_true, frame0, List.getD_cons_zero, List.getD_cons_succ]), (by simp only [upd_same, upd_ne, ne_eq, Nat.reduceEqDiff, not_false_eq_true, frame0, List.getD_cons_zero, List.getD_cons_succ]), (by simp only [upd_same, upd_ne, ne_eq, Nat.reduceEqDiff, not_false_eq_true, frame0, List.getD_cons_zero, List.getD_cons_succ]), (by simp only [upd_same, upd_ne, ne_eq, Nat.reduceEqDiff, not_false_eq_true, frame0, List.getD_cons_zero, List.getD_cons_succ]), (by simp only [upd_same, upd_ne, ne_eq, Nat.reduceEqDiff, not_false_eq_true, frame0, List.getD_cons_zero, List.getD_cons_succ]), by rfl⟩ fun i s R cq ds l fr G hi I M F => ?_
  have g9 := F.f9
  have g10 := F.f10
  have g12 := F.f12
  have g13 := F.f13
  have g3 := F.f3
  have g6 := F.f6
  have hlen := I.len
  have hf := I.fits
  have hnn2 := I.nn
  have hpl := I.plen
  have a1 := I.kd.a1
  have hlf := I.lf
  have he := I.e
  have hGl := I.chg.len
  obtain ⟨lJ, lD, lS, lP⟩ := I.lives
  have hBX := fun X => (Ext.refl.app (X := X)).cells (I.chg.cells hB1 (by simp))
  have hd := I.li.jl.d
  rw [hlen] at hd
  simp only [n9, r9, g9, g10, g12, g13, g3, g6, hBX, SB, Nat.reduceLT, callee, aOp, ne_eq, Nat.reduceEqDiff, aBin, aUn, if_true, if_false, reduceCtorEq, frame0, place, notTuple, Nat.reduceAdd, Nat.reduceLeDiff, resVal, dite_true, dite_false, Int.reduceEq, Int.reduceLT, Int.reduceLE]
  rw [List.append_nil]
  refine copied_ok hd I.li.s (I.li.jl.own.sl encW_len) hlen (by omega) (by omega) (by omega) (Nat.le_refl _) fun G2 D1 S1 pp1 cp1 hC2 L1 => ?_
  have hC2l := hC2.len
  refine Ret_pad ?_
  simp only [n9, r9, g9, g10, g12, g13, g3, g6, SB, Nat.reduceLT, callee, aOp, ne_eq, Nat.reduceEqDiff, aBin, aUn, if_true, if_false, reduceCtorEq, frame0, place, notTuple, Nat.reduceAdd, Nat.reduceLeDiff, resVal, dite_true, dite_false, Int.reduceEq, Int.reduceLT, Int.reduceLE]
  rw [List.append_nil]
  refine record_ok (i := 99) (by omega) (by omega) fun G3 q3 cb b hC3 hF => ?_
  have hC3l := hC3.len
  have hC23 : Chg [] G G3 := hC2.trans hC3
  have I3 := I.to hC23 (by simp)
  have M3 := M.to hC23
  have L3 := L1.chg hC3 (by simp)
  refine Ret_pad ?_
  simp only [n9, r9, g9, g10, g12, g13, g3, g6, SB, Nat.reduceLT, callee, aOp, ne_eq, Nat.reduceEqDiff, aBin, aUn, if_true, if_false, reduceCtorEq, frame0, place, notTuple, Nat.reduceAdd, Nat.reduceLeDiff, resVal, dite_true, dite_false, Int.reduceEq, Int.reduceLT, Int.reduceLE]
  rw [List.append_nil]
  refine I3.check (by omega) (by omega) hF (fun j hj => ?_) ?_ fun s4 G4 I4 hnb hs4 hC4 => ?_
  · simp only [List.mem_cons] at hj
    rcases hj with hj | hj | hj | hj
    · omega
    · omega
    · omega
    · obtain ⟨a, e1, e2⟩ := blk_mem.1 hj
      have := lP a e1
      omega
  · refine Ret_pad ?_
    simp only [n9, r9, g9, g10, g12, g13, g3, g6, awake_ok, SB, Nat.reduceLT, callee, aOp, ne_eq, Nat.reduceEqDiff, aBin, aUn, if_true, if_false, reduceCtorEq, frame0, place, notTuple, Nat.reduceAdd, Nat.reduceLeDiff, resVal, dite_true, dite_false, Int.reduceEq, Int.reduceLT, Int.reduceLE]
  rw [hs4] at I4
  have hC4l := hC4.len
  have hav : ∀ j ∈ S :: J :: D :: blk s.pp, j < G.length := fun j hj => by
    simp only [List.mem_cons] at hj
    rcases hj with hj | hj | hj | hj
    · omega
    · omega
    · omega
    · obtain ⟨a, e1, e2⟩ := blk_mem.1 hj
      have := lP a e1
      omega
  have L4 := L3.new hC4 hav
  have li4 := I4.li
  simp only at li4
  refine Ret_pad ?_
  simp only [n9, r9, g9, g10, g12, g13, g3, g6, SB, Nat.reduceLT, callee, aOp, ne_eq, Nat.reduceEqDiff, aBin, aUn, if_true, if_false, reduceCtorEq, frame0, place, notTuple, Nat.reduceAdd, Nat.reduceLeDiff, resVal, dite_true, dite_false, Int.reduceEq, Int.reduceLT, Int.reduceLE]
  rw [List.append_nil]
  refine copied_ok L4.d L4.s L4.p.sl L4.len (by omega) (by omega) (by omega) (by omega) fun G5 D2 S2 pp2 cp2 hC5 L5 => ?_
  have hC5l := hC5.len
  refine Ret_pad ?_
  simp only [n9, r9, g9, g10, g12, g13, g3, g6, SB, Nat.reduceLT, callee, aOp, ne_eq, Nat.reduceEqDiff, aBin, aUn, if_true, if_false, reduceCtorEq, frame0, place, notTuple, Nat.reduceAdd, Nat.reduceLeDiff, resVal, dite_true, dite_false, Int.reduceEq, Int.reduceLT, Int.reduceLE]
  rw [List.append_nil]
  refine SyncD_ok L5 (by omega) (by omega) (by omega) (by omega) fun G6 hC6 L6 => ?_
  have hC6l := hC6.len
  have hD2 := L5.lD
  have hS2 := L5.lS
  have L16 := (L4.chg hC5 (by simp)).chg hC6 (fun j hj => by
    have := L4.lives
    simp only [List.mem_cons, List.not_mem_nil, or_false] at hj
    exact ⟨by omega, by omega, fun a ea => by have := this.2.2 a ea; omega⟩)
  have hC46 : Chg [] G4 G6 := hC5.trans' hC6 fun j h1 h2 => by
    simp only [List.mem_cons, List.not_mem_nil, or_false] at h1; omega
  have li6 := Chg.lies li4 hC46 (by simp)
  have hd6 := li6.jl.d
  have hV : ∃ V, V = crashed [] s.pend s.safe := ⟨_, rfl⟩
  obtain ⟨V, hV⟩ := hV
  have hCC : ∃ C, C = crashed [] (s.pend ++ wrsOf ((1 - s.area) * (n / 2)) (s.e + 1) s.lf 0 (pcs b)) s.safe := ⟨_, rfl⟩
  obtain ⟨C, hCC⟩ := hCC
  have hVl : V.length = n := by rw [hV, crashed_len, hlen]
  have hCl : C.length = n := by rw [hCC, crashed_len, hlen]
  rw [← hCC] at li6 hd6
  rw [hCl] at hd6
  rw [← hV] at L6
  have hd6X := fun X => (Ext.refl.app (X := X)).cells hd6
  have hp6X := fun X => (Ext.refl.app (X := X)).cells L6.d
  refine Ret_pad ?_
  simp only [n9, r9, g9, g10, g12, g13, g3, g6, hd6X, hp6X, SB, Nat.reduceLT, callee, aOp, ne_eq, Nat.reduceEqDiff, aBin, aUn, if_true, if_false, reduceCtorEq, frame0, place, notTuple, Nat.reduceAdd, Nat.reduceLeDiff, resVal, dite_true, dite_false, Int.reduceEq, Int.reduceLT, Int.reduceLE]
  have hL1b := L1.lives
  have hL1D := L1.lD
  have hL1S := L1.lS
  have hL1p := fun a ea => (L1.p.block a ea).1
  have hpll : s.pend.length < 2 ^ 20 := by omega
  rw [List.append_nil]
  refine snap_dif (V := V) (C := C) (P := s.pend) (h0 := G.length) hd6 li6.s L6.d L6.s L16 hCl hVl (by omega) hpll (by omega) (by omega) (fun j hj => ?_) (by simp only [g10, upd_same, upd_ne, ne_eq, Nat.reduceEqDiff, not_false_eq_true, frame0, List.getD_cons_zero, List.getD_cons_succ]) (by simp only [upd_same, upd_ne, ne_eq, Nat.reduceEqDiff, not_false_eq_true, frame0, List.getD_cons_zero, List.getD_cons_succ]) (by simp only [upd_same, upd_ne, ne_eq, Nat.reduceEqDiff, not_false_eq_true, frame0, List.getD_cons_zero, List.getD_cons_succ]) (by simp only [upd_same, upd_ne, ne_eq, Nat.reduceEqDiff, not_false_eq_true, frame0, List.getD_cons_zero, List.getD_cons_succ]) (by simp only [upd_same, upd_ne, ne_eq, Nat.reduceEqDiff, not_false_eq_true, frame0, List.getD_cons_zero, List.getD_cons_succ]) fun fr7 G7 pp7 cp7 hC7 L7 hpp7 k3 k12 k13 k17 k18 => ?_
  · simp only [List.mem_cons, List.not_mem_nil, or_false] at hj
    exact ⟨by omega, fun a ea => by have := hL1p a ea; have := hL1b.2.2 a ea; omega⟩
  have j3 : fr7 3 = .int .u64 m := k3.trans (by simp only [g3, upd_same, upd_ne, ne_eq, Nat.reduceEqDiff, not_false_eq_true, frame0, List.getD_cons_zero, List.getD_cons_succ])
  have j12 : fr7 12 = .slice (some ⟨R, 0, none⟩) l.length cq := k12.trans (by simp only [g12, upd_same, upd_ne, ne_eq, Nat.reduceEqDiff, not_false_eq_true, frame0, List.getD_cons_zero, List.getD_cons_succ])
  have j13 : fr7 13 = .int .i64 (s.rl.length : Int) := k13.trans (by simp only [g13, upd_same, upd_ne, ne_eq, Nat.reduceEqDiff, not_false_eq_true, frame0, List.getD_cons_zero, List.getD_cons_succ])
  have j17 : fr7 17 = .pointer (some ⟨D1, 0, none⟩) := k17.trans (by simp only [upd_same, upd_ne, ne_eq, Nat.reduceEqDiff, not_false_eq_true, frame0, List.getD_cons_zero, List.getD_cons_succ])
  have j18 : fr7 18 = .slice q3 b.length cb := k18.trans (by simp only [upd_same, upd_ne, ne_eq, Nat.reduceEqDiff, not_false_eq_true, frame0, List.getD_cons_zero, List.getD_cons_succ])
  clear k3 k12 k13 k17 k18
  have hC7l := hC7.len
  have hdl := dif_len (C := C) (V := V) n
  obtain ⟨W7, hW7⟩ : ∃ W, W = s.pend ++ dif C V n := ⟨_, rfl⟩
  have hW7l : W7.length < 2 ^ 21 := by rw [hW7, List.length_append]; omega
  rw [← hW7] at L7
  simp only [n9, r9, j3, j12, j13, j17, j18, SB, Nat.reduceLT, callee, aOp, ne_eq, Nat.reduceEqDiff, aBin, aUn, if_true, if_false, reduceCtorEq, frame0, place, notTuple, Nat.reduceAdd, Nat.reduceLeDiff, resVal, dite_true, dite_false, Int.reduceEq, Int.reduceLT, Int.reduceLE]
  rw [List.append_nil]
  refine copied_ok L7.d L7.s L7.p.sl L7.len (by omega) (by omega) (by omega) (by omega) fun G8 D3 S3 pp3 cp3 hC8 L8 => ?_
  have hC8l := hC8.len
  refine Ret_pad ?_
  simp only [n9, r9, j3, j12, j13, j17, j18, SB, Nat.reduceLT, callee, aOp, ne_eq, Nat.reduceEqDiff, aBin, aUn, if_true, if_false, reduceCtorEq, frame0, place, notTuple, Nat.reduceAdd, Nat.reduceLeDiff, resVal, dite_true, dite_false, Int.reduceEq, Int.reduceLT, Int.reduceLE]
  rw [List.append_nil]
  refine SyncD_ok L8 (by omega) (by omega) (by omega) (by omega) fun G9 hC9 L9 => ?_
  have hC9l := hC9.len
  have hD3 := L8.lD
  have hS3 := L8.lS
  have hfull : crashed [] W7 s.safe = C := by
    have h1 : C.length = V.length := by omega
    have := dif_full h1
    rw [hVl] at this
    rw [hW7, crashed_append, ← hV, this]
  rw [hfull] at L9
  have L19 := (L7.chg hC8 (by simp)).chg hC9 (fun j hj => by
    have := L7.lives
    simp only [List.mem_cons, List.not_mem_nil, or_false] at hj
    exact ⟨by omega, by omega, fun a ea => by have := this.2.2 a ea; omega⟩)
  have hp9X := fun X => (Ext.refl.app (X := X)).cells L19.d
  refine Ret_pad ?_
  simp only [n9, r9, j3, j12, j13, j17, j18, hp9X, SB, Nat.reduceLT, callee, aOp, ne_eq, Nat.reduceEqDiff, aBin, aUn, if_true, if_false, reduceCtorEq, frame0, place, notTuple, Nat.reduceAdd, Nat.reduceLeDiff, resVal, dite_true, dite_false, Int.reduceEq, Int.reduceLT, Int.reduceLE]
  rw [List.append_nil]
  refine lost_ok (by omega) (by omega) fun pl cl G10 hC10 hO => ?_
  have hC10l := hC10.len
  have L10 := L19.chg hC10 (by simp)
  have L310 := L9.chg hC10 (by simp)
  refine Ret_pad ?_
  simp only [n9, r9, j3, j12, j13, j17, j18, SB, Nat.reduceLT, callee, aOp, ne_eq, Nat.reduceEqDiff, aBin, aUn, if_true, if_false, reduceCtorEq, frame0, place, notTuple, Nat.reduceAdd, Nat.reduceLeDiff, resVal, dite_true, dite_false, Int.reduceEq, Int.reduceLT, Int.reduceLE]
  rw [List.append_nil]
  have hll : (lostL m W7.length).length = W7.length := lostL_len
  have hcall : ∀ Q : Value → Heap → Prop, (∀ G', Chg [S1, D1] G10 G' → DL G.length G' D1 S1 n (loose 32) none 0 (crashed (lostL m W7.length) W7 s.safe) [] → Q (.tuple #[]) G') → CallR E false H.length 13 [.pointer (some ⟨D1, 0, none⟩), .slice pl W7.length cl] G10 Q := fun Q hQ => by
    have := CrashD_ok (lim := H.length) (lc := cl) (lost := lostL m W7.length) L10 (by omega) (by omega) (by omega) (by omega) (hO.sl encB_len) (fun a ea _ => by
      have := (hO.block ea).1
      have h7 := L7.lives
      omega) (by omega) hQ
    rw [hll] at this
    exact this
  refine hcall _ fun G11 hC11 L11 => ?_
  have hC11l := hC11.len
  have h7l := L7.lives
  have L311 := L310.chg hC11 (fun j hj => by
    simp only [List.mem_cons, List.not_mem_nil, or_false] at hj
    exact ⟨by omega, by omega, fun a ea => by cases ea⟩)
  -- what is found on the disks
  have hbl : b.length < 2 ^ 20 := by have := hF.len; omega
  have hsnap := snap_crash (P := s.pend) (C := C) (V := V) (lost := lostL m W7.length) I.kd (by omega) I.hb (by rw [← hnn2, hlen]; exact hf) (by rw [hlen]; exact hnb) hbl (by rw [hlen]; exact I.pend) hV (by rw [hlen]; exact hCC)
  rw [hlen, ← hW7] at hsnap
  have hkC := (I.kd.check (b := b) (by omega) I.hb (by rw [← hnn2, hlen]; exact hf) (by rw [hlen]; exact hnb) hbl).ko.kx
  rw [hlen, ← I.pend, ← hCC] at hkC
  generalize crashed (lostL m W7.length) W7 s.safe = X at L11 hsnap
  obtain ⟨ar, er, rx, hK, hrx⟩ : ∃ ar er rx, KX ar er s.lf X rx ∧ ((∃ k, k ≤ s.bs.length ∧ rx = s.rl ++ s.bs.take k) ∨ rx = [(s.lf, b)]) := by
    rcases hsnap with ⟨k, h1, h2⟩ | h
    · exact ⟨_, _, _, h2, .inl ⟨k, h1, rfl⟩⟩
    · exact ⟨_, _, _, h, .inr rfl⟩
  refine Ret_pad ?_
  simp only [n9, r9, j3, j12, j13, j17, j18, SB, Nat.reduceLT, callee, aOp, ne_eq, Nat.reduceEqDiff, aBin, aUn, if_true, if_false, reduceCtorEq, frame0, place, notTuple, Nat.reduceAdd, Nat.reduceLeDiff, resVal, dite_true, dite_false, Int.reduceEq, Int.reduceLT, Int.reduceLE]
  rw [List.append_nil]
  refine OpenD_ok L11 (by omega) hn4 (by omega) hK (by omega) fun G12 J12 lf12 hC12 hJ12 li12 => ?_
  have hC12l := hC12.len
  have L312 := L311.chg hC12 (fun j hj => by
    simp only [List.mem_singleton] at hj
    exact ⟨by omega, by omega, fun a ea => by cases ea⟩)
  refine Ret_pad ?_
  simp only [n9, r9, j3, j12, j13, j17, j18, SB, Nat.reduceLT, callee, aOp, ne_eq, Nat.reduceEqDiff, aBin, aUn, if_true, if_false, reduceCtorEq, frame0, place, notTuple, Nat.reduceAdd, Nat.reduceLeDiff, resVal, dite_true, dite_false, Int.reduceEq, Int.reduceLT, Int.reduceLE]
  rw [List.append_nil]
  refine OpenD_ok L312 (by omega) hn4 (by omega) hkC (by omega) fun G13 J13 lf13 hC13 hJ13 li13 => ?_
  have hC13l := hC13.len
  have hlD1 := li12.jl.lD
  have hlS1 := li12.lS
  have hS1l := hget_alive li12.s
  have h310 := L310.lives
  have li12' := Chg.lies li12 hC13 (fun j hj => by
    simp only [List.mem_singleton] at hj
    exact ⟨by omega, by omega, by omega, fun a ea => by cases ea⟩)
  have hrC : (recs (areaD [] C (1 - s.area))).1 = [b] := by
    rw [areaD_of, readD_nil, hkC.opened.2.2]; rfl
  have hrX : (recs (areaD [] X ar)).1 = rx.map (·.2) := by
    rw [areaD_of, readD_nil, hK.opened.2.2]
  -- the row of the checkpoint, and the model's rows, as they were
  have hqb : ∀ a, q3 = some a → G2.length ≤ a.block ∧ a.block < G3.length := fun a ea => hF.own.block ea
  have hXn : X.length = n := L11.len
  have hC413 : Chg (S :: J :: D :: blk s.pp) G G13 := by
    have k1 : Chg (S :: J :: D :: blk s.pp) G G4 := (hC23.mono (by simp)).trans hC4
    have k2 := k1.trans' hC46 (by simp)
    have k3 := k2.trans' hC7 fun j h1 h2 => by
      simp only [List.mem_cons] at h1
      rcases h1 with h1 | h1
      · omega
      · obtain ⟨a, e1, e2⟩ := blk_mem.1 h1
        have := hL1p a e1
        omega
    have k4 := k3.trans' hC8 (by simp)
    have k5 := k4.trans' hC9 fun j h1 h2 => by simp only [List.mem_cons, List.not_mem_nil, or_false] at h1; omega
    have k6 := k5.trans' hC10 (by simp)
    have k7 := k6.trans' hC11 fun j h1 h2 => by simp only [List.mem_cons, List.not_mem_nil, or_false] at h1; omega
    have k8 := k7.trans' hC12 fun j h1 h2 => by simp only [List.mem_cons, List.not_mem_nil, or_false] at h1; omega
    exact k8.trans' hC13 fun j h1 h2 => by simp only [List.mem_cons, List.not_mem_nil, or_false] at h1; omega
  have hb13 : Sl G13 encb 1 q3 b := by
    have b3 := hF.own.sl encb_len
    have b4 := hC4.sl b3 fun a ea _ hh => by have := hqb a ea; have := hav _ hh; omega
    have b6 := hC46.sl b4 fun a ea _ => by simp
    have b7 := hC7.sl b6 fun a ea _ hh => by
      have h1 := hqb a ea
      simp only [List.mem_cons] at hh
      rcases hh with hh | hh
      · omega
      · obtain ⟨a', e1, e2⟩ := blk_mem.1 hh
        have := hL1b.2.2 a' e1
        omega
    have b8 := hC8.sl b7 fun a ea _ => by simp
    have b9 := hC9.sl b8 fun a ea _ hh => by have h1 := hqb a ea; simp only [List.mem_cons, List.not_mem_nil, or_false] at hh; omega
    have b10 := hC10.sl b9 fun a ea _ => by simp
    have b11 := hC11.sl b10 fun a ea _ hh => by have h1 := hqb a ea; simp only [List.mem_cons, List.not_mem_nil, or_false] at hh; omega
    have b12 := hC12.sl b11 fun a ea _ hh => by have h1 := hqb a ea; simp only [List.mem_cons, List.not_mem_nil, or_false] at hh; omega
    exact hC13.sl b12 fun a ea _ hh => by have h1 := hqb a ea; simp only [List.mem_cons, List.not_mem_nil, or_false] at hh; omega
  have M13 := M.mod.chg hC413 fun j hj => .inl (by
    simp only [List.mem_cons] at hj ⊢
    rcases hj with hj | hj | hj | hj
    · exact .inr (.inr (.inl hj))
    · exact .inl hj
    · exact .inr (.inl hj)
    · exact .inr (.inr (.inr hj)))
  have w00 : IntKind.i64.wrap ((0 : Int) + 0) = 0 := by decide
  refine Ret_pad ?_
  simp only [n9, r9, j3, j12, j13, j17, j18, w00, SB, Nat.reduceLT, callee, aOp, ne_eq, Nat.reduceEqDiff, aBin, aUn, if_true, if_false, reduceCtorEq, frame0, place, notTuple, Nat.reduceAdd, Nat.reduceLeDiff, resVal, dite_true, dite_false, Int.reduceEq, Int.reduceLT, Int.reduceLE]
  rw [List.append_nil]
  refine Records_ok li13 (by omega) (by simp) (by omega) (by omega) fun G14 h14 q14 c14 d14 hC14 h14l hA14 => ?_
  rw [hrC] at hA14 ⊢
  have hC14l := hC14.len
  have hrow : ∀ (G : Heap), Sl G encb 1 q3 b → RowsR (G ++ [.cells false [.slice q3 b.length cb]]) (some ⟨G.length, 0, none⟩) [(q3, b.length, cb)] [b] := fun G hs => by
    refine ⟨Sl.row encD_len (by rw [hget_new0]; rfl), rfl, fun k hk => ?_⟩
    have : k = 0 := by simpa using hk
    subst this
    exact ⟨rfl, hs.app _⟩
  have hb14 := hC14.sl hb13 (by simp)
  have hb60 := hF.len
  have hsh1 : ∀ k, k < [b].length → (gt [b] k).length < 2 ^ 60 := fun k hk => by
    have : k = 0 := by simpa using hk
    subst this
    show b.length < _
    omega
  have h36a := fun (mp : Bool) (lim : Nat) (Q : Value → Heap → Prop) => rows_ok (mp := mp) (lim := lim) (k1 := c14) (k2 := 1) (n1 := [b].length) (n2 := 1) (Q := Q) (hA14.rr.ext (Ext.refl.app (X := [.cells false [.slice q3 b.length cb]]))) (hrow G14 hb14) rfl rfl (by simp) hsh1
  simp only [List.length_cons, List.length_nil, Nat.zero_add] at h36a
  refine Ret_pad ?_
  simp only [n9, r9, j3, j12, j13, j17, j18, w00, h36a, decide_true, Bool.not_true, SB, Nat.reduceLT, callee, aOp, ne_eq, Nat.reduceEqDiff, aBin, aUn, if_true, if_false, reduceCtorEq, frame0, place, notTuple, Nat.reduceAdd, Nat.reduceLeDiff, resVal, dite_true, dite_false, Int.reduceEq, Int.reduceLT, Int.reduceLE]
  have hC14' : Chg [] G13 (G14 ++ [.cells false [.slice q3 b.length cb]]) := hC14.app
  have hb14' := hb14.app [.cells false [.slice q3 b.length cb]]
  have hl14' : G14.length ≤ (G14 ++ [Blk.cells false [.slice q3 b.length cb]]).length := by simp
  generalize (G14 ++ [Blk.cells false [.slice q3 b.length cb]]) = G15 at hC14' hb14' hl14'
  refine Records_ok (Chg.lies li12' hC14' (by simp)) (by omega) (by simp) hK.a1 (by omega) fun G16 h16 q16 c16 d16 hC16 h16l hA16 => ?_
  rw [hrX] at hA16 ⊢
  have hC16l := hC16.len
  have hb16 := hC16.sl hb14' (by simp)
  have M16 := (M13.chg hC14' (by simp)).chg hC16 (by simp)
  obtain ⟨rows, hrows⟩ : ∃ r, r = rx.map (fun x : Nat × List UInt8 => x.2) := ⟨_, rfl⟩
  rw [← hrows] at hA16 ⊢
  have hshx : ∀ k, k < rows.length → (gt rows k).length < 2 ^ 60 := fun k hk => by
    have := gt_mem hk
    rw [hrows] at this
    obtain ⟨x, hx, e⟩ := List.mem_map.1 this
    rw [hrows, ← e]
    have := hK.short x hx
    omega
  have hrlen : rows.length < 2 ^ 30 := by
    rw [hrows, List.length_map]
    have hle := M.llen
    rcases hrx with ⟨k, hk, e⟩ | e
    · rw [e, List.length_append, List.length_take]
      have : l.length = s.rl.length + s.bs.length := by rw [M.lm, List.length_map, List.length_append]
      omega
    · rw [e]; simp
  have h36b := fun (mp : Bool) (lim : Nat) (Q : Value → Heap → Prop) => rows_ok (mp := mp) (lim := lim) (k1 := c16) (k2 := 1) (n1 := rows.length) (n2 := 1) (Q := Q) (hA16.rr.ext (Ext.refl.app (X := [.cells false [.slice q3 b.length cb]]))) (hrow G16 hb16) rfl rfl (by omega) hshx
  refine Ret_pad ?_
  by_cases heq : rows = [b]
  · simp only [n9, r9, j3, j12, j13, j17, j18, w00, h36b, eq_true heq, decide_true, awake_ok, SB, Nat.reduceLT, callee, aOp, ne_eq, Nat.reduceEqDiff, aBin, aUn, if_true, if_false, reduceCtorEq, frame0, place, notTuple, Nat.reduceAdd, Nat.reduceLeDiff, resVal, dite_true, dite_false, Int.reduceEq, Int.reduceLT, Int.reduceLE]
  · obtain ⟨k, hk, e⟩ : ∃ k, k ≤ s.bs.length ∧ rx = s.rl ++ s.bs.take k := by
      rcases hrx with h | h
      · exact h
      · rw [h] at hrows; exact absurd hrows heq
    have hllen : l.length = s.rl.length + s.bs.length := by rw [M.lm, List.length_map, List.length_append]
    have hrl2 : rows.length = s.rl.length + k := by rw [hrows, e, List.length_map, List.length_append, List.length_take]; omega
    have htk : l.take (s.rl.length + k) = rows := by
      have := take_map_app (rl := s.rl) (bs := s.bs) hk
      rw [hrows, e, M.lm, ← this]
      congr 1
      rw [List.length_append, List.length_take]; omega
    have hpos : 0 < s.rl.length := List.length_pos_iff.2 I.kd.ar.ne
    have hcut := (M16.cut (k := s.rl.length + k) (by omega) (by omega)).rr
    rw [htk] at hcut
    have h36c := fun X (mp : Bool) (lim : Nat) (Q : Value → Heap → Prop) => rows_ok (mp := mp) (lim := lim) (k1 := c16) (k2 := cq) (n1 := rows.length) (n2 := rows.length) (Q := Q) (hA16.rr.ext (Ext.refl.app (X := X))) (hcut.ext (Ext.refl.app (X := X))) rfl rfl (by omega) hshx
    have hcap := M.mod.cap
    have hll12 := M.llen
    have hsl := sliceV_pre (R := R) (n := l.length) (k := rows.length) (cq := cq) (by omega) (by rcases hcap with h | ⟨h, h'⟩ <;> rw [h] <;> first | (unfold loose; omega) | omega) (by rcases hcap with h | ⟨h, _⟩; exact .inl h; exact .inr (by omega)) (by omega)
    have c1 : ((s.rl.length : Int) ≤ (rows.length : Int)) := by omega
    have c2 : ((rows.length : Int) ≤ (l.length : Int)) := by omega
    simp only [n9, r9, j3, j12, j13, j17, j18, w00, h36b, eq_false heq, decide_false, c1, c2, hsl, h36c, decide_true, awake_ok, SB, Nat.reduceLT, callee, aOp, ne_eq, Nat.reduceEqDiff, aBin, aUn, if_true, if_false, reduceCtorEq, frame0, place, notTuple, Nat.reduceAdd, Nat.reduceLeDiff, resVal, dite_true, dite_false, Int.reduceEq, Int.reduceLT, Int.reduceLE]
theorem JournalSnaps_ok {mp : Bool} {lim c : Nat} {y : UInt8} {sn : Stp} {m : Int} {p : Option Addr} {steps : List Stp} {H : Heap} {Q : Value → Heap → Prop} (hs : Sl H encS 4 p steps) (hn : steps.length < 2 ^ 63) :
    CallR E mp lim 9 [.int .u8 (y.toNat : Int), .slice p steps.length c, .agg (encS sn).toArray, .int .u64 m] H Q = Q (.bool true) H :=
  pc (by decide) e9 rfl rfl (snaps_ret hs hn)
end Go.Proofs.Ytdddehniepofmaa.Fn
