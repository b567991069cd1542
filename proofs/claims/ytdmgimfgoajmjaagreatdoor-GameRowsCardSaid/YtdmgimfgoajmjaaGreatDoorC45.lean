/- The beginning, in the program: the walk. -/
import Derived.Test.YtdmgimfgoajmjaaGreatDoorC32
import Derived.Test.YtdmgimfgoajmjaaGreatDoorC42
import Derived.Test.YtdmgimfgoajmjaaGreatDoorC07
set_option linter.unusedVariables false
set_option linter.unusedSimpArgs false
set_option maxRecDepth 100000
set_option maxHeartbeats 4000000
namespace Go.Proofs.YtdmgimfgoajmjaaGreatDoor
open Go.RowKit Go.Maps
theorem Empty_any (w : World) : Calls Tryz.prog 140 #[] w (Ret (.agg (posCells emptyP)) w) := by
 go_enter Tryz.func140, Tryz.ntmps140
 go_wp2
 exact bodyPost_ret (v := .agg (posCells emptyP)) (results_cell rfl rfl (load_pos (fr := (0, 0)) (by simp [go_sem]; rfl))) rfl ⟨rfl, (Ext.auto)⟩
theorem ib0 (w : World) : (Instr.index 187 (.agg #[.int .i64 4, .int .i64 2, .int .i64 3, .int .i64 5, .int .i64 6, .int .i64 3, .int .i64 2, .int .i64 4]) (.int .i64 0)).run Tryz.prog w = .ok (.int .i64 4) w := by kernel_rfl
theorem ib1 (w : World) : (Instr.index 187 (.agg #[.int .i64 4, .int .i64 2, .int .i64 3, .int .i64 5, .int .i64 6, .int .i64 3, .int .i64 2, .int .i64 4]) (.int .i64 1)).run Tryz.prog w = .ok (.int .i64 2) w := by kernel_rfl
theorem ib2 (w : World) : (Instr.index 187 (.agg #[.int .i64 4, .int .i64 2, .int .i64 3, .int .i64 5, .int .i64 6, .int .i64 3, .int .i64 2, .int .i64 4]) (.int .i64 2)).run Tryz.prog w = .ok (.int .i64 3) w := by kernel_rfl
theorem ib3 (w : World) : (Instr.index 187 (.agg #[.int .i64 4, .int .i64 2, .int .i64 3, .int .i64 5, .int .i64 6, .int .i64 3, .int .i64 2, .int .i64 4]) (.int .i64 3)).run Tryz.prog w = .ok (.int .i64 5) w := by kernel_rfl
theorem ib4 (w : World) : (Instr.index 187 (.agg #[.int .i64 4, .int .i64 2, .int .i64 3, .int .i64 5, .int .i64 6, .int .i64 3, .int .i64 2, .int .i64 4]) (.int .i64 4)).run Tryz.prog w = .ok (.int .i64 6) w := by kernel_rfl
theorem ib5 (w : World) : (Instr.index 187 (.agg #[.int .i64 4, .int .i64 2, .int .i64 3, .int .i64 5, .int .i64 6, .int .i64 3, .int .i64 2, .int .i64 4]) (.int .i64 5)).run Tryz.prog w = .ok (.int .i64 3) w := by kernel_rfl
theorem ib6 (w : World) : (Instr.index 187 (.agg #[.int .i64 4, .int .i64 2, .int .i64 3, .int .i64 5, .int .i64 6, .int .i64 3, .int .i64 2, .int .i64 4]) (.int .i64 6)).run Tryz.prog w = .ok (.int .i64 2) w := by kernel_rfl
theorem ib7 (w : World) : (Instr.index 187 (.agg #[.int .i64 4, .int .i64 2, .int .i64 3, .int .i64 5, .int .i64 6, .int .i64 3, .int .i64 2, .int .i64 4]) (.int .i64 7)).run Tryz.prog w = .ok (.int .i64 4) w := by kernel_rfl
theorem index_back {f : Nat} (h : f < 8) (w : World) : (Instr.index 187 (.agg #[.int .i64 4, .int .i64 2, .int .i64 3, .int .i64 5, .int .i64 6, .int .i64 3, .int .i64 2, .int .i64 4]) (.int .i64 f)).run Tryz.prog w = .ok (.int .i64 (backK f)) w := by
 match f, h with
 | 0, _ => exact ib0 w
 | 1, _ => exact ib1 w
 | 2, _ => exact ib2 w
 | 3, _ => exact ib3 w
 | 4, _ => exact ib4 w
 | 5, _ => exact ib5 w
 | 6, _ => exact ib6 w
 | 7, _ => exact ib7 w
abbrev MSst.T (p : Pos) (g n : Nat) (a b : Int) (w W : World) : Prop := Ext w W ∧ blk W g = some (.cells (posCells p) 30 (0, 0)) ∧ blk W n = some (.cells #[.int .i64 a, .int .i64 b] 26 (0, 0)) ∧ W.cell? ⟨n, 0, none⟩ = some (.int .i64 a) ∧ W.cell? ⟨n, 1, none⟩ = some (.int .i64 b)
def MSst (p : Pos) (g n : Nat) (a b : Int) (w W : World) : Prop := MSst.T p g n a b w W
theorem MSst.u {p g n a b w} (W) (h : MSst p g n a b w W) : MSst.T p g n a b w W := h
theorem MSst.mk' {p : Pos} {g n : Nat} {a b : Int} {w W : World} (h : Ext w W) (h1 : blk W g = some (.cells (posCells p) 30 (0, 0))) (h2 : blk W n = some (.cells #[.int .i64 a, .int .i64 b] 26 (0, 0))) : MSst p g n a b w W := ⟨h, h1, h2, blk_cell h2 0, blk_cell h2 1⟩
theorem MSst.ext {p : Pos} {g n : Nat} {a b : Int} {w W W' : World} (h : MSst p g n a b w W) (hx : Ext W W') : MSst p g n a b w W' := MSst.mk' (h.1.trans hx) ((hx.blk _ (blk_lt h.2.1)).trans h.2.1) ((hx.blk _ (blk_lt h.2.2.1)).trans h.2.2.1)
theorem Start_any (w : World) : Calls Tryz.prog 93 #[] w (Ret (.agg (posCells startP)) w) := by
 have hmm := @run_makeMap Tryz.prog
 have HMM := hid hmm
 clear hmm
 go_enter Tryz.func93, Tryz.ntmps93
 go_upto_region 2 with (go_at_call 140; (with_reducible refine (Empty_any _).mono ?_); rintro e w1 ⟨rfl, hx⟩)
 have hEw : Ext w (w1.alloc (.cells (posCells emptyP) 30)) := Ext.trans (Ext.trans (Ext.auto) hx) (Ext.alloc (Ext.refl _) _)
 have hz1 : blk (w1.alloc (.cells (posCells emptyP) 30)) w.heap.size = some (.cells (posCells Pos.zero) 30 (0, 0)) := by
  have h1 : blk w1 w.heap.size = some (.cells (posCells Pos.zero) 30 (0, 0)) := (hx.blk _ (by simp)).trans (by simp [go_sem])
  exact (blk_alloc_past _ _ _ (blk_lt h1)).trans h1
 have hg1 : blk (w1.alloc (.cells (posCells emptyP) 30)) w1.heap.size = some (.cells (posCells emptyP) 30 (0, 0)) := blk_alloc_at _ _ _ rfl
 have lz : w.heap.size < w1.heap.size := by have := hx.le; simp at this; omega
 refine world_cut (fun W => Ext w W ∧ blk W w.heap.size = some (.cells (posCells Pos.zero) 30 (0, 0)) ∧ blk W w1.heap.size = some (.cells (posCells emptyP) 30 (0, 0))) ⟨hEw, hz1, hg1⟩ ?_
 clear hEw hz1 hg1 hx
 rintro W2 ⟨hE2, hz2, hg2⟩
 generalize w1.heap.size = g at *
 go_wp2
 go_loopw [8] (fun i wr => ∃ k : Nat, i = .int .i64 k ∧ k ≤ 8 ∧ Ext w wr ∧ blk wr w.heap.size = some (.cells (posCells Pos.zero) 30 (0, 0)) ∧ blk wr g = some (.cells (posCells (startUp k)) 30 (0, 0))) (fun i _ => 8 - (intOf i).toNat)
 case atStart => exact ⟨0, rfl, by omega, hE2, hz2, hg2⟩
 case round =>
  obtain ⟨k, rfl, hk, hEr, hzr, hgr⟩ := hrel
  clear hE2 hz2 hg2
  by_cases hlt : k < 8
  ·have hib := index_back hlt
   have hm0 := HMM.out
   obtain ⟨W1, r1, o1, g1⟩ := (World.ownsMap_made wr Tryz.prog 3 pcE).update lawI und_pm (by decide) (key := .int .i64 0) (val := .agg #[.int .i64 (backK k), .int .i64 0]) (kl := .int .i64 0) rfl (pcE_mk _ _)
   obtain ⟨W2, r2, o2, g2⟩ := o1.update lawI und_pm (by decide) (key := .int .i64 1) (val := .agg #[.int .i64 1, .int .i64 0]) (kl := .int .i64 1) rfl (pcE_mk _ _)
   obtain ⟨W3, r3, o3, g3⟩ := o2.update lawI und_pm (by decide) (key := .int .i64 6) (val := .agg #[.int .i64 1, .int .i64 1]) (kl := .int .i64 6) rfl (pcE_mk _ _)
   obtain ⟨W4, r4, o4, g4⟩ := o3.update lawI und_pm (by decide) (key := .int .i64 7) (val := .agg #[.int .i64 (backK k), .int .i64 1]) (kl := .int .i64 7) rfl (pcE_mk _ _)
   have o4' : W4.ownsMap Tryz.prog 3 pcE wr.heap.size 4 (pcD (backK k)) := o4
   have hx4 : Ext wr W4 := by
    have hx0 : Ext wr (wr.alloc (.map #[] 0)) := Ext.alloc (Ext.refl _) _
    have s : ∀ {a b : World}, Ext wr a → a.grownBy b (some wr.heap.size) → Ext wr b := fun {a b} h g => ⟨g.os.trans h.os, g.tape.trans h.tape, g.output.trans h.output, Nat.le_trans h.le g.size, fun j hj => (g.block j (Nat.lt_of_lt_of_le hj h.le) (fun e => by have := Option.some.inj e; omega)).trans (h.blk j hj)⟩
    exact s (s (s (s hx0 g1) g2) g3) g4
   have hg4 := (hx4.blk _ (blk_lt hgr)).trans hgr
   have hz4 := (hx4.blk _ (blk_lt hzr)).trans hzr
   have hE4 := hEr.trans hx4
   have hl4 := o4'.lt
   have hgl := blk_lt hgr
   clear o1 o2 o3 o4 g1 g2 g3 g4
   generalize hbk : backK k = bk at *
   have HBK := hid hbk
   clear hbk
   go_wp2_with (first
    | (at_range; refine wpList_range_own _ rfl _ 188 rfl 3 26 lawI und_pm pcE wr.heap.size 4 (pcD bk) rfl o4' ?_; intro w0 hrg0 hg0 hs0)
    | go_in)
   have hk8 : k < 8 := hlt
   clear hlt
   go_frame
   simp only [show decide ((k : Int) < 8) = true by simp; omega]
   go_loopw [4] (fun _ wr' => ∃ (left : Lit → Bool) (cnt : Nat), wr'.ranges Tryz.prog 3 pcE wr.heap.size W4.heap.size 4 (pcD bk) left cnt ∧ (∀ kl, left kl = true → has (pcD bk) kl = true) ∧ Ext w wr' ∧ blk wr' w.heap.size = some (.cells (posCells Pos.zero) 30 (0, 0)) ∧ blk wr' g = some (.cells (posCells (bd k bk (left (.int .i64 0)) (left (.int .i64 1)) (left (.int .i64 6)) (left (.int .i64 7)) (startUp k))) 30 (0, 0))) (fun _ wr' => wr'.rangeLeft wr.heap.size W4.heap.size)
   case atStart =>
    have hx5 : Ext W4 w0 := ⟨hg0.os, hg0.tape, hg0.output, hg0.size, fun j hj => hg0.block j hj (by simp)⟩
    obtain ⟨d0, d1, d6, d7⟩ := pcD_all bk
    refine ⟨_, _, hrg0, fun _ h => h, hE4.trans hx5, (hx5.blk _ (blk_lt hz4)).trans hz4, ?_⟩
    rw [d0, d1, d6, d7]
    exact (hx5.blk _ (blk_lt hg4)).trans hg4
   case round =>
    obtain ⟨left, cnt, hrg, hsub, hEi, hzi, hgi⟩ := hrel
    clear hg0 hs0 hrg0 hzr hgr hEr hg4 hz4 hE4
    have HS := hid hsub
    clear hsub
    go_wp2_with (first
     | (at_next; go_loud (refine wpList_next_ranges _ rfl _ rfl 3 lawI pcE (Value.int .i64) (fun c : Int × Int => .agg #[.int .i64 c.1, .int .i64 c.2]) (fun key kl hkey => by obtain ⟨x, rfl, _⟩ := Maps.keyOf_int_inv Tryz.underlying3 hkey; exact ⟨x, rfl⟩) (fun v y hv => pcE_inv hv) _ _ 4 _ _ _ rfl hrg ?_ ?_))
     | go_in)
    ·intro hz0 hl0
     rw [hl0, hl0, hl0, hl0, ← HBK.out, bd_none] at hgi
     go_wp2
     go_roundw
     case rel => exact ⟨k + 1, by go_num, by omega, hEi, hzi, hgi⟩
     case measure => simp [intOf]; omega
    ·intro x ca cb kl yd yl w2 cnt2 hkey hlk hv hat hrg2 hlt2 hg2 hs2 hen
     obtain ⟨x', ex, rfl, -⟩ := Maps.keyOf_int_inv Tryz.underlying3 hkey
     obtain rfl : x' = x := by injection ex with _ h; exact h.symm
     clear ex hkey hs2
     have hx8 := pcD_has _ _ (HS.out _ hlk)
     have hst := bd_step (p := startUp k) hk8 (by rw [HBK.out]; exact HS.out _ hlk) hlk hv (by rw [HBK.out]; exact hat)
     rw [HBK.out] at hst
     have HST := hid hst
     have HX := hid hx8
     clear hst hv hat
     have hAT : ∀ W, Calls Tryz.prog 141 #[.int .i64 k, .int .i64 x'] W (Ret (.int .i64 (x' * 8 + k)) W) := fun W => by
      have h := At_any k x' W (by omega) (by omega) (by omega) (by omega)
      rwa [show numOf k x' = x' * 8 + k by unfold numOf; rw [if_pos (by omega)]] at h
     have t0 : 0 ≤ x' * 8 + (k : Int) := by omega
     have t1 : x' * 8 + (k : Int) < 64 := by omega
     generalize ht : x' * 8 + (k : Int) = t at *
     have HT := hid ht
     clear ht hx8
     generalize hp : bd k bk (left (.int .i64 0)) (left (.int .i64 1)) (left (.int .i64 6)) (left (.int .i64 7)) (startUp k) = p at *
     have HP := hid hp
     clear hp
     have hE7 : Ext w w2 := ⟨hg2.os.trans hEi.os, hg2.tape.trans hEi.tape, hg2.output.trans hEi.output, Nat.le_trans hEi.le hg2.size, fun j hj => (hg2.block j (Nat.lt_of_lt_of_le hj hEi.le) (fun e => by have := Option.some.inj e; omega)).trans (hEi.blk j hj)⟩
     have hz7 : blk w2 w.heap.size = some (.cells (posCells Pos.zero) 30 (0, 0)) := (hg2.block _ (blk_lt hzi) (fun e => by have := Option.some.inj e; omega)).trans hzi
     have hg7 : blk w2 g = some (.cells (posCells p) 30 (0, 0)) := (hg2.block _ (blk_lt hgi) (fun e => by have := Option.some.inj e; omega)).trans hgi
     clear hgi hzi hEi
     go_wp2
     have hM0 : MSst p g w2.heap.size ca cb w2 (w2.alloc (.cells #[.int .i64 ca, .int .i64 cb] 26)) := MSst.mk' (Ext.alloc (Ext.refl _) _) ((blk_alloc_past _ _ _ (blk_lt hg7)).trans hg7) (blk_alloc_at _ _ _ rfl)
     refine wp_region_split 6 (MSst p g w2.heap.size ca cb w2) (by kernel_rfl) (by kernel_rfl) (hM0.ext (Ext.refl _).drew) (fun hH => ?_)
     simp only [List.take_succ_cons, List.take_zero, List.drop_succ_cons, List.drop_zero]
     refine hTz MSst.u 0 ?_; (try go_frame)
     refine hTz MSst.u 1 ?_; (try go_frame)
     refine hTz MSst.u 3 ?_; (try go_frame)
     refine hTz MSst.u 4 ?_; (try go_frame)
     refine hRy [2] (hCp (fun K hK => ?_) AllReadyH.nil); go_simp
     refine (hAT _).mono ?_
     rintro e w3 ⟨rfl, hx3⟩
     refine hK.out _ _ (hH.ext (by assumption)) (fun hH => ?_); clear hK; (try go_frame)
     refine hTz MSst.u 5 ?_; (try go_frame)
     refine wpAnyH_done (by kernel_rfl) ?_ _
     simp only [splitQ]
     have hE8 := hH.1
     have hg8 := hH.2.1
     have fz8 := blk_froz hg8
     have lg8 := blk_lt hg8
     have hc8 : ∀ o, w3.cell? ⟨g, o, none⟩ = (posCells p)[o]? := fun o => cell_of_row w3 g o _ _ _ hg8
     have d0 := hc8 (t.toNat * 2)
     have d1 := hc8 (t.toNat * 2 + 1)
     rw [Array.getElem?_eq_getElem (by rw [posCells_size]; omega)] at d0 d1
     have hC8 : Chg g w2 ((w3.setCell ⟨g, t.toNat * 2, none⟩ (.int .i64 ca)).setCell ⟨g, t.toNat * 2 + 1, none⟩ (.int .i64 cb)) := ((Chg.ext hE8).set (p := ⟨g, t.toNat * 2, none⟩) rfl _).set (p := ⟨g, t.toNat * 2 + 1, none⟩) rfl _
     have HRG := hid (hrg2.kept hC8 (fun e => by have := Option.some.inj e; omega) (fun e => by have := Option.some.inj e; omega))
     have hE9 : Ext w ((w3.setCell ⟨g, t.toNat * 2, none⟩ (.int .i64 ca)).setCell ⟨g, t.toNat * 2 + 1, none⟩ (.int .i64 cb)) := (((hE7.trans hE8).set (show w.heap.size ≤ g by omega) _).set (show w.heap.size ≤ g by omega) _)
     have HZ := hid ((hC8.block w.heap.size (blk_lt hz7) (fun e => by have := Option.some.inj e; omega)).trans hz7)
     have HG := hid ((put_pos (x := ca) (y := cb) hg8 t0 t1).trans (congrArg (fun q : Pos => some (Obj.cells (posCells q) 30 (0, 0))) HST.out))
     clear hM0 hH hg7 hc8 hC8 hz7 hE7
     go_wp2
     go_roundw
     case rel =>
      exact ⟨_, cnt2, HRG.out, fun kl h => HS.out kl (by simp at h; exact h.1), hE9, HZ.out, HG.out⟩
     case measure => rw [HRG.out.left_eq, hrg.left_eq]; exact hlt2
  ·obtain rfl : k = 8 := by omega
   have hc : wr.cell? ⟨g, 129, none⟩ = _ := cell_of_row wr g 129 _ _ _ hgr
   have fz := blk_froz hgr
   have lg := blk_lt hgr
   have lz0 := blk_lt hzr
   have hbC : blk (wr.setCell ⟨g, 129, none⟩ (.int .i64 15)) g = some (.cells (posCells startP) 30 (0, 0)) := by rw [blk_setCell_same _ _ _ _ _ _ hgr, pos_castle]; rfl
   have hzC : blk (wr.setCell ⟨g, 129, none⟩ (.int .i64 15)) w.heap.size = some (.cells (posCells Pos.zero) 30 (0, 0)) := by rw [blk_setCell_past _ _ _ _ (by show w.heap.size ≠ g; omega)]; exact hzr
   have hxC : Ext w (wr.setCell ⟨g, 129, none⟩ (.int .i64 15)) := hEr.set (by show w.heap.size ≤ g; omega) _
   go_wp2
   exact bodyPost_ret (v := .agg (posCells startP)) (results_cell rfl rfl (load_pos (setRow_blk hzC))) rfl ⟨rfl, hxC.setRow (Nat.le_refl _) _⟩
end Go.Proofs.YtdmgimfgoajmjaaGreatDoor
