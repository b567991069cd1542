/- The empty board; the beginning, in the document's answer. -/
import Derived.Test.YtdmgimfgoajmjaaGreatDoorC38
import Derived.Test.YtdmgimfgoajmjaaGreatDoorC21
set_option linter.unusedVariables false
set_option linter.unusedSimpArgs false
namespace Go.Proofs.YtdmgimfgoajmjaaGreatDoor
open Go.RowKit
def emptyP : Pos := { Pos.zero with over := -1, full := 1 }
theorem emptyP_cells : posCells emptyP = ((Array.replicate 133 (Value.int .i64 0)).setIfInBounds 130 (.int .i64 (-1))).setIfInBounds 132 (.int .i64 1) := by
  rw [← zeroCells_eq, pos_over, pos_full]; rfl
theorem built_over_full : Tryz.prog.built 30 [(3, .int .i64 (-1)), (5, .int .i64 1)] = some (((Array.replicate 133 (Value.int .i64 0)).setIfInBounds 130 (.int .i64 (-1))).setIfInBounds 132 (.int .i64 1)) := by
  kernel_rfl
set_option maxRecDepth 100000 in
@[go_sem ↓] theorem build35_api_Position (a : Act) (dst : Option Tmp) (ty : TypeId) (pos : String) (af : Array Edge) (g : Option (Nat × Bool)) (w : World)
    :
    (execOp a.eval ⟨dst, .build 30 #[(3, .const (.int .i64 (-1))), (5, .const (.int .i64 1))], ty, pos, af, g⟩).run Tryz.prog w = .ok (.value (.agg (posCells emptyP))) w := by
  have hb : Tryz.prog.built 30 ((#[(3, .const (.int .i64 (-1))), (5, .const (.int .i64 1))] : Array (Nat × Operand)).map fun (i, x) => (i, a.eval x)).toList = some (posCells emptyP) := by
    have e : ((#[(3, .const (.int .i64 (-1))), (5, .const (.int .i64 1))] : Array (Nat × Operand)).map fun (i, x) => (i, a.eval x)).toList = [(3, .int .i64 (-1)), (5, .int .i64 1)] := by simp [Act.eval]
    rw [e, emptyP_cells]
    exact built_over_full
  simp only [execOp, Sem.run_bind, run_build w _ _ _ hb]
  rfl
set_option maxRecDepth 100000 in
set_option maxHeartbeats 2000000 in
theorem rEmpty_any (w : World) : Calls Tryz.prog 25 #[] w (Ret (.agg (posCells emptyP)) w) := by
  go_enter Tryz.func25, Tryz.ntmps25
  go_wp2
  exact bodyPost_ret (v := .agg (posCells emptyP)) (results_cell rfl rfl (load_pos (fr := (0, 0)) (by simp [go_sem]; rfl))) rfl ⟨rfl, (Ext.auto)⟩
def backK (k : Nat) : Int := [4, 2, 3, 5, 6, 3, 2, 4].getD k 0
def startUp : Nat → Pos
  | 0 => emptyP
  | k + 1 => ((((startUp k).put k (backK k) 0).put (8 + k : Int) 1 0).put (48 + k : Int) 1 1).put (56 + k : Int) (backK k) 1
def startP : Pos := { startUp 8 with castle := 15 }
theorem put2 {w : World} {g : Nat} {Q : Pos} {t : Nat} {a b : Int} {T : TypeId} (ht : t < 64) (h : blk w g = some (.cells (posCells Q) T (0, 0))) :
    blk ((w.setCell ⟨g, t * 2, none⟩ (.int .i64 a)).setCell ⟨g, t * 2 + 1, none⟩ (.int .i64 b)) g = some (.cells (posCells (Q.put (t : Int) a b)) T (0, 0)) := by
  have e := pos_put Q (t : Int) a b (by omega) (by omega)
  rw [show ((t : Int)).toNat = t by omega] at e
  rw [blk_setCell_same _ _ _ _ _ _ (blk_setCell_same _ _ _ _ _ _ h), e]
theorem start_step (k : Nat) (hk : k < 8) {w wr : World} {g : Nat} {T T2 : TypeId} {c0 c2 : Array Value} (lz : w.heap.size < g) (hxr : Ext w wr) (hb0 : blk wr w.heap.size = some (.cells c0 T (0, 0))) (hb1 : blk wr g = some (.cells (posCells (startUp k)) T (0, 0)))
    (hb2 : blk wr (g + 1) = some (.cells c2 T2 (0, 0))) :
    let W := (((((((wr.setCell ⟨g, k * 2, none⟩ (.int .i64 (backK k))).setCell ⟨g, k * 2 + 1, none⟩ (.int .i64 0)).setCell ⟨g, (8 + k) * 2, none⟩ (.int .i64 1)).setCell ⟨g, (8 + k) * 2 + 1, none⟩ (.int .i64 0)).setCell ⟨g, (48 + k) * 2, none⟩ (.int .i64 1)).setCell ⟨g, (48 + k) * 2 + 1, none⟩ (.int .i64 1)).setCell ⟨g, (56 + k) * 2, none⟩ (.int .i64 (backK k))).setCell ⟨g, (56 + k) * 2 + 1, none⟩ (.int .i64 1)
    Ext w W ∧ blk W w.heap.size = some (.cells c0 T (0, 0)) ∧ blk W g = some (.cells (posCells (startUp (k + 1))) T (0, 0)) ∧ blk W (g + 1) = some (.cells c2 T2 (0, 0)) := by
  intro W
  refine ⟨(((((((hxr.set (by show w.heap.size ≤ g; omega) _).set (by show w.heap.size ≤ g; omega) _).set (by show w.heap.size ≤ g; omega) _).set (by show w.heap.size ≤ g; omega) _).set (by show w.heap.size ≤ g; omega) _).set (by show w.heap.size ≤ g; omega) _).set (by show w.heap.size ≤ g; omega) _).set (by show w.heap.size ≤ g; omega) _, ?_, put2 (t := 56 + k) (by omega) (put2 (t := 48 + k) (by omega) (put2 (t := 8 + k) (by omega) (put2 (by omega) hb1))), ?_⟩
  · simp only [W]
    repeat rw [blk_setCell_past _ _ _ _ (by show w.heap.size ≠ g; omega)]
    exact hb0
  · simp only [W]
    repeat rw [blk_setCell_past _ _ _ _ (by show g + 1 ≠ g; omega)]
    exact hb2
set_option maxRecDepth 100000 in
set_option maxHeartbeats 1000000 in
theorem rStart_any (w : World) : Calls Tryz.prog 26 #[] w (Ret (.agg (posCells startP)) w) := by
  go_enter Tryz.func26, Tryz.ntmps26
  go_upto_region 3 with (go_at_call 25; (with_reducible refine (rEmpty_any _).mono ?_); rintro e w1 ⟨rfl, hx⟩)
  have hEw : Ext w w1 := (Ext.auto)
  have hz1 : blk w1 w.heap.size = some (.cells (posCells Pos.zero) 30 (0, 0)) := (hx.blk _ (by simp)).trans (by simp [go_sem])
  clear hx
  generalize hg : w1.heap.size = g at *
  have lz : w.heap.size < g := by rw [← hg]; exact blk_lt hz1
  go_wp2
  go_loopw [3] (fun i wr => ∃ k : Nat, i = .int .i64 k ∧ k ≤ 8 ∧ Ext w wr ∧ blk wr w.heap.size = some (.cells (posCells Pos.zero) 30 (0, 0)) ∧ blk wr g = some (.cells (posCells (startUp k)) 30 (0, 0)) ∧ blk wr (g + 1) = some (.cells #[.int .i64 4, .int .i64 2, .int .i64 3, .int .i64 5, .int .i64 6, .int .i64 3, .int .i64 2, .int .i64 4] 23 (0, 0))) (fun i _ => 8 - (intOf i).toNat)
  case atStart => exact ⟨0, rfl, by omega, hEw.trans ((Ext.alloc (Ext.refl _) _).trans (Ext.alloc (Ext.refl _) _)), (((Ext.alloc (Ext.refl _) _).trans (Ext.alloc (Ext.refl _) _)).blk _ (by omega)).trans hz1, by simp [go_sem, hg, startUp], by simp [go_sem, hg]⟩
  case round =>
    obtain ⟨k, rfl, hk, hxr, hb0, hb1, hb2⟩ := hrel
    by_cases hlt : k < 8
    · have hc : ∀ o, wr.cell? ⟨g, o, none⟩ = (posCells (startUp k))[o]? := fun o => cell_of_row wr g o _ _ _ hb1
      have hd := blk_cell hb2
      have fz := blk_froz hb1
      have lg := blk_lt hb1
      have hk8 : k = 0 ∨ k = 1 ∨ k = 2 ∨ k = 3 ∨ k = 4 ∨ k = 5 ∨ k = 6 ∨ k = 7 := by omega
      rcases hk8 with rfl | rfl | rfl | rfl | rfl | rfl | rfl | rfl
      · go_wp2
        go_roundw
        case rel =>
          have h := start_step 0 (by omega) lz hxr hb0 hb1 hb2
          simp only [Nat.reduceMul, Nat.reduceAdd, Nat.zero_mul, Nat.add_zero, Nat.zero_add, backK, List.getD_cons_zero, List.getD_cons_succ] at h
          exact ⟨1, rfl, by omega, h⟩
        case measure => simp [intOf]
      · go_wp2
        go_roundw
        case rel =>
          have h := start_step 1 (by omega) lz hxr hb0 hb1 hb2
          simp only [Nat.reduceMul, Nat.reduceAdd, Nat.zero_mul, Nat.add_zero, Nat.zero_add, backK, List.getD_cons_zero, List.getD_cons_succ] at h
          exact ⟨2, rfl, by omega, h⟩
        case measure => simp [intOf]
      · go_wp2
        go_roundw
        case rel =>
          have h := start_step 2 (by omega) lz hxr hb0 hb1 hb2
          simp only [Nat.reduceMul, Nat.reduceAdd, Nat.zero_mul, Nat.add_zero, Nat.zero_add, backK, List.getD_cons_zero, List.getD_cons_succ] at h
          exact ⟨3, rfl, by omega, h⟩
        case measure => simp [intOf]
      · go_wp2
        go_roundw
        case rel =>
          have h := start_step 3 (by omega) lz hxr hb0 hb1 hb2
          simp only [Nat.reduceMul, Nat.reduceAdd, Nat.zero_mul, Nat.add_zero, Nat.zero_add, backK, List.getD_cons_zero, List.getD_cons_succ] at h
          exact ⟨4, rfl, by omega, h⟩
        case measure => simp [intOf]
      · go_wp2
        go_roundw
        case rel =>
          have h := start_step 4 (by omega) lz hxr hb0 hb1 hb2
          simp only [Nat.reduceMul, Nat.reduceAdd, Nat.zero_mul, Nat.add_zero, Nat.zero_add, backK, List.getD_cons_zero, List.getD_cons_succ] at h
          exact ⟨5, rfl, by omega, h⟩
        case measure => simp [intOf]
      · go_wp2
        go_roundw
        case rel =>
          have h := start_step 5 (by omega) lz hxr hb0 hb1 hb2
          simp only [Nat.reduceMul, Nat.reduceAdd, Nat.zero_mul, Nat.add_zero, Nat.zero_add, backK, List.getD_cons_zero, List.getD_cons_succ] at h
          exact ⟨6, rfl, by omega, h⟩
        case measure => simp [intOf]
      · go_wp2
        go_roundw
        case rel =>
          have h := start_step 6 (by omega) lz hxr hb0 hb1 hb2
          simp only [Nat.reduceMul, Nat.reduceAdd, Nat.zero_mul, Nat.add_zero, Nat.zero_add, backK, List.getD_cons_zero, List.getD_cons_succ] at h
          exact ⟨7, rfl, by omega, h⟩
        case measure => simp [intOf]
      · go_wp2
        go_roundw
        case rel =>
          have h := start_step 7 (by omega) lz hxr hb0 hb1 hb2
          simp only [Nat.reduceMul, Nat.reduceAdd, Nat.zero_mul, Nat.add_zero, Nat.zero_add, backK, List.getD_cons_zero, List.getD_cons_succ] at h
          exact ⟨8, rfl, by omega, h⟩
        case measure => simp [intOf]
    · obtain rfl : k = 8 := by omega
      have hc : ∀ o, wr.cell? ⟨g, o, none⟩ = (posCells (startUp 8))[o]? := fun o => cell_of_row wr g o _ _ _ hb1
      have fz := blk_froz hb1
      have lg := blk_lt hb1
      have lz0 := blk_lt hb0
      have e0 := hc 130
      have hbC : blk (wr.setCell ⟨g, 129, none⟩ (.int .i64 15)) g = some (.cells (posCells startP) 30 (0, 0)) := by rw [blk_setCell_same _ _ _ _ _ _ hb1, pos_castle]; rfl
      have hzC : blk (wr.setCell ⟨g, 129, none⟩ (.int .i64 15)) w.heap.size = some (.cells (posCells Pos.zero) 30 (0, 0)) := by rw [blk_setCell_past _ _ _ _ (by show w.heap.size ≠ g; omega)]; exact hb0
      have hxC : Ext w (wr.setCell ⟨g, 129, none⟩ (.int .i64 15)) := hxr.set (by show w.heap.size ≤ g; omega) _
      go_wp2
      exact bodyPost_ret (v := .agg (posCells startP)) (results_cell rfl rfl (load_pos (setRow_blk hzC))) rfl ⟨rfl, hxC.setRow (Nat.le_refl _) _⟩
end Go.Proofs.YtdmgimfgoajmjaaGreatDoor
