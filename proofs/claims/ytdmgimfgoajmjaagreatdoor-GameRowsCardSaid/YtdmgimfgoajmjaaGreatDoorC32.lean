/- The empty board; the beginning, in the document's answer. -/
import Derived.Test.YtdmgimfgoajmjaaGreatDoorC28
import Derived.Test.YtdmgimfgoajmjaaGreatDoorC18
import Derived.Test.YtdmgimfgoajmjaaGreatDoorC30
import Derived.Test.YtdmgimfgoajmjaaGreatDoorC31
set_option linter.unusedVariables false
set_option linter.unusedSimpArgs false
set_option maxRecDepth 100000
set_option maxHeartbeats 2000000
namespace Go.Proofs.YtdmgimfgoajmjaaGreatDoor
open Go.RowKit
def emptyP : Pos := { Pos.zero with over := -1, full := 1 }
theorem emptyP_cells : posCells emptyP = ((Array.replicate 133 (Value.int .i64 0)).setIfInBounds 130 (.int .i64 (-1))).setIfInBounds 132 (.int .i64 1) := by
 rw [← zeroCells_eq, pos_over, pos_full]; rfl
theorem built_over_full : Tryz.prog.built 30 [(3, .int .i64 (-1)), (5, .int .i64 1)] = some (((Array.replicate 133 (Value.int .i64 0)).setIfInBounds 130 (.int .i64 (-1))).setIfInBounds 132 (.int .i64 1)) := by
 kernel_rfl
@[go_sem ↓] theorem build35_api_Position (a : Act) (dst : Option Tmp) (ty : TypeId) (pos : String) (af : Array Edge) (g : Option (Nat × Bool)) (w : World)
 :
 (execOp a.eval ⟨dst, .build 30 #[(3, .const (.int .i64 (-1))), (5, .const (.int .i64 1))], ty, pos, af, g⟩).run Tryz.prog w = .ok (.value (.agg (posCells emptyP))) w := by
  have hb : Tryz.prog.built 30 ((#[(3, .const (.int .i64 (-1))), (5, .const (.int .i64 1))] : Array (Nat × Operand)).map fun (i, x) => (i, a.eval x)).toList = some (posCells emptyP) := by
   have e : ((#[(3, .const (.int .i64 (-1))), (5, .const (.int .i64 1))] : Array (Nat × Operand)).map fun (i, x) => (i, a.eval x)).toList = [(3, .int .i64 (-1)), (5, .int .i64 1)] := by simp [Act.eval]
   rw [e, emptyP_cells]
   exact built_over_full
  simp only [execOp, Sem.run_bind, run_build w _ _ _ hb]
  rfl
theorem rEmpty_any (w : World) : Calls Tryz.prog 25 #[] w (Ret (.agg (posCells emptyP)) w) := by
 go_enter Tryz.func25, Tryz.ntmps25
 go_wp2
 exact bodyPost_ret (v := .agg (posCells emptyP)) (results_cell rfl rfl (load_pos (fr := (0, 0)) (by simp [go_sem]; rfl))) rfl ⟨rfl, (Ext.auto)⟩
def backK (k : Nat) : Int := [4, 2, 3, 5, 6, 3, 2, 4].getD k 0
def startUp : Nat → Pos
 | 0 => emptyP
 | k + 1 => ((((startUp k).put k (backK k) 0).put (8 + k : Int) 1 0).put (48 + k : Int) 1 1).put (56 + k : Int) (backK k) 1
def startP : Pos := { startUp 8 with castle := 15 }
theorem put2 {w : World} {g : Nat} {Q : Pos} {t : Nat} {a b : Int} {T : TypeId} (ht : t < 64) (h : blk w g = some (.cells (posCells Q) T (0, 0))) :
 blk ((w.setCell ⟨g, t * 2, none⟩ (.int .i64 a)).setCell ⟨g, t * 2 + 1, none⟩ (.int .i64 b)) g = some (.cells (posCells (Q.put (t : Int) a b)) T (0, 0)) := by
 have e := pos_put Q (t : Int) a b (by omega) (by omega)
 rw [show ((t : Int)).toNat = t by omega] at e
 rw [blk_setCell_same _ _ _ _ _ _ (blk_setCell_same _ _ _ _ _ _ h), e]
theorem start_step (k : Nat) (hk : k < 8) {w wr : World} {g : Nat} {T T2 : TypeId} {c0 c2 : Array Value} (lz : w.heap.size < g) (hxr : Ext w wr) (hb0 : blk wr w.heap.size = some (.cells c0 T (0, 0))) (hb1 : blk wr g = some (.cells (posCells (startUp k)) T (0, 0)))
 (hb2 : blk wr (g + 1) = some (.cells c2 T2 (0, 0))) :
 let W := (((((((wr.setCell ⟨g, k * 2, none⟩ (.int .i64 (backK k))).setCell ⟨g, k * 2 + 1, none⟩ (.int .i64 0)).setCell ⟨g, (8 + k) * 2, none⟩ (.int .i64 1)).setCell ⟨g, (8 + k) * 2 + 1, none⟩ (.int .i64 0)).setCell ⟨g, (48 + k) * 2, none⟩ (.int .i64 1)).setCell ⟨g, (48 + k) * 2 + 1, none⟩ (.int .i64 1)).setCell ⟨g, (56 + k) * 2, none⟩ (.int .i64 (backK k))).setCell ⟨g, (56 + k) * 2 + 1, none⟩ (.int .i64 1)
 Ext w W ∧ blk W w.heap.size = some (.cells c0 T (0, 0)) ∧ blk W g = some (.cells (posCells (startUp (k + 1))) T (0, 0)) ∧ blk W (g + 1) = some (.cells c2 T2 (0, 0)) := by
 intro W
 refine ⟨(((((((hxr.set (by show w.heap.size ≤ g; omega) _).set (by show w.heap.size ≤ g; omega) _).set (by show w.heap.size ≤ g; omega) _).set (by show w.heap.size ≤ g; omega) _).set (by show w.heap.size ≤ g; omega) _).set (by show w.heap.size ≤ g; omega) _).set (by show w.heap.size ≤ g; omega) _).set (by show w.heap.size ≤ g; omega) _, ?_, put2 (t := 56 + k) (by omega) (put2 (t := 48 + k) (by omega) (put2 (t := 8 + k) (by omega) (put2 (by omega) hb1))), ?_⟩
 ·simp only [W]
  repeat rw [blk_setCell_past _ _ _ _ (by show w.heap.size ≠ g; omega)]
  exact hb0
 ·simp only [W]
  repeat rw [blk_setCell_past _ _ _ _ (by show g + 1 ≠ g; omega)]
  exact hb2
theorem rStart_any (w : World) : Calls Tryz.prog 26 #[] w (Ret (.agg (posCells startP)) w) := by
 go_enter Tryz.func26, Tryz.ntmps26
 go_upto_region 3 with (go_at_call 25; (with_reducible refine (rEmpty_any _).mono ?_); rintro e w1 ⟨rfl, hx⟩)
 have hEw : Ext w w1 := (Ext.auto)
 have hz1 : blk w1 w.heap.size = some (.cells (posCells Pos.zero) 30 (0, 0)) := (hx.blk _ (by simp)).trans (by simp [go_sem])
 clear hx
 generalize hg : w1.heap.size = g at *
 have lz : w.heap.size < g := by rw [← hg]; exact blk_lt hz1
 go_wp2
 go_loopw [3] (fun i wr => ∃ k : Nat, i = .int .i64 k ∧ k ≤ 8 ∧ Ext w wr ∧ blk wr w.heap.size = some (.cells (posCells Pos.zero) 30 (0, 0)) ∧ blk wr g = some (.cells (posCells (startUp k)) 30 (0, 0)) ∧ blk wr (g + 1) = some (.cells #[.int .i64 4, .int .i64 2, .int .i64 3, .int .i64 5, .int .i64 6, .int .i64 3, .int .i64 2, .int .i64 4] 23 (0, 0))) (fun i _ => 8 - (intOf i).toNat)
 case atStart => exact ⟨0, rfl, by omega, hEw.trans ((Ext.alloc (Ext.refl _) _).trans (Ext.alloc (Ext.refl _) _)), (((Ext.alloc (Ext.refl _) _).trans (Ext.alloc (Ext.refl _) _)).blk _ (by omega)).trans hz1, by simp [go_sem, hg, startUp], by simp [go_sem, hg]⟩
 case round =>
  obtain ⟨k, rfl, hk, hxr, hb0, hb1, hb2⟩ := hrel
  by_cases hlt : k < 8
  ·have hc : ∀ o, wr.cell? ⟨g, o, none⟩ = (posCells (startUp k))[o]? := fun o => cell_of_row wr g o _ _ _ hb1
   have hd := blk_cell hb2
   have fz := blk_froz hb1
   have lg := blk_lt hb1
   have hk8 : k = 0 ∨ k = 1 ∨ k = 2 ∨ k = 3 ∨ k = 4 ∨ k = 5 ∨ k = 6 ∨ k = 7 := by omega
   rcases hk8 with rfl | rfl | rfl | rfl | rfl | rfl | rfl | rfl
   ·go_wp2
    go_roundw
    case rel =>
     have h := start_step 0 (by omega) lz hxr hb0 hb1 hb2
     simp only [Nat.reduceMul, Nat.reduceAdd, Nat.zero_mul, Nat.add_zero, Nat.zero_add, backK, List.getD_cons_zero, List.getD_cons_succ] at h
     exact ⟨1, rfl, by omega, h⟩
    case measure => simp [intOf]
   ·go_wp2
    go_roundw
    case rel =>
     have h := start_step 1 (by omega) lz hxr hb0 hb1 hb2
     simp only [Nat.reduceMul, Nat.reduceAdd, Nat.zero_mul, Nat.add_zero, Nat.zero_add, backK, List.getD_cons_zero, List.getD_cons_succ] at h
     exact ⟨2, rfl, by omega, h⟩
    case measure => simp [intOf]
   ·go_wp2
    go_roundw
    case rel =>
     have h := start_step 2 (by omega) lz hxr hb0 hb1 hb2
     simp only [Nat.reduceMul, Nat.reduceAdd, Nat.zero_mul, Nat.add_zero, Nat.zero_add, backK, List.getD_cons_zero, List.getD_cons_succ] at h
     exact ⟨3, rfl, by omega, h⟩
    case measure => simp [intOf]
   ·go_wp2
    go_roundw
    case rel =>
     have h := start_step 3 (by omega) lz hxr hb0 hb1 hb2
     simp only [Nat.reduceMul, Nat.reduceAdd, Nat.zero_mul, Nat.add_zero, Nat.zero_add, backK, List.getD_cons_zero, List.getD_cons_succ] at h
     exact ⟨4, rfl, by omega, h⟩
    case measure => simp [intOf]
   ·go_wp2
    go_roundw
    case rel =>
     have h := start_step 4 (by omega) lz hxr hb0 hb1 hb2
     simp only [Nat.reduceMul, Nat.reduceAdd, Nat.zero_mul, Nat.add_zero, Nat.zero_add, backK, List.getD_cons_zero, List.getD_cons_succ] at h
     exact ⟨5, rfl, by omega, h⟩
    case measure => simp [intOf]
   ·go_wp2
    go_roundw
    case rel =>
     have h := start_step 5 (by omega) lz hxr hb0 hb1 hb2
     simp only [Nat.reduceMul, Nat.reduceAdd, Nat.zero_mul, Nat.add_zero, Nat.zero_add, backK, List.getD_cons_zero, List.getD_cons_succ] at h
     exact ⟨6, rfl, by omega, h⟩
    case measure => simp [intOf]
   ·go_wp2
    go_roundw
    case rel =>
     have h := start_step 6 (by omega) lz hxr hb0 hb1 hb2
     simp only [Nat.reduceMul, Nat.reduceAdd, Nat.zero_mul, Nat.add_zero, Nat.zero_add, backK, List.getD_cons_zero, List.getD_cons_succ] at h
     exact ⟨7, rfl, by omega, h⟩
    case measure => simp [intOf]
   ·go_wp2
    go_roundw
    case rel =>
     have h := start_step 7 (by omega) lz hxr hb0 hb1 hb2
     simp only [Nat.reduceMul, Nat.reduceAdd, Nat.zero_mul, Nat.add_zero, Nat.zero_add, backK, List.getD_cons_zero, List.getD_cons_succ] at h
     exact ⟨8, rfl, by omega, h⟩
    case measure => simp [intOf]
  ·obtain rfl : k = 8 := by omega
   have hc : ∀ o, wr.cell? ⟨g, o, none⟩ = (posCells (startUp 8))[o]? := fun o => cell_of_row wr g o _ _ _ hb1
   have fz := blk_froz hb1
   have lg := blk_lt hb1
   have lz0 := blk_lt hb0
   have e0 := hc 130
   have hbC : blk (wr.setCell ⟨g, 129, none⟩ (.int .i64 15)) g = some (.cells (posCells startP) 30 (0, 0)) := by rw [blk_setCell_same _ _ _ _ _ _ hb1, pos_castle]; rfl
   have hzC : blk (wr.setCell ⟨g, 129, none⟩ (.int .i64 15)) w.heap.size = some (.cells (posCells Pos.zero) 30 (0, 0)) := by rw [blk_setCell_past _ _ _ _ (by show w.heap.size ≠ g; omega)]; exact hb0
   have hxC : Ext w (wr.setCell ⟨g, 129, none⟩ (.int .i64 15)) := hxr.set (by show w.heap.size ≤ g; omega) _
   go_wp2
   exact bodyPost_ret (v := .agg (posCells startP)) (results_cell rfl rfl (load_pos (setRow_blk hzC))) rfl ⟨rfl, hxC.setRow (Nat.le_refl _) _⟩
end Go.Proofs.YtdmgimfgoajmjaaGreatDoor
namespace Go.Proofs.YtdmgimfgoajmjaaGreatDoor
theorem isB_of {p : Pos} {m : Mv} (h : positionB p = true) (h1 : (rAllL p).contains m = true) (h2 : legalB p m = true) : isB p m = true := by
 unfold isB movesP
 rw [if_pos h, List.any_eq_true]
 refine ⟨m, ?_, by simp⟩
 unfold legalL
 rw [List.mem_filter, All_eq]
 exact ⟨by simpa using h1, h2⟩
theorem playR_one {p : Pos} {m : Mv} (h : positionB p = true) (h1 : (rAllL p).contains m = true) (h2 : legalB p m = true) : playR p [m] = (movedP p m, 0) := by
 unfold playR
 rw [if_pos h]
 unfold playGo
 rw [if_pos (isB_of h h1 h2)]
 rfl
def awM (i : Nat) : Mv := [⟨6, 21, 0⟩, ⟨62, 45, 0⟩, ⟨21, 6, 0⟩, ⟨45, 62, 0⟩].getD i ⟨0, 0, 0⟩
def aw : Nat → Pos
 | 0 => startP
 | i + 1 => movedP (aw i) (awM i)
def awL (k : Nat) : List Pos := (List.range (k + 1)).map aw
theorem awL_succ (k : Nat) : awL (k + 1) = awL k ++ [aw (k + 1)] := by unfold awL; rw [List.range_succ (n := k + 1), List.map_append]; rfl
set_option maxRecDepth 100000
theorem aw_play {i : Nat} (h : i < 4) : playR (aw i) [awM i] = (aw (i + 1), 0) := by
 have e : ∀ i < 4, positionB (aw i) = true ∧ (rAllL (aw i)).contains (awM i) = true ∧ legalB (aw i) (awM i) = true := by decide +kernel
 obtain ⟨h1, h2, h3⟩ := e i h
 exact playR_one h1 h2 h3
theorem aw_many {i : Nat} (h : i < 4) : manyB (awL i) (aw (i + 1)) + 1 = 1 + i / 3 := by
 have e : ∀ i < 4, manyB (awL i) (aw (i + 1)) + 1 = 1 + i / 3 := by decide +kernel
 exact e i h
theorem aw_most : mostB (awL 4) = 2 := by decide +kernel
theorem aw_start : manyB (awL 4) startP = 2 := by decide +kernel
def inIB (n : Int) : Bool := decide (-9223372036854775808 ≤ n ∧ n ≤ 9223372036854775807)
def rngB (p : Pos) : Bool := (List.range 64).all (fun i => inIB (p.kind i) && inIB (p.side i)) && (inIB p.turn && inIB p.castle && inIB p.over)
theorem rng_of {p : Pos} (h : rngB p = true) : Rng p := by
 unfold rngB at h
 simp only [Bool.and_eq_true, List.all_eq_true, List.mem_range, inIB, decide_eq_true_eq] at h
 exact ⟨fun i hi => (h.1 i hi).1, fun i hi => (h.1 i hi).2, h.2.1.1, h.2.1.2, h.2.2⟩
theorem aw_rng {i : Nat} (h : i < 5) : Rng (aw i) := by
 have e : ∀ i < 5, rngB (aw i) = true := by decide +kernel
 exact rng_of (e i h)
theorem awL_rng {k : Nat} (h : k < 5) : ∀ p ∈ awL k, Rng p := by
 intro p hp
 obtain ⟨i, hi, rfl⟩ := List.mem_map.1 hp
 exact aw_rng (by have := List.mem_range.1 hi; omega)
theorem overA_k (p : Pos) : overA p = if p.over = -1 then -1 else if (positionB p && (rAllL p).any fun m => overM p m && legalB p m) = true then p.over else -1 := by
 unfold overA movesP
 by_cases h : positionB p = true
 ·rw [if_pos h]
  unfold legalL
  rw [List.any_filter, All_eq, h, Bool.true_and]
  congr 4
  funext x
  exact Bool.and_comm _ _
 ·rw [if_neg h]
  have : positionB p = false := by simpa using h
  simp [this]
end Go.Proofs.YtdmgimfgoajmjaaGreatDoor
namespace Go.Proofs.YtdmgimfgoajmjaaGreatDoor
open Go.RowKit Go.Maps
theorem und_pm : Tryz.prog.underlying 188 = some (.map 3 26) := by kernel_rfl
theorem lawI : Keyed Tryz.prog 3 := int_keyed Tryz.underlying3
def pcE (v : Value) : Option (DataW Unit × List MemPlace) :=
 match v with
 | .agg cs => match cs.toList with
   | [.int .i64 a, .int .i64 b] => some (.agg [.lit (.int .i64 a), .lit (.int .i64 b)], [])
   | _ => none
 | _ => none
theorem pcE_mk (a b : Int) : pcE (.agg #[.int .i64 a, .int .i64 b]) = some (.agg [.lit (.int .i64 a), .lit (.int .i64 b)], []) := rfl
theorem pcE_inv {v : Value} {y : DataW Unit × List MemPlace} (h : pcE v = some y) : ∃ c : Int × Int, v = .agg #[.int .i64 c.1, .int .i64 c.2] := by
 unfold pcE at h
 split at h
 ·rename_i cs
  split at h
  ·rename_i a b e
   refine ⟨(a, b), ?_⟩
   congr 1
   rw [← Array.toArray_toList (xs := cs), e]
  ·cases h
 ·cases h
def pcD (k : Int) : DataW Unit := ((((DataW.map []).put (.int .i64 0) (.agg [.lit (.int .i64 k), .lit (.int .i64 0)])).put (.int .i64 1) (.agg [.lit (.int .i64 1), .lit (.int .i64 0)])).put (.int .i64 6) (.agg [.lit (.int .i64 1), .lit (.int .i64 1)])).put (.int .i64 7) (.agg [.lit (.int .i64 k), .lit (.int .i64 1)])
theorem pcD_eq (k : Int) : pcD k = .map [(.int .i64 0, .agg [.lit (.int .i64 k), .lit (.int .i64 0)]), (.int .i64 1, .agg [.lit (.int .i64 1), .lit (.int .i64 0)]), (.int .i64 6, .agg [.lit (.int .i64 1), .lit (.int .i64 1)]), (.int .i64 7, .agg [.lit (.int .i64 k), .lit (.int .i64 1)])] := by rfl
theorem pcD_has (k x : Int) (h : has (pcD k) (.int .i64 x) = true) : x = 0 ∨ x = 1 ∨ x = 6 ∨ x = 7 := by
 rw [pcD_eq] at h
 simp [has, Lit.sameKey] at h
 omega
theorem pcD_all (k : Int) : has (pcD k) (.int .i64 0) = true ∧ has (pcD k) (.int .i64 1) = true ∧ has (pcD k) (.int .i64 6) = true ∧ has (pcD k) (.int .i64 7) = true := by
 rw [pcD_eq]
 simp [has, Lit.sameKey]
theorem pcD_at {k : Int} {a b x : Int} {y : DataW Unit × List MemPlace} (hv : pcE (.agg #[.int .i64 a, .int .i64 b]) = some y) (h : ∀ zd, (pcD k).atKey (.int .i64 x) zd = y.1) :
 (x = 0 → a = k ∧ b = 0) ∧ (x = 1 → a = 1 ∧ b = 0) ∧ (x = 6 → a = 1 ∧ b = 1) ∧ (x = 7 → a = k ∧ b = 1) := by
 rw [pcE_mk] at hv
 injection hv with hv
 subst hv
 have h9 := h .nil
 rw [pcD_eq] at h9
 refine ⟨?_, ?_, ?_, ?_⟩
 all_goals
  rintro rfl
  simp [DataW.atKey, Lit.sameKey] at h9
  omega
def c0 (f k : Int) (l : Bool) (p : Pos) : Pos := if l then p else p.put f k 0
def c1 (f : Int) (l : Bool) (p : Pos) : Pos := if l then p else p.put (8 + f) 1 0
def c6 (f : Int) (l : Bool) (p : Pos) : Pos := if l then p else p.put (48 + f) 1 1
def c7 (f k : Int) (l : Bool) (p : Pos) : Pos := if l then p else p.put (56 + f) k 1
theorem put_comm (p : Pos) (a b x y z t : Int) (h : a.toNat ≠ b.toNat) : (p.put a x y).put b z t = (p.put b z t).put a x y := by
 unfold Pos.put
 congr 1
 all_goals
  funext i
  dsimp only
  by_cases h1 : i = a.toNat
  ·by_cases h2 : i = b.toNat
   ·omega
   ·simp [h1, h2, h]
  ·by_cases h2 : i = b.toNat
   ·simp [h1, h2, Ne.symm h]
   ·simp [h1, h2]
def bd (f k : Int) (l0 l1 l6 l7 : Bool) (p : Pos) : Pos := c7 f k l7 (c6 f l6 (c1 f l1 (c0 f k l0 p)))
theorem bd0 (f k : Int) (hf : 0 ≤ f) (hf8 : f < 8) (l1 l6 l7 : Bool) (p : Pos) : (bd f k true l1 l6 l7 p).put f k 0 = bd f k false l1 l6 l7 p := by
 unfold bd c0 c1 c6 c7
 cases l1 <;> cases l6 <;> cases l7 <;> simp only [if_true, if_false, Bool.false_eq_true] <;> (repeat rw [put_comm _ _ f _ _ _ _ (by omega)])
theorem bd1 (f k : Int) (hf : 0 ≤ f) (hf8 : f < 8) (l0 l6 l7 : Bool) (p : Pos) : (bd f k l0 true l6 l7 p).put (8 + f) 1 0 = bd f k l0 false l6 l7 p := by
 unfold bd c0 c1 c6 c7
 cases l6 <;> cases l7 <;> simp only [if_true, if_false, Bool.false_eq_true] <;> (first | rfl | rw [put_comm _ (56 + f) (8 + f) _ _ _ _ (by omega), put_comm _ (48 + f) (8 + f) _ _ _ _ (by omega)] | rw [put_comm _ (48 + f) (8 + f) _ _ _ _ (by omega)] | rw [put_comm _ (56 + f) (8 + f) _ _ _ _ (by omega)])
theorem bd6 (f k : Int) (hf : 0 ≤ f) (hf8 : f < 8) (l0 l1 l7 : Bool) (p : Pos) : (bd f k l0 l1 true l7 p).put (48 + f) 1 1 = bd f k l0 l1 false l7 p := by
 unfold bd c6 c7
 cases l7 <;> simp only [if_true, if_false, Bool.false_eq_true] <;> (first | rfl | rw [put_comm _ (56 + f) (48 + f) _ _ _ _ (by omega)])
theorem bd7 (f k : Int) (l0 l1 l6 : Bool) (p : Pos) : (bd f k l0 l1 l6 true p).put (56 + f) k 1 = bd f k l0 l1 l6 false p := rfl
theorem bd_all (f : Nat) (p : Pos) : bd f (backK f) true true true true p = p := rfl
theorem bd_none (f : Nat) : bd f (backK f) false false false false (startUp f) = startUp (f + 1) := rfl
theorem keys_ne : ∀ x ∈ [(0 : Int), 1, 6, 7], ∀ z ∈ [(0 : Int), 1, 6, 7], (Lit.int .i64 z).sameKey (.int .i64 x) = decide (z = x) := by decide
def putsq (x : Int) (f : Nat) (a b : Int) (p : Pos) : Pos := p.put (x * 8 + f) a b
theorem bd_step {f : Nat} (hf : f < 8) {a b x : Int} {y : DataW Unit × List MemPlace} {left : Lit → Bool} {p : Pos} (hx : has (pcD (backK f)) (.int .i64 x) = true) (hl : left (.int .i64 x) = true) (hv : pcE (.agg #[.int .i64 a, .int .i64 b]) = some y) (h : ∀ zd, (pcD (backK f)).atKey (.int .i64 x) zd = y.1) :
 (bd f (backK f) (left (.int .i64 0)) (left (.int .i64 1)) (left (.int .i64 6)) (left (.int .i64 7)) p).put (x * 8 + f) a b =
 bd f (backK f) (left (.int .i64 0) && !(Lit.int .i64 0).sameKey (.int .i64 x)) (left (.int .i64 1) && !(Lit.int .i64 1).sameKey (.int .i64 x)) (left (.int .i64 6) && !(Lit.int .i64 6).sameKey (.int .i64 x)) (left (.int .i64 7) && !(Lit.int .i64 7).sameKey (.int .i64 x)) p := by
 obtain ⟨h0, h1, h6, h7⟩ := pcD_at hv h
 have hc := pcD_has _ _ hx
 have kn := keys_ne
 rcases hc with rfl | rfl | rfl | rfl
 ·obtain ⟨rfl, rfl⟩ := h0 rfl
  rw [kn 0 (by simp) 0 (by simp), kn 0 (by simp) 1 (by simp), kn 0 (by simp) 6 (by simp), kn 0 (by simp) 7 (by simp), hl]
  simp
  exact bd0 f _ (by omega) (by omega) _ _ _ _
 ·obtain ⟨rfl, rfl⟩ := h1 rfl
  rw [kn 1 (by simp) 0 (by simp), kn 1 (by simp) 1 (by simp), kn 1 (by simp) 6 (by simp), kn 1 (by simp) 7 (by simp), hl]
  simp
  exact bd1 f _ (by omega) (by omega) _ _ _ _
 ·obtain ⟨rfl, rfl⟩ := h6 rfl
  rw [kn 6 (by simp) 0 (by simp), kn 6 (by simp) 1 (by simp), kn 6 (by simp) 6 (by simp), kn 6 (by simp) 7 (by simp), hl]
  simp
  exact bd6 f _ (by omega) (by omega) _ _ _ _
 ·obtain ⟨rfl, rfl⟩ := h7 rfl
  rw [kn 7 (by simp) 0 (by simp), kn 7 (by simp) 1 (by simp), kn 7 (by simp) 6 (by simp), kn 7 (by simp) 7 (by simp), hl]
  simp
  exact bd7 f _ _ _ _ _
end Go.Proofs.YtdmgimfgoajmjaaGreatDoor
