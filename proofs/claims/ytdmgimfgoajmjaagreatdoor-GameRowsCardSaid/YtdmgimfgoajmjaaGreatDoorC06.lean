/- Whether castlings may be so. -/
import Derived.Test.YtdmgimfgoajmjaaGreatDoorC04
import Derived.Test.YtdmgimfgoajmjaaGreatDoorC05
set_option linter.unusedVariables false
set_option linter.unusedSimpArgs false
set_option maxRecDepth 100000
set_option maxHeartbeats 2000000
namespace Go.Proofs.YtdmgimfgoajmjaaGreatDoor
open Go.RowKit
@[go_sem] theorem index_arr4_0 (a b c d : Value) (w : World) : (Instr.index 192 (.agg #[a, b, c, d]) (.int .i64 0)).run Tryz.prog w = .ok a w := by kernel_rfl
@[go_sem] theorem index_arr4_1 (a b c d : Value) (w : World) : (Instr.index 192 (.agg #[a, b, c, d]) (.int .i64 1)).run Tryz.prog w = .ok b w := by kernel_rfl
@[go_sem] theorem index_arr4_2 (a b c d : Value) (w : World) : (Instr.index 192 (.agg #[a, b, c, d]) (.int .i64 2)).run Tryz.prog w = .ok c w := by kernel_rfl
@[go_sem] theorem index_arr4_3 (a b c d : Value) (w : World) : (Instr.index 192 (.agg #[a, b, c, d]) (.int .i64 3)).run Tryz.prog w = .ok d w := by kernel_rfl
def rookAt : Nat → Int
 | 0 => 7
 | 1 => 0
 | 2 => 63
 | _ => 56
def castleAt (p : Pos) (k : Nat) : Bool := (p.castle / (2 ^ k : Nat) % 2 == 0) || (standsB p 4 ((k / 2 : Nat) : Int) (rookAt k) && standsB p 6 ((k / 2 : Nat) : Int) (rookAt k / 8 * 8 + 4))
def castlesB (p : Pos) : Bool := decide (0 ≤ p.castle ∧ p.castle ≤ 15) && (castleAt p 0 && castleAt p 1 && castleAt p 2 && castleAt p 3)
structure CastAt (p : Pos) (w : World) (k : Nat) (wr : World) : Prop where
 le : k ≤ 4
 ok : ∀ i, i < k → castleAt p i = true
 c : blk wr w.heap.size = some (.cells (posCells p) 163 (0, 0))
 x : Ext w wr
theorem CastAt.next {p : Pos} {w wr wr' : World} {k : Nat} (h : CastAt p w k wr) (hlt : k < 4) (hok : castleAt p k = true) (hx : Ext wr wr') : CastAt p w (k + 1) wr' := by
 refine ⟨by omega, ?_, ?_, h.x.trans hx⟩
 ·intro i hi
  by_cases e : i = k
  ·exact e ▸ hok
  ·exact h.ok i (by omega)
 ·rw [hx.blk _ (blk_lt h.c)]; exact h.c
theorem castles_bad {p : Pos} {k : Nat} (hk : k < 4) (h : castleAt p k = false) : false = castlesB p := by
 rcases (by omega : k = 0 ∨ k = 1 ∨ k = 2 ∨ k = 3) with rfl | rfl | rfl | rfl <;> simp [castlesB, h]
theorem castles_all {p : Pos} (h0 : 0 ≤ p.castle) (h1 : p.castle ≤ 15) (h : ∀ i, i < 4 → castleAt p i = true) : true = castlesB p := by
 simp [castlesB, h0, h1, h 0, h 1, h 2, h 3]
theorem castAt_0 (p : Pos) : castleAt p 0 = ((p.castle / 1 % 2 == 0) || (standsB p 4 0 7 && standsB p 6 0 4)) := rfl
theorem castAt_1 (p : Pos) : castleAt p 1 = ((p.castle / 2 % 2 == 0) || (standsB p 4 0 0 && standsB p 6 0 4)) := rfl
theorem castAt_2 (p : Pos) : castleAt p 2 = ((p.castle / 4 % 2 == 0) || (standsB p 4 1 63 && standsB p 6 1 60)) := rfl
theorem castAt_3 (p : Pos) : castleAt p 3 = ((p.castle / 8 % 2 == 0) || (standsB p 4 1 56 && standsB p 6 1 60)) := rfl
theorem castles_any (p : Pos) (w : World) : Calls Tryz.prog 101 #[.agg (posCells p)] w (Ret (.bool (castlesB p)) w) := by
 by_cases h0 : p.castle < 0
 ·have H := hid (show false = castlesB p by simp [castlesB]; intro h; omega)
  go_enter Tryz.func101, Tryz.ntmps101
  go_wp2
  go_ret; exact Ret.mk' (vbool H.out) (Ext.auto)
 by_cases h1 : 15 < p.castle
 ·have H := hid (show false = castlesB p by simp [castlesB]; intro h; omega)
  go_enter Tryz.func101, Tryz.ntmps101
  go_wp2
  go_ret; exact Ret.mk' (vbool H.out) (Ext.auto)
 have h0' : 0 ≤ p.castle := by omega
 have h1' : p.castle ≤ 15 := by omega
 clear h0 h1
 go_enter Tryz.func101, Tryz.ntmps101
 go_wp2
 go_loopw [17] (fun i wr => ∃ k : Nat, i = .int .i64 k ∧ CastAt p w k wr) (fun i _ => 4 - (intOf i).toNat)
 case atStart => exact ⟨0, rfl, by omega, by omega, by simp [go_sem], (Ext.auto)⟩
 case round =>
  obtain ⟨k, rfl, hk⟩ := hrel
  have hsz0 : w.heap.size < wr.heap.size := blk_lt hk.c
  have hbc := hk.c
  have hxw := hk.x
  have hcc := blk_cell hk.c
  by_cases hlt : k < 4
  ·rcases (by omega : k = 0 ∨ k = 1 ∨ k = 2 ∨ k = 3) with rfl | rfl | rfl | rfl
   ·have e := hid (castAt_0 p)
    have HK := hid hk
    clear hk
    go_wp2_with (go_at_call 149; with_reducible refine arm (stands_any _ _ _ _ _ (by omega) (by omega)) fun w1 hx hxc hxf hxb hxs => ?_; (try have := sW wr w1); (try have := sW w w1))
    all_goals first
     | (go_ret; exact Ret.mk' (vbool (castles_bad (k := 0) (by omega) (by rw [e.out]; go_light; simp_all))) (Ext.auto))
     | (go_roundw
        case rel => exact ⟨1, rfl, HK.out.next hlt (by rw [e.out]; go_light; simp_all) (Ext.auto)⟩
        case measure => simp [intOf])
   ·have e := hid (castAt_1 p)
    have HK := hid hk
    clear hk
    go_wp2_with (go_at_call 149; with_reducible refine arm (stands_any _ _ _ _ _ (by omega) (by omega)) fun w1 hx hxc hxf hxb hxs => ?_; (try have := sW wr w1); (try have := sW w w1))
    all_goals first
     | (go_ret; exact Ret.mk' (vbool (castles_bad (k := 1) (by omega) (by rw [e.out]; go_light; simp_all))) (Ext.auto))
     | (go_roundw
        case rel => exact ⟨2, rfl, HK.out.next hlt (by rw [e.out]; go_light; simp_all) (Ext.auto)⟩
        case measure => simp [intOf])
   ·have e := hid (castAt_2 p)
    have HK := hid hk
    clear hk
    go_wp2_with (go_at_call 149; with_reducible refine arm (stands_any _ _ _ _ _ (by omega) (by omega)) fun w1 hx hxc hxf hxb hxs => ?_; (try have := sW wr w1); (try have := sW w w1))
    all_goals first
     | (go_ret; exact Ret.mk' (vbool (castles_bad (k := 2) (by omega) (by rw [e.out]; go_light; simp_all))) (Ext.auto))
     | (go_roundw
        case rel => exact ⟨3, rfl, HK.out.next hlt (by rw [e.out]; go_light; simp_all) (Ext.auto)⟩
        case measure => simp [intOf])
   ·have e := hid (castAt_3 p)
    have HK := hid hk
    clear hk
    go_wp2_with (go_at_call 149; with_reducible refine arm (stands_any _ _ _ _ _ (by omega) (by omega)) fun w1 hx hxc hxf hxb hxs => ?_; (try have := sW wr w1); (try have := sW w w1))
    all_goals first
     | (go_ret; exact Ret.mk' (vbool (castles_bad (k := 3) (by omega) (by rw [e.out]; go_light; simp_all))) (Ext.auto))
     | (go_roundw
        case rel => exact ⟨4, rfl, HK.out.next hlt (by rw [e.out]; go_light; simp_all) (Ext.auto)⟩
        case measure => simp [intOf])
  ·obtain rfl : k = 4 := by have := hk.le; omega
   have H := hid (castles_all h0' h1' hk.ok)
   clear hk
   go_wp2
   go_ret; exact Ret.mk' (vbool H.out) (Ext.auto)
end Go.Proofs.YtdmgimfgoajmjaaGreatDoor
