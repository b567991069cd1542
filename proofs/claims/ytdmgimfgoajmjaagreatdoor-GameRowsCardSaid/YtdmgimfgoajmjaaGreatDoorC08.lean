/- Whether a position is right, but for check. -/
import Derived.Test.YtdmgimfgoajmjaaGreatDoorC04
import Derived.Test.YtdmgimfgoajmjaaGreatDoorC06
import Derived.Test.YtdmgimfgoajmjaaGreatDoorC07
set_option linter.unusedVariables false
set_option linter.unusedSimpArgs false
set_option maxRecDepth 100000
set_option maxHeartbeats 2000000
namespace Go.Proofs.YtdmgimfgoajmjaaGreatDoor
open Go.RowKit
def overRank (p : Pos) : Int := if p.turn = 1 then 2 else 5
def overOn (p : Pos) : Int := if p.turn = 1 then -1 else 1
def overB (p : Pos) : Bool := decide (p.over = -1) || (decide (rankOf p.over = overRank p) && decide (p.half = 0) && standsB p 0 0 p.over && standsB p 0 0 (stepOf p.over 0 (overOn p)) && standsB p 1 (otherOf p.turn) (stepOf p.over 0 (- overOn p)))
theorem over_any (p : Pos) (w : World) : Calls Tryz.prog 102 #[.agg (posCells p)] w (Ret (.bool (overB p)) w) := by
 by_cases h0 : p.over = -1
 ·have H := hid (show true = overB p by simp [overB, h0])
  have h0' : (p.over == -1) = true := by simp [h0]
  clear h0
  go_enter Tryz.func102, Tryz.ntmps102
  go_wp2
  go_ret; exact Ret.mk' (vbool H.out) (Ext.auto)
 have h0' : (p.over == -1) = false := by simp [h0]
 by_cases h1 : rankOf p.over = overRank p ∧ p.half = 0
 ·obtain ⟨h1, h2⟩ := h1
  have hr : 0 ≤ p.over ∧ p.over < 64 ∧ 16 ≤ p.over ∧ p.over < 48 := by
   unfold rankOf overRank at h1
   by_cases h : 0 ≤ p.over ∧ p.over < 64
   ·rw [if_pos h] at h1; split at h1 <;> omega
   ·rw [if_neg h] at h1; split at h1 <;> omega
  obtain ⟨a0, a1, a2, a3⟩ := hr
  have e1 : stepOf p.over 0 (overOn p) = p.over + 8 * overOn p := by
   unfold stepOf onOf numOf overOn; simp only [a0, a1, and_self, if_true]; split <;> (rw [if_pos (by omega)]; omega)
  have e2 : stepOf p.over 0 (- overOn p) = p.over - 8 * overOn p := by
   unfold stepOf onOf numOf overOn; simp only [a0, a1, and_self, if_true]; split <;> (rw [if_pos (by omega)]; omega)
  have H := hid (show overB p = (standsB p 0 0 p.over && standsB p 0 0 (stepOf p.over 0 (overOn p)) && standsB p 1 (otherOf p.turn) (stepOf p.over 0 (- overOn p))) by
   unfold overB; simp only [h0, h1, h2, decide_true, decide_false, Bool.false_or, Bool.true_and])
  have b1 : 0 ≤ stepOf p.over 0 (overOn p) ∧ stepOf p.over 0 (overOn p) < 64 := by rw [e1]; unfold overOn; split <;> omega
  have b2 : 0 ≤ stepOf p.over 0 (- overOn p) ∧ stepOf p.over 0 (- overOn p) < 64 := by rw [e2]; unfold overOn; split <;> omega
  obtain ⟨b1, b1'⟩ := b1
  obtain ⟨b2, b2'⟩ := b2
  clear e1 e2
  have e3 : (rankOf p.over != overRank p) = false := by simp [h1]
  have e4 : (p.half != 0) = false := by simp [h2]
  clear h1 h2 h0
  by_cases ht : p.turn = 1
  ·have ho : overOn p = -1 := by simp [overOn, ht]
   rw [show overRank p = 2 by simp [overRank, ht]] at e3
   rw [ho] at H b1 b1' b2 b2'
   rw [show (-(-1 : Int)) = 1 from rfl] at H b2 b2'
   have ht' : (p.turn == 1) = true := by simp [ht]
   clear ht ho
   have F1 := fun (w' : World) (hb : blk w' w.heap.size = some (.cells (posCells p) 163 (0, 0))) => free_any p p.over w' a0 a1 w.heap.size _ _ hb
   have F2 := fun (w' : World) (hb : blk w' w.heap.size = some (.cells (posCells p) 163 (0, 0))) => free_any p (stepOf p.over 0 (-1)) w' b1 b1' w.heap.size _ _ hb
   cases hs1 : standsB p 0 0 p.over
   ·rw [hs1] at F1
    have H2 := hid (show overB p = false by rw [H.out, hs1]; rfl)
    clear hs1 H
    go_enter Tryz.func102, Tryz.ntmps102
    go_wp2_with (go_at_call 143; with_reducible refine arm (Rank_any _ _) fun w1 hx hxc hxf hxb hxs => ?_; (try have := sW w w1))
    refine wp_quiet (by kernel_rfl) (by kernel_rfl) ?_; (repeat (first | go_big_quiet_step (first | (go_at_call 150; with_reducible exact Calls.reg (F1 _ (by go_simp))) | (go_at_call 150; with_reducible exact Calls.reg (F2 _ (by go_simp))) | (go_at_call 151; with_reducible exact Calls.reg (Step_any _ _ _ _ (by omega) (by omega) (by omega) (by omega))) | (go_at_call 68; with_reducible exact Calls.reg (Other_any _ _)) | (go_at_call 149; with_reducible exact Calls.reg (stands_any _ _ _ _ _ (by omega) (by omega)))) | quiet_step (first | (go_at_call 150; with_reducible exact Calls.reg (F1 _ (by go_simp))) | (go_at_call 150; with_reducible exact Calls.reg (F2 _ (by go_simp))) | (go_at_call 151; with_reducible exact Calls.reg (Step_any _ _ _ _ (by omega) (by omega) (by omega) (by omega))) | (go_at_call 68; with_reducible exact Calls.reg (Other_any _ _)) | (go_at_call 149; with_reducible exact Calls.reg (stands_any _ _ _ _ _ (by omega) (by omega)))))); refine wpQuiet_nil ?_; intro w1 hx; obtain ⟨hxc, hxf, hxb, hxs⟩ := hx.als; (try have := sW w w1)
    go_wp2
    go_ret; exact Ret.mk' (vbool H2.out.symm) (Ext.auto)
   ·rw [hs1] at F1
    cases hs2 : standsB p 0 0 (stepOf p.over 0 (-1))
    ·rw [hs2] at F2
     have H2 := hid (show overB p = false by rw [H.out, hs1, hs2]; rfl)
     clear hs1 hs2 H
     go_enter Tryz.func102, Tryz.ntmps102
     go_wp2_with (go_at_call 143; with_reducible refine arm (Rank_any _ _) fun w1 hx hxc hxf hxb hxs => ?_; (try have := sW w w1))
     refine wp_quiet (by kernel_rfl) (by kernel_rfl) ?_; (repeat (first | go_big_quiet_step (first | (go_at_call 150; with_reducible exact Calls.reg (F1 _ (by go_simp))) | (go_at_call 150; with_reducible exact Calls.reg (F2 _ (by go_simp))) | (go_at_call 151; with_reducible exact Calls.reg (Step_any _ _ _ _ (by omega) (by omega) (by omega) (by omega))) | (go_at_call 68; with_reducible exact Calls.reg (Other_any _ _)) | (go_at_call 149; with_reducible exact Calls.reg (stands_any _ _ _ _ _ (by omega) (by omega)))) | quiet_step (first | (go_at_call 150; with_reducible exact Calls.reg (F1 _ (by go_simp))) | (go_at_call 150; with_reducible exact Calls.reg (F2 _ (by go_simp))) | (go_at_call 151; with_reducible exact Calls.reg (Step_any _ _ _ _ (by omega) (by omega) (by omega) (by omega))) | (go_at_call 68; with_reducible exact Calls.reg (Other_any _ _)) | (go_at_call 149; with_reducible exact Calls.reg (stands_any _ _ _ _ _ (by omega) (by omega)))))); refine wpQuiet_nil ?_; intro w1 hx; obtain ⟨hxc, hxf, hxb, hxs⟩ := hx.als; (try have := sW w w1)
     go_wp2
     go_ret; exact Ret.mk' (vbool H2.out.symm) (Ext.auto)
    ·rw [hs2] at F2
     have H2 := hid (show overB p = standsB p 1 (otherOf p.turn) (stepOf p.over 0 1) by rw [H.out, hs1, hs2]; rfl)
     clear hs1 hs2 H
     go_enter Tryz.func102, Tryz.ntmps102
     go_wp2_with (go_at_call 143; with_reducible refine arm (Rank_any _ _) fun w1 hx hxc hxf hxb hxs => ?_; (try have := sW w w1))
     refine wp_quiet (by kernel_rfl) (by kernel_rfl) ?_; (repeat (first | go_big_quiet_step (first | (go_at_call 150; with_reducible exact Calls.reg (F1 _ (by go_simp))) | (go_at_call 150; with_reducible exact Calls.reg (F2 _ (by go_simp))) | (go_at_call 151; with_reducible exact Calls.reg (Step_any _ _ _ _ (by omega) (by omega) (by omega) (by omega))) | (go_at_call 68; with_reducible exact Calls.reg (Other_any _ _)) | (go_at_call 149; with_reducible exact Calls.reg (stands_any _ _ _ _ _ (by omega) (by omega)))) | quiet_step (first | (go_at_call 150; with_reducible exact Calls.reg (F1 _ (by go_simp))) | (go_at_call 150; with_reducible exact Calls.reg (F2 _ (by go_simp))) | (go_at_call 151; with_reducible exact Calls.reg (Step_any _ _ _ _ (by omega) (by omega) (by omega) (by omega))) | (go_at_call 68; with_reducible exact Calls.reg (Other_any _ _)) | (go_at_call 149; with_reducible exact Calls.reg (stands_any _ _ _ _ _ (by omega) (by omega)))))); refine wpQuiet_nil ?_; intro w1 hx; obtain ⟨hxc, hxf, hxb, hxs⟩ := hx.als; (try have := sW w w1)
     go_wp2
     go_ret; exact Ret.mk' (vbool H2.out.symm) (Ext.auto)
  ·have ho : overOn p = 1 := by simp [overOn, ht]
   rw [show overRank p = 5 by simp [overRank, ht]] at e3
   rw [ho] at H b1 b1' b2 b2'
   skip
   have ht' : (p.turn == 1) = false := by simp [ht]
   clear ht ho
   have F1 := fun (w' : World) (hb : blk w' w.heap.size = some (.cells (posCells p) 163 (0, 0))) => free_any p p.over w' a0 a1 w.heap.size _ _ hb
   have F2 := fun (w' : World) (hb : blk w' w.heap.size = some (.cells (posCells p) 163 (0, 0))) => free_any p (stepOf p.over 0 1) w' b1 b1' w.heap.size _ _ hb
   cases hs1 : standsB p 0 0 p.over
   ·rw [hs1] at F1
    have H2 := hid (show overB p = false by rw [H.out, hs1]; rfl)
    clear hs1 H
    go_enter Tryz.func102, Tryz.ntmps102
    go_wp2_with (go_at_call 143; with_reducible refine arm (Rank_any _ _) fun w1 hx hxc hxf hxb hxs => ?_; (try have := sW w w1))
    refine wp_quiet (by kernel_rfl) (by kernel_rfl) ?_; (repeat (first | go_big_quiet_step (first | (go_at_call 150; with_reducible exact Calls.reg (F1 _ (by go_simp))) | (go_at_call 150; with_reducible exact Calls.reg (F2 _ (by go_simp))) | (go_at_call 151; with_reducible exact Calls.reg (Step_any _ _ _ _ (by omega) (by omega) (by omega) (by omega))) | (go_at_call 68; with_reducible exact Calls.reg (Other_any _ _)) | (go_at_call 149; with_reducible exact Calls.reg (stands_any _ _ _ _ _ (by omega) (by omega)))) | quiet_step (first | (go_at_call 150; with_reducible exact Calls.reg (F1 _ (by go_simp))) | (go_at_call 150; with_reducible exact Calls.reg (F2 _ (by go_simp))) | (go_at_call 151; with_reducible exact Calls.reg (Step_any _ _ _ _ (by omega) (by omega) (by omega) (by omega))) | (go_at_call 68; with_reducible exact Calls.reg (Other_any _ _)) | (go_at_call 149; with_reducible exact Calls.reg (stands_any _ _ _ _ _ (by omega) (by omega)))))); refine wpQuiet_nil ?_; intro w1 hx; obtain ⟨hxc, hxf, hxb, hxs⟩ := hx.als; (try have := sW w w1)
    go_wp2
    go_ret; exact Ret.mk' (vbool H2.out.symm) (Ext.auto)
   ·rw [hs1] at F1
    cases hs2 : standsB p 0 0 (stepOf p.over 0 1)
    ·rw [hs2] at F2
     have H2 := hid (show overB p = false by rw [H.out, hs1, hs2]; rfl)
     clear hs1 hs2 H
     go_enter Tryz.func102, Tryz.ntmps102
     go_wp2_with (go_at_call 143; with_reducible refine arm (Rank_any _ _) fun w1 hx hxc hxf hxb hxs => ?_; (try have := sW w w1))
     refine wp_quiet (by kernel_rfl) (by kernel_rfl) ?_; (repeat (first | go_big_quiet_step (first | (go_at_call 150; with_reducible exact Calls.reg (F1 _ (by go_simp))) | (go_at_call 150; with_reducible exact Calls.reg (F2 _ (by go_simp))) | (go_at_call 151; with_reducible exact Calls.reg (Step_any _ _ _ _ (by omega) (by omega) (by omega) (by omega))) | (go_at_call 68; with_reducible exact Calls.reg (Other_any _ _)) | (go_at_call 149; with_reducible exact Calls.reg (stands_any _ _ _ _ _ (by omega) (by omega)))) | quiet_step (first | (go_at_call 150; with_reducible exact Calls.reg (F1 _ (by go_simp))) | (go_at_call 150; with_reducible exact Calls.reg (F2 _ (by go_simp))) | (go_at_call 151; with_reducible exact Calls.reg (Step_any _ _ _ _ (by omega) (by omega) (by omega) (by omega))) | (go_at_call 68; with_reducible exact Calls.reg (Other_any _ _)) | (go_at_call 149; with_reducible exact Calls.reg (stands_any _ _ _ _ _ (by omega) (by omega)))))); refine wpQuiet_nil ?_; intro w1 hx; obtain ⟨hxc, hxf, hxb, hxs⟩ := hx.als; (try have := sW w w1)
     go_wp2
     go_ret; exact Ret.mk' (vbool H2.out.symm) (Ext.auto)
    ·rw [hs2] at F2
     have H2 := hid (show overB p = standsB p 1 (otherOf p.turn) (stepOf p.over 0 (-1)) by rw [H.out, hs1, hs2]; rfl)
     clear hs1 hs2 H
     go_enter Tryz.func102, Tryz.ntmps102
     go_wp2_with (go_at_call 143; with_reducible refine arm (Rank_any _ _) fun w1 hx hxc hxf hxb hxs => ?_; (try have := sW w w1))
     refine wp_quiet (by kernel_rfl) (by kernel_rfl) ?_; (repeat (first | go_big_quiet_step (first | (go_at_call 150; with_reducible exact Calls.reg (F1 _ (by go_simp))) | (go_at_call 150; with_reducible exact Calls.reg (F2 _ (by go_simp))) | (go_at_call 151; with_reducible exact Calls.reg (Step_any _ _ _ _ (by omega) (by omega) (by omega) (by omega))) | (go_at_call 68; with_reducible exact Calls.reg (Other_any _ _)) | (go_at_call 149; with_reducible exact Calls.reg (stands_any _ _ _ _ _ (by omega) (by omega)))) | quiet_step (first | (go_at_call 150; with_reducible exact Calls.reg (F1 _ (by go_simp))) | (go_at_call 150; with_reducible exact Calls.reg (F2 _ (by go_simp))) | (go_at_call 151; with_reducible exact Calls.reg (Step_any _ _ _ _ (by omega) (by omega) (by omega) (by omega))) | (go_at_call 68; with_reducible exact Calls.reg (Other_any _ _)) | (go_at_call 149; with_reducible exact Calls.reg (stands_any _ _ _ _ _ (by omega) (by omega)))))); refine wpQuiet_nil ?_; intro w1 hx; obtain ⟨hxc, hxf, hxb, hxs⟩ := hx.als; (try have := sW w w1)
     go_wp2
     go_ret; exact Ret.mk' (vbool H2.out.symm) (Ext.auto)
 ·have H := hid (show false = overB p by
   unfold overB
   rw [show decide (p.over = -1) = false by simp [h0], show (decide (rankOf p.over = overRank p) && decide (p.half = 0)) = false by rw [Bool.eq_false_iff]; simp; intro a b; exact h1 ⟨a, b⟩]
   simp)
  have e1 : ¬ (rankOf p.over = overRank p) ∨ ¬ p.half = 0 := by omega
  clear h1 h0
  by_cases ht : p.turn = 1
  ·rw [show overRank p = 2 by simp [overRank, ht]] at e1
   have ht' : (p.turn == 1) = true := by simp [ht]
   clear ht
   rcases e1 with e1 | e1
   ·have e1' : (rankOf p.over != 2) = true := by simp [e1]
    clear e1
    go_enter Tryz.func102, Tryz.ntmps102
    go_wp2_with (go_at_call 143; with_reducible refine arm (Rank_any _ _) fun w1 hx hxc hxf hxb hxs => ?_; (try have := sW w w1))
    all_goals (go_ret; exact Ret.mk' (vbool H.out) (Ext.auto))
   ·have e1' : (p.half != 0) = true := by simp [e1]
    clear e1
    go_enter Tryz.func102, Tryz.ntmps102
    go_wp2_with (go_at_call 143; with_reducible refine arm (Rank_any _ _) fun w1 hx hxc hxf hxb hxs => ?_; (try have := sW w w1))
    all_goals (go_ret; exact Ret.mk' (vbool H.out) (Ext.auto))
  ·rw [show overRank p = 5 by simp [overRank, ht]] at e1
   have ht' : (p.turn == 1) = false := by simp [ht]
   clear ht
   rcases e1 with e1 | e1
   ·have e1' : (rankOf p.over != 5) = true := by simp [e1]
    clear e1
    go_enter Tryz.func102, Tryz.ntmps102
    go_wp2_with (go_at_call 143; with_reducible refine arm (Rank_any _ _) fun w1 hx hxc hxf hxb hxs => ?_; (try have := sW w w1))
    all_goals (go_ret; exact Ret.mk' (vbool H.out) (Ext.auto))
   ·have e1' : (p.half != 0) = true := by simp [e1]
    clear e1
    go_enter Tryz.func102, Tryz.ntmps102
    go_wp2_with (go_at_call 143; with_reducible refine arm (Rank_any _ _) fun w1 hx hxc hxf hxb hxs => ?_; (try have := sW w w1))
    all_goals (go_ret; exact Ret.mk' (vbool H.out) (Ext.auto))
def rightB (p : Pos) : Bool := piecesB p && castlesB p && overB p && decide (0 ≤ p.half ∧ p.half ≤ 1024 ∧ 1 ≤ p.full ∧ p.full ≤ 16384)
theorem Right_any (p : Pos) (w : World) : Calls Tryz.prog 66 #[.agg (posCells p)] w (Ret (.bool (rightB p)) w) := by
 have W1 := pieces_any p
 have W2 := castles_any p
 have W3 := over_any p
 cases h1 : piecesB p
 ·have H := hid (show false = rightB p by simp [rightB, h1])
  rw [h1] at W1
  clear h1
  go_enter Tryz.func66, Tryz.ntmps66
  go_wp2_with (first | (go_at_call 100; with_reducible refine arm (W1 _) fun w1 hx hxc hxf hxb hxs => ?_; (try have := sW w w1)) | (go_at_call 101; with_reducible refine arm (W2 _) fun w1 hx hxc hxf hxb hxs => ?_; (try have := sW w w1)) | (go_at_call 102; with_reducible refine arm (W3 _) fun w1 hx hxc hxf hxb hxs => ?_; (try have := sW w w1)))
  go_ret; exact Ret.mk' (vbool H.out) (Ext.auto)
 rw [h1] at W1
 cases h2 : castlesB p
 ·have H := hid (show false = rightB p by simp [rightB, h2])
  rw [h2] at W2
  clear h1 h2
  go_enter Tryz.func66, Tryz.ntmps66
  go_wp2_with (first | (go_at_call 100; with_reducible refine arm (W1 _) fun w1 hx hxc hxf hxb hxs => ?_; (try have := sW w w1)) | (go_at_call 101; with_reducible refine arm (W2 _) fun w1 hx hxc hxf hxb hxs => ?_; (try have := sW w w1)) | (go_at_call 102; with_reducible refine arm (W3 _) fun w1 hx hxc hxf hxb hxs => ?_; (try have := sW w w1)))
  go_ret; exact Ret.mk' (vbool H.out) (Ext.auto)
 rw [h2] at W2
 cases h3 : overB p
 ·have H := hid (show false = rightB p by simp [rightB, h3])
  rw [h3] at W3
  clear h1 h2 h3
  go_enter Tryz.func66, Tryz.ntmps66
  go_wp2_with (first | (go_at_call 100; with_reducible refine arm (W1 _) fun w1 hx hxc hxf hxb hxs => ?_; (try have := sW w w1)) | (go_at_call 101; with_reducible refine arm (W2 _) fun w1 hx hxc hxf hxb hxs => ?_; (try have := sW w w1)) | (go_at_call 102; with_reducible refine arm (W3 _) fun w1 hx hxc hxf hxb hxs => ?_; (try have := sW w w1)))
  go_ret; exact Ret.mk' (vbool H.out) (Ext.auto)
 rw [h3] at W3
 have H := hid (show rightB p = decide (0 ≤ p.half ∧ p.half ≤ 1024 ∧ 1 ≤ p.full ∧ p.full ≤ 16384) by simp [rightB, h1, h2, h3])
 clear h1 h2 h3
 go_enter Tryz.func66, Tryz.ntmps66
 go_wp2_with (first | (go_at_call 100; with_reducible refine arm (W1 _) fun w1 hx hxc hxf hxb hxs => ?_; (try have := sW w w1)) | (go_at_call 101; with_reducible refine arm (W2 _) fun w1 hx hxc hxf hxb hxs => ?_; (try have := sW w w1)) | (go_at_call 102; with_reducible refine arm (W3 _) fun w1 hx hxc hxf hxb hxs => ?_; (try have := sW w w1)))
 all_goals (go_ret; exact Ret.mk' (vbool (by rw [H.out]; go_light; rw [Bool.eq_iff_iff]; simp; omega)) (Ext.auto))
end Go.Proofs.YtdmgimfgoajmjaaGreatDoor
