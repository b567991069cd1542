/- Places of a board: what the functions of package square answer. -/
import Derived.Test.YtdmgimfgoajmjaaGreatDoorC01
set_option linter.unusedVariables false
set_option linter.unusedSimpArgs false
namespace Go.Proofs.YtdmgimfgoajmjaaGreatDoor
open Go.RowKit
def fileOf (s : Int) : Int := if 0 ≤ s ∧ s < 64 then s % 8 else -1
def rankOf (s : Int) : Int := if 0 ≤ s ∧ s < 64 then s / 8 else -1
def isSq (s : Int) : Bool := decide (0 ≤ s ∧ s < 64)
def inB (f r : Int) : Bool := decide (0 ≤ f ∧ f < 8 ∧ 0 ≤ r ∧ r < 8)
def numOf (f r : Int) : Int := if 0 ≤ f ∧ f < 8 ∧ 0 ≤ r ∧ r < 8 then r * 8 + f else -1
def onOf (s f r : Int) : Int × Int := if 0 ≤ s ∧ s < 64 then (s % 8 + f, s / 8 + r) else (-1, -1)
def stepOf (s f r : Int) : Int := numOf (onOf s f r).1 (onOf s f r).2
theorem isSq_true {s : Int} (h : isSq s = true) : 0 ≤ s ∧ s < 64 := of_decide_eq_true h
theorem isSq_false {s : Int} (h : isSq s = false) : ¬ (0 ≤ s ∧ s < 64) := of_decide_eq_false h
theorem file_bd (s : Int) : -1 ≤ fileOf s ∧ fileOf s ≤ 7 := by unfold fileOf; split <;> omega
theorem rank_bd (s : Int) : -1 ≤ rankOf s ∧ rankOf s ≤ 7 := by unfold rankOf; split <;> omega
theorem num_bd (f r : Int) : -1 ≤ numOf f r ∧ numOf f r ≤ 63 := by unfold numOf; split <;> omega
theorem step_bd (s f r : Int) : -1 ≤ stepOf s f r ∧ stepOf s f r ≤ 63 := num_bd _ _
def ofV (s : Int) : Value := .agg #[.int .i64 (fileOf s), .int .i64 (rankOf s), .bool (isSq s)]
theorem ofV_yes {s : Int} (h0 : 0 ≤ s) (h1 : s < 64) : ofV s = .agg #[.int .i64 (s % 8), .int .i64 (s / 8), .bool true] := by
 simp [ofV, fileOf, rankOf, isSq, h0, h1]
theorem ofV_no {s : Int} (h : ¬ (0 ≤ s ∧ s < 64)) : ofV s = .agg #[.int .i64 (-1), .int .i64 (-1), .bool false] := by
 simp [ofV, fileOf, rankOf, isSq, h]
theorem of_any (s : Int) (w : World) : Calls Tryz.prog 168 #[.int .i64 s] w (Ret (.agg #[.int .i64 (fileOf s), .int .i64 (rankOf s), .bool (isSq s)]) w) := by
 change Calls Tryz.prog 168 #[.int .i64 s] w (Ret (ofV s) w)
 by_cases h0 : 0 ≤ s
 ·by_cases h1 : s < 64
  ·have H := hid (ofV_yes h0 h1)
   go_enter Tryz.func168, Tryz.ntmps168
   go_wp2
   exact bodyPost_ret (v := .agg #[.int .i64 (s % 8), .int .i64 (s / 8), .bool true]) (by simp [results, Tryz.results168, go_sem]) rfl ⟨by rw [H.out], (Ext.auto)⟩
  ·have H := hid (ofV_no (s := s) (by omega))
   go_enter Tryz.func168, Tryz.ntmps168
   go_wp2
   exact bodyPost_ret (v := .agg #[.int .i64 (-1), .int .i64 (-1), .bool false]) (by simp [results, Tryz.results168, go_sem]) rfl ⟨by rw [H.out], (Ext.auto)⟩
 ·have H := hid (ofV_no (s := s) (by omega))
  go_enter Tryz.func168, Tryz.ntmps168
  go_wp2
  exact bodyPost_ret (v := .agg #[.int .i64 (-1), .int .i64 (-1), .bool false]) (by simp [results, Tryz.results168, go_sem]) rfl ⟨by rw [H.out], (Ext.auto)⟩
theorem u64_lt8 (f : Int) (h : -100 ≤ f) (h' : f ≤ 100) : (IntKind.u64.wrap f < 8) = (0 ≤ f ∧ f < 8) := by
 simp [IntKind.wrap, IntKind.bits, IntKind.signed]; omega
theorem u64_inB (f r : Int) (hf : -100 ≤ f) (hf' : f ≤ 100) (hr : -100 ≤ r) (hr' : r ≤ 100) : (decide (IntKind.u64.wrap f < 8) && decide (IntKind.u64.wrap r < 8)) = inB f r := by
 rw [Bool.eq_iff_iff]
 simp [u64_lt8 f hf hf', u64_lt8 r hr hr', inB, and_assoc]
theorem within_any (f r : Int) (w : World) (hf : -100 ≤ f) (hf' : f ≤ 100) (hr : -100 ≤ r) (hr' : r ≤ 100) :
 Calls Tryz.prog 187 #[.agg #[.int .i64 f, .int .i64 r]] w (Ret (.bool (inB f r)) w) := by
 have e := hid (u64_inB f r hf hf' hr hr')
 go_enter Tryz.func187, Tryz.ntmps187
 go_wp2
 ·have h : IntKind.u64.wrap f < 8 := by assumption
  go_ret
  exact Ret.mk' (vbool (by rw [← e.out]; simp [h])) (Ext.auto)
 ·have h : 8 ≤ IntKind.u64.wrap f := by assumption
  go_ret
  exact Ret.mk' (vbool (by rw [← e.out]; simp; omega)) (Ext.auto)
theorem number_any (f r : Int) (w : World) (hf : -100 ≤ f) (hf' : f ≤ 100) (hr : -100 ≤ r) (hr' : r ≤ 100) :
 Calls Tryz.prog 169 #[.agg #[.int .i64 f, .int .i64 r]] w (Ret (.int .i64 (numOf f r)) w) := by
 have W := within_any f r (hf := hf) (hf' := hf') (hr := hr) (hr' := hr')
 by_cases h : 0 ≤ f ∧ f < 8 ∧ 0 ≤ r ∧ r < 8
 ·rw [show inB f r = true by simp [inB, h]] at W
  have H := hid (show numOf f r = r * 8 + f by simp [numOf, h])
  go_enter Tryz.func169, Tryz.ntmps169
  go_wp2_with (go_at_call 187; with_reducible refine arm (W _) fun w1 hx hxc hxf hxb hxs => ?_; (try have := sW w w1))
  go_ret
  exact Ret.mk' (vint H.out.symm) (Ext.auto)
 ·rw [show inB f r = false by simp only [inB, h, decide_false]] at W
  have H := hid (show numOf f r = -1 by simp only [numOf, h, if_false])
  clear h
  go_enter Tryz.func169, Tryz.ntmps169
  go_wp2_with (go_at_call 187; with_reducible refine arm (W _) fun w1 hx hxc hxf hxb hxs => ?_; (try have := sW w w1))
  go_ret
  exact Ret.mk' (vint H.out.symm) (Ext.auto)
@[go_sem] theorem field_of_0 (x y z : Value) (w : World) : (Instr.field 207 (.agg #[x, y, z]) 0).run Tryz.prog w = .ok (.agg #[x, y]) w := by kernel_rfl
@[go_sem] theorem field_of_1 (x y z : Value) (w : World) : (Instr.field 207 (.agg #[x, y, z]) 1).run Tryz.prog w = .ok z w := by kernel_rfl
@[go_sem] theorem field_pair_0 (x y : Value) (w : World) : (Instr.field 205 (.agg #[x, y]) 0).run Tryz.prog w = .ok x w := by kernel_rfl
@[go_sem] theorem field_pair_1 (x y : Value) (w : World) : (Instr.field 205 (.agg #[x, y]) 1).run Tryz.prog w = .ok y w := by kernel_rfl
theorem Is_any (s : Int) (w : World) : Calls Tryz.prog 142 #[.int .i64 s] w (Ret (.bool (isSq s)) w) := by
 go_enter Tryz.func142, Tryz.ntmps142
 go_wp2_with (go_at_call 168; with_reducible refine arm (of_any _ _) fun w1 hx hxc hxf hxb hxs => ?_; (try have := sW w w1))
 go_ret
 exact Ret.mk' rfl (Ext.auto)
theorem Rank_any (s : Int) (w : World) : Calls Tryz.prog 143 #[.int .i64 s] w (Ret (.int .i64 (rankOf s)) w) := by
 go_enter Tryz.func143, Tryz.ntmps143
 go_wp2_with (go_at_call 168; with_reducible refine arm (of_any _ _) fun w1 hx hxc hxf hxb hxs => ?_; (try have := sW w w1))
 go_ret
 exact Ret.mk' rfl (Ext.auto)
theorem File_any (s : Int) (w : World) : Calls Tryz.prog 145 #[.int .i64 s] w (Ret (.int .i64 (fileOf s)) w) := by
 go_enter Tryz.func145, Tryz.ntmps145
 go_wp2_with (go_at_call 168; with_reducible refine arm (of_any _ _) fun w1 hx hxc hxf hxb hxs => ?_; (try have := sW w w1))
 go_ret
 exact Ret.mk' rfl (Ext.auto)
theorem At_any (f r : Int) (w : World) (hf : -100 ≤ f) (hf' : f ≤ 100) (hr : -100 ≤ r) (hr' : r ≤ 100) : Calls Tryz.prog 141 #[.int .i64 f, .int .i64 r] w (Ret (.int .i64 (numOf f r)) w) := by
 go_enter Tryz.func141, Tryz.ntmps141
 go_wp2_with (go_at_call 169; with_reducible refine arm (number_any _ _ _ hf hf' hr hr') fun w1 hx hxc hxf hxb hxs => ?_; (try have := sW w w1))
 go_ret
 exact Ret.mk' rfl (Ext.auto)
theorem on_any (s f r : Int) (w : World) (hf : -7 ≤ f) (hf' : f ≤ 7) (hr : -7 ≤ r) (hr' : r ≤ 7) :
 Calls Tryz.prog 172 #[.agg #[.int .i64 (fileOf s), .int .i64 (rankOf s), .bool (isSq s)], .int .i64 f, .int .i64 r] w (Ret (.agg #[.int .i64 (onOf s f r).1, .int .i64 (onOf s f r).2]) w) := by
 by_cases h : 0 ≤ s ∧ s < 64
 ·rw [show isSq s = true by simp [isSq, h], show fileOf s = s % 8 by simp [fileOf, h], show rankOf s = s / 8 by simp [rankOf, h], show onOf s f r = (s % 8 + f, s / 8 + r) by simp [onOf, h]]
  obtain ⟨h0, h1⟩ := h
  have a1 : decide (max f r < 8) = true := by simp; omega
  have a2 : decide (-8 < min f r) = true := by simp; omega
  go_enter Tryz.func172, Tryz.ntmps172
  go_wp2
  all_goals exact bodyPost_ret (v := .agg #[.int .i64 (s % 8 + f), .int .i64 (s / 8 + r)]) (by simp [results, Tryz.results172, go_sem]) rfl (Ret.mk' rfl (Ext.auto))
 ·rw [show isSq s = false by simp only [isSq, h, decide_false], show fileOf s = -1 by simp only [fileOf, h, if_false], show rankOf s = -1 by simp only [rankOf, h, if_false], show onOf s f r = (-1, -1) by simp only [onOf, h, if_false]]
  clear h
  go_enter Tryz.func172, Tryz.ntmps172
  go_wp2
  exact bodyPost_ret (v := .agg #[.int .i64 (-1), .int .i64 (-1)]) (by simp [results, Tryz.results172, go_sem]) rfl (Ret.mk' rfl (Ext.auto))
theorem onOf_bd (s f r : Int) (hf : -7 ≤ f) (hf' : f ≤ 7) (hr : -7 ≤ r) (hr' : r ≤ 7) : -100 ≤ (onOf s f r).1 ∧ (onOf s f r).1 ≤ 100 ∧ -100 ≤ (onOf s f r).2 ∧ (onOf s f r).2 ≤ 100 := by
 unfold onOf; split <;> simp <;> omega
theorem Step_any (s f r : Int) (w : World) (hf : -7 ≤ f) (hf' : f ≤ 7) (hr : -7 ≤ r) (hr' : r ≤ 7) :
 Calls Tryz.prog 151 #[.int .i64 s, .int .i64 f, .int .i64 r] w (Ret (.int .i64 (stepOf s f r)) w) := by
 obtain ⟨b1, b2, b3, b4⟩ := onOf_bd s f r hf hf' hr hr'
 go_enter Tryz.func151, Tryz.ntmps151
 go_wp2_with (first | (go_at_call 168; with_reducible refine arm (of_any _ _) fun w1 hx hxc hxf hxb hxs => ?_; (try have := sW w w1)) | (go_at_call 172; with_reducible refine arm (on_any _ _ _ _ hf hf' hr hr') fun w1 hx hxc hxf hxb hxs => ?_; (try have := sW w w1)) | (go_at_call 169; with_reducible refine arm (number_any _ _ _ b1 b2 b3 b4) fun w1 hx hxc hxf hxb hxs => ?_; (try have := sW w w1)))
 go_ret
 exact Ret.mk' rfl (Ext.auto)
def darkOf (s : Int) : Bool := decide (0 ≤ s ∧ s < 64 ∧ (s % 8 + s / 8) % 2 = 0)
theorem Dark_any (s : Int) (w : World) : Calls Tryz.prog 137 #[.int .i64 s] w (Ret (.bool (darkOf s)) w) := by
 have W := of_any s
 by_cases h : 0 ≤ s ∧ s < 64
 ·rw [show isSq s = true by simp [isSq, h], show fileOf s = s % 8 by simp [fileOf, h], show rankOf s = s / 8 by simp [rankOf, h]] at W
  have H := hid (show darkOf s = ((s % 8 + s / 8) % 2 == 0) by rw [Bool.eq_iff_iff]; simp [darkOf, h])
  obtain ⟨h0, h1⟩ := h
  go_enter Tryz.func137, Tryz.ntmps137
  go_wp2_with (go_at_call 168; with_reducible refine arm (W _) fun w1 hx hxc hxf hxb hxs => ?_; (try have := sW w w1))
  all_goals (go_ret; exact Ret.mk' (vbool (by rw [H.out])) (Ext.auto))
 ·rw [show isSq s = false by simp only [isSq, h, decide_false], show fileOf s = -1 by simp only [fileOf, h, if_false], show rankOf s = -1 by simp only [rankOf, h, if_false]] at W
  have H := hid (show darkOf s = false by simp only [darkOf]; rw [decide_eq_false_iff_not]; omega)
  clear h
  go_enter Tryz.func137, Tryz.ntmps137
  go_wp2_with (go_at_call 168; with_reducible refine arm (W _) fun w1 hx hxc hxf hxb hxs => ?_; (try have := sW w w1))
  all_goals (go_ret; exact Ret.mk' (vbool (by rw [H.out])) (Ext.auto))
end Go.Proofs.YtdmgimfgoajmjaaGreatDoor
