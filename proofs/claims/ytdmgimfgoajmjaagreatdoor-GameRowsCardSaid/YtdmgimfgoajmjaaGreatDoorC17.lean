/- The hand of a move, or why there is none. -/
import Derived.Test.YtdmgimfgoajmjaaGreatDoorC16
import Derived.Test.YtdmgimfgoajmjaaGreatDoorC14
import Derived.Test.YtdmgimfgoajmjaaGreatDoorC10
set_option linter.unusedVariables false
set_option linter.unusedSimpArgs false
set_option maxRecDepth 100000
set_option maxHeartbeats 4000000
namespace Go.Proofs.YtdmgimfgoajmjaaGreatDoor
open Go.RowKit
@[go_sem] theorem hand_fold (p : Pos) (a b c k s : Int) : posCells p ++ (#[.int .i64 a, .int .i64 b, .int .i64 c] ++ #[.int .i64 k, .int .i64 s]) = handCells p ⟨a, b, c⟩ k s := (handCells_eq p ⟨a, b, c⟩ k s).symm
@[go_sem] theorem hand_fold' (p : Pos) (a b c k s : Int) : posCells p ++ #[.int .i64 a, .int .i64 b, .int .i64 c, .int .i64 k, .int .i64 s] = handCells p ⟨a, b, c⟩ k s := (handCells_eq p ⟨a, b, c⟩ k s).symm
def rangeB (m : Mv) : Bool := decide (0 ≤ m.fr ∧ m.fr < 64 ∧ 0 ≤ m.to_ ∧ m.to_ < 64 ∧ m.fr ≠ m.to_)
def canOf (k s turn rk be : Int) : Bool := decide (1 ≤ k ∧ k ≤ 6 ∧ s = turn ∧ (s = 0 ∨ s = 1) ∧ ((k = 1 ∧ rk = 7 * (1 - s) ∧ 2 ≤ be ∧ be ≤ 5) ∨ (¬ (k = 1 ∧ rk = 7 * (1 - s)) ∧ be = 0)))
def canB (p : Pos) (m : Mv) : Bool := canOf (p.kind m.fr.toNat) (p.side m.fr.toNat) p.turn (rankOf m.to_) m.be
def takenE (p : Pos) (m : Mv) : Int := if rangeB m = true then (if canB p m = true then 0 else 8) else 6
def fixC (p : Pos) : Pos := if 0 ≤ p.castle ∧ p.castle ≤ 15 then p else { p with castle := 0 }
def TakenPost (p : Pos) (m : Mv) (w : World) (e : Ending) (w' : World) : Prop :=
 Ext w w' ∧ ((takenE p m ≠ 0 ∧ e = .returned (.tuple #[.pointer none, .int .i64 (takenE p m)])) ∨
  (takenE p m = 0 ∧ ∃ b, e = .returned (.tuple #[.pointer (some ⟨b, 0, none⟩), .int .i64 0]) ∧ w.heap.size ≤ b ∧ blk w' b = some (.cells (handCells (fixC p) m (p.kind m.fr.toNat) (p.side m.fr.toNat)) 190 (0, 0))))
theorem taken_bad {p : Pos} {m : Mv} {w w' : World} {x : Int} (h : takenE p m = x) (hx : x ≠ 0) (he : Ext w w') : TakenPost p m w (.returned (.tuple #[.pointer none, .int .i64 x])) w' := by
 subst h; exact ⟨he, .inl ⟨hx, rfl⟩⟩
theorem taken_good {p : Pos} {m : Mv} {w w' : World} {b : Nat} (h : takenE p m = 0) (he : Ext w w') (hb : w.heap.size ≤ b) (hh : blk w' b = some (.cells (handCells (fixC p) m (p.kind m.fr.toNat) (p.side m.fr.toNat)) 190 (0, 0))) :
 TakenPost p m w (.returned (.tuple #[.pointer (some ⟨b, 0, none⟩), .int .i64 0])) w' := ⟨he, .inr ⟨h, b, rfl, hb, hh⟩⟩
theorem taken_range (p : Pos) (m : Mv) (w : World) (h : rangeB m = false) : Calls Tryz.prog 95 #[.agg (posCells p), .agg #[.int .i64 m.fr, .int .i64 m.to_, .int .i64 m.be]] w (TakenPost p m w) := by
 have E := hid (show takenE p m = 6 by unfold takenE; rw [h]; rfl)
 have hh : isSq m.fr = false ∨ (isSq m.fr = true ∧ isSq m.to_ = false) ∨ (isSq m.fr = true ∧ isSq m.to_ = true ∧ (m.fr == m.to_) = true) := by
  simp only [rangeB, decide_eq_false_iff_not] at h
  by_cases h1 : 0 ≤ m.fr ∧ m.fr < 64
  ·by_cases h2 : 0 ≤ m.to_ ∧ m.to_ < 64
   ·exact .inr (.inr ⟨by simp [isSq, h1], by simp [isSq, h2], by simp; omega⟩)
   ·exact .inr (.inl ⟨by simp [isSq, h1], by simp only [isSq, decide_eq_false_iff_not]; exact h2⟩)
  ·exact .inl (by simp only [isSq, decide_eq_false_iff_not]; exact h1)
 clear h
 rcases hh with h1 | ⟨h1, h2⟩ | ⟨h1, h2, h3⟩
 all_goals
  go_enter Tryz.func95, Tryz.ntmps95
  go_wp2_with (go_at_call 142; with_reducible refine arm (Is_any _ _) fun w1 hx hxc hxf hxb hxs => ?_; (first | (have h4 := lt4 w.heap.size w1.heap.size (by omega)); (obtain ⟨hz00, hz01, hz02, hz03⟩ := h4) | (have h4 := lt3 w.heap.size w1.heap.size (by omega)); (obtain ⟨hz00, hz01, hz02⟩ := h4) | (have h4 := lt2 w.heap.size w1.heap.size (by omega)); (obtain ⟨hz00, hz01⟩ := h4) | have hz00 := lt1 w.heap.size w1.heap.size (by omega) | skip); (first | (have h4 := lt4 W.heap.size w1.heap.size (by omega)); (obtain ⟨hz10, hz11, hz12, hz13⟩ := h4) | (have h4 := lt3 W.heap.size w1.heap.size (by omega)); (obtain ⟨hz10, hz11, hz12⟩ := h4) | (have h4 := lt2 W.heap.size w1.heap.size (by omega)); (obtain ⟨hz10, hz11⟩ := h4) | have hz10 := lt1 W.heap.size w1.heap.size (by omega) | skip))
  go_ret2
  exact taken_bad E.out (by decide) (Ext.auto)
theorem taken_in (p : Pos) (m : Mv) (w : World) (h : rangeB m = true) : Calls Tryz.prog 95 #[.agg (posCells p), .agg #[.int .i64 m.fr, .int .i64 m.to_, .int .i64 m.be]] w (TakenPost p m w) := by
 have hE := hid (show takenE p m = if canB p m = true then 0 else 8 by unfold takenE; rw [h]; rfl)
 have hC := hid (show canB p m = canOf (p.kind m.fr.toNat) (p.side m.fr.toNat) p.turn (rankOf m.to_) m.be from rfl)
 simp only [rangeB, decide_eq_true_eq] at h
 obtain ⟨f0, f1, t0, t1, hne⟩ := h
 have i1 : isSq m.fr = true := by simp [isSq, f0, f1]
 have i2 : isSq m.to_ = true := by simp [isSq, t0, t1]
 have i3 : (m.fr == m.to_) = false := by simpa using hne
 have f2 : m.fr.toNat < 64 := by omega
 clear hne
 obtain ⟨r1, r2⟩ := rank_bd m.to_
 have hF : fixC p = { p with castle := 0 } ∧ (p.castle < 0 ∨ 15 < p.castle) ∨ fixC p = p ∧ 0 ≤ p.castle ∧ p.castle ≤ 15 := by
  by_cases h : 0 ≤ p.castle ∧ p.castle ≤ 15
  ·exact .inr ⟨if_pos h, h⟩
  ·exact .inl ⟨if_neg h, by omega⟩
 have hk : (p.kind m.fr.toNat == 1) = true ∨ (p.kind m.fr.toNat == 1) = false := by cases (p.kind m.fr.toNat == 1) <;> simp
 go_enter Tryz.func95, Tryz.ntmps95
 go_wp2_with (go_at_call 142; with_reducible refine arm (Is_any _ _) fun w1 hx hxc hxf hxb hxs => ?_; (first | (have h4 := lt4 w.heap.size w1.heap.size (by omega)); (obtain ⟨hz00, hz01, hz02, hz03⟩ := h4) | (have h4 := lt3 w.heap.size w1.heap.size (by omega)); (obtain ⟨hz00, hz01, hz02⟩ := h4) | (have h4 := lt2 w.heap.size w1.heap.size (by omega)); (obtain ⟨hz00, hz01⟩ := h4) | have hz00 := lt1 w.heap.size w1.heap.size (by omega) | skip); (first | (have h4 := lt4 W.heap.size w1.heap.size (by omega)); (obtain ⟨hz10, hz11, hz12, hz13⟩ := h4) | (have h4 := lt3 W.heap.size w1.heap.size (by omega)); (obtain ⟨hz10, hz11, hz12⟩ := h4) | (have h4 := lt2 W.heap.size w1.heap.size (by omega)); (obtain ⟨hz10, hz11⟩ := h4) | have hz10 := lt1 W.heap.size w1.heap.size (by omega) | skip))
 have hp : blk w1 w.heap.size = some (.cells (posCells p) 30 (0, 0)) := by simp [go_sem, *]
 have hm : blk w1 (w.heap.size + 1) = some (.cells #[.int .i64 m.fr, .int .i64 m.to_, .int .i64 m.be] 51 (0, 0)) := by simp [go_sem, *]
 have hxw : Ext w w1 := (Ext.auto)
 refine world_cut (fun W => blk W w.heap.size = some (.cells (posCells p) 30 (0, 0)) ∧ blk W (w.heap.size + 1) = some (.cells #[.int .i64 m.fr, .int .i64 m.to_, .int .i64 m.be] 51 (0, 0)) ∧ Ext w W) ⟨hp, hm, hxw⟩ ?_
 rintro W ⟨hpW, hmW, hxW⟩
 clear hp hm hxw hxs hxc hxf hxb hx hz00 hz01
 try clear hxs hxc hxf hxb hx hz00 hz01
 have hlW := blk_lt hmW
 have hlW0 := blk_lt hpW
 have hcm := blk_cell hmW
 have m0 := hcm 0
 have m1 := hcm 1
 have m2 := hcm 2
 simp only [List.getElem?_toArray, List.getElem?_cons_zero, List.getElem?_cons_succ] at m0 m1 m2
 have p0 := blk_cell hpW (m.fr.toNat * 2)
 have p1 := blk_cell hpW (m.fr.toNat * 2 + 1)
 have p2 := blk_cell hpW 128
 rw [posCells_kind _ _ f2] at p0
 rw [posCells_side _ _ f2] at p1
 rw [posCells_turn] at p2
 have HM := hid hmW
 clear hcm hmW
 have hF' : (fixC p = { p with castle := 0 } ∧ p.castle < 0) ∨ (fixC p = { p with castle := 0 } ∧ 15 < p.castle) ∨ (fixC p = p ∧ 0 ≤ p.castle ∧ p.castle ≤ 15) := by
  rcases hF with ⟨h, h' | h'⟩ | h
  ·exact .inl ⟨h, h'⟩
  ·exact .inr (.inl ⟨h, h'⟩)
  ·exact .inr (.inr h)
 clear hF
 rcases hF' with ⟨F, ca⟩ | ⟨F, ca⟩ | ⟨F, ca, cb⟩
 all_goals
  have HF := hid F
  clear F
  rcases hk with k2 | k2
  all_goals
   go_still_tail 8, (by kernel_rfl)
   change wpList _ _ _ _ _ W.drew
   go_wp2
   all_goals first
    | (go_ret2; rename_i hl; (try simp at hl); exact taken_bad (by go_light; rw [hE.out, hC.out]; first | (have K := eq_of_beq k2; rw [if_neg (show ¬ _ from by unfold canOf; simp only [decide_eq_true_eq]; omega)]) | (have K := ne_of_beq_false k2; rw [if_neg (show ¬ _ from by unfold canOf; simp only [decide_eq_true_eq]; omega)])) (by decide) (Ext.auto))
    | skip
 all_goals
  have hs : 0 ≤ p.turn ∧ p.turn ≤ 1 := by
   first
    | (have h0 : p.turn = 0 := by assumption
       omega)
    | (have h1 : (1 ≤ p.kind m.fr.toNat ∧ p.kind m.fr.toNat ≤ 6) ∧ ((p.turn != 0) = false ∨ (p.turn != 1) = false) := by assumption
       simp at h1; omega)
  obtain ⟨s0, s1⟩ := hs
  refine wp_quiet (by kernel_rfl) (by kernel_rfl) ?_; (repeat (first | go_big_quiet_step ((go_at_call 143; with_reducible exact Calls.reg (Rank_any _ _))) | quiet_step ((go_at_call 143; with_reducible exact Calls.reg (Rank_any _ _))))); refine wpQuiet_nil ?_; intro w1 hx; obtain ⟨hxc, hxf, hxb, hxs⟩ := hx.als; (first | (have h4 := lt4 w.heap.size w1.heap.size (by omega)); (obtain ⟨hz00, hz01, hz02, hz03⟩ := h4) | (have h4 := lt3 w.heap.size w1.heap.size (by omega)); (obtain ⟨hz00, hz01, hz02⟩ := h4) | (have h4 := lt2 w.heap.size w1.heap.size (by omega)); (obtain ⟨hz00, hz01⟩ := h4) | have hz00 := lt1 w.heap.size w1.heap.size (by omega) | skip); (first | (have h4 := lt4 W.heap.size w1.heap.size (by omega)); (obtain ⟨hz10, hz11, hz12, hz13⟩ := h4) | (have h4 := lt3 W.heap.size w1.heap.size (by omega)); (obtain ⟨hz10, hz11, hz12⟩ := h4) | (have h4 := lt2 W.heap.size w1.heap.size (by omega)); (obtain ⟨hz10, hz11⟩ := h4) | have hz10 := lt1 W.heap.size w1.heap.size (by omega) | skip)
  go_wp2
  all_goals
   go_ret2
   rename_i hl
   try simp at hl
   first
    | exact taken_bad (by go_light; rw [hE.out, hC.out]; first | (have K := eq_of_beq k2; rw [if_neg (show ¬ _ from by unfold canOf; simp only [decide_eq_true_eq]; omega)]) | (have K := ne_of_beq_false k2; rw [if_neg (show ¬ _ from by unfold canOf; simp only [decide_eq_true_eq]; omega)])) (by decide) (Ext.trans hxW (Ext.trans (Ext.auto) hx))
    | exact taken_good (by go_light; rw [hE.out, hC.out]; first | (have K := eq_of_beq k2; rw [if_pos (show _ from by unfold canOf; simp only [decide_eq_true_eq]; omega)]) | (have K := ne_of_beq_false k2; rw [if_pos (show _ from by unfold canOf; simp only [decide_eq_true_eq]; omega)])) (Ext.trans hxW (Ext.trans (Ext.auto) hx)) (by omega) (by
     rw [hxb _ (by omega), HF.out]
     have e1 : p.side m.fr.toNat = p.turn := by assumption
     first
      | (have e2 : p.turn = 0 := by assumption
         simp [go_sem, e1, e2]; done)
      | (simp [go_sem, e1]; done))
end Go.Proofs.YtdmgimfgoajmjaaGreatDoor
