/- A move in a position: which way it turns, where it takes, whether it is a long step, whether a rook goes with it. -/
import Derived.Test.YtdmgimfgoajmjaaGreatDoorC13
import Derived.Test.YtdmgimfgoajmjaaGreatDoorC02
import Derived.Test.YtdmgimfgoajmjaaGreatDoorC04
import Derived.Test.YtdmgimfgoajmjaaGreatDoorC07
set_option linter.unusedVariables false
set_option linter.unusedSimpArgs false
set_option maxRecDepth 100000
set_option maxHeartbeats 2000000
namespace Go.Proofs.YtdmgimfgoajmjaaGreatDoor
open Go.RowKit
theorem hc_turn {p : Pos} {m : Mv} {k s : Int} {b : Nat} {w : World} {t : TypeId} {fr : Nat × Nat} (hb : blk w b = some (.cells (handCells p m k s) t fr)) : w.cell? ⟨b, 128, none⟩ = some (.int .i64 p.turn) := (blk_cell hb _).trans (handCells_turn _ _ _ _)
theorem hc_castle {p : Pos} {m : Mv} {k s : Int} {b : Nat} {w : World} {t : TypeId} {fr : Nat × Nat} (hb : blk w b = some (.cells (handCells p m k s) t fr)) : w.cell? ⟨b, 129, none⟩ = some (.int .i64 p.castle) := (blk_cell hb _).trans (handCells_castle _ _ _ _)
theorem hc_over {p : Pos} {m : Mv} {k s : Int} {b : Nat} {w : World} {t : TypeId} {fr : Nat × Nat} (hb : blk w b = some (.cells (handCells p m k s) t fr)) : w.cell? ⟨b, 130, none⟩ = some (.int .i64 p.over) := (blk_cell hb _).trans (handCells_over _ _ _ _)
theorem hc_half {p : Pos} {m : Mv} {k s : Int} {b : Nat} {w : World} {t : TypeId} {fr : Nat × Nat} (hb : blk w b = some (.cells (handCells p m k s) t fr)) : w.cell? ⟨b, 131, none⟩ = some (.int .i64 p.half) := (blk_cell hb _).trans (handCells_half _ _ _ _)
theorem hc_full {p : Pos} {m : Mv} {k s : Int} {b : Nat} {w : World} {t : TypeId} {fr : Nat × Nat} (hb : blk w b = some (.cells (handCells p m k s) t fr)) : w.cell? ⟨b, 132, none⟩ = some (.int .i64 p.full) := (blk_cell hb _).trans (handCells_full _ _ _ _)
theorem hc_fr {p : Pos} {m : Mv} {k s : Int} {b : Nat} {w : World} {t : TypeId} {fr : Nat × Nat} (hb : blk w b = some (.cells (handCells p m k s) t fr)) : w.cell? ⟨b, 133, none⟩ = some (.int .i64 m.fr) := (blk_cell hb _).trans (handCells_fr _ _ _ _)
theorem hc_to {p : Pos} {m : Mv} {k s : Int} {b : Nat} {w : World} {t : TypeId} {fr : Nat × Nat} (hb : blk w b = some (.cells (handCells p m k s) t fr)) : w.cell? ⟨b, 134, none⟩ = some (.int .i64 m.to_) := (blk_cell hb _).trans (handCells_to _ _ _ _)
theorem hc_be {p : Pos} {m : Mv} {k s : Int} {b : Nat} {w : World} {t : TypeId} {fr : Nat × Nat} (hb : blk w b = some (.cells (handCells p m k s) t fr)) : w.cell? ⟨b, 135, none⟩ = some (.int .i64 m.be) := (blk_cell hb _).trans (handCells_be _ _ _ _)
theorem hc_pk {p : Pos} {m : Mv} {k s : Int} {b : Nat} {w : World} {t : TypeId} {fr : Nat × Nat} (hb : blk w b = some (.cells (handCells p m k s) t fr)) : w.cell? ⟨b, 136, none⟩ = some (.int .i64 k) := (blk_cell hb _).trans (handCells_pk _ _ _ _)
theorem hc_ps {p : Pos} {m : Mv} {k s : Int} {b : Nat} {w : World} {t : TypeId} {fr : Nat × Nat} (hb : blk w b = some (.cells (handCells p m k s) t fr)) : w.cell? ⟨b, 137, none⟩ = some (.int .i64 s) := (blk_cell hb _).trans (handCells_ps _ _ _ _)
theorem hc_kind {p : Pos} {m : Mv} {k s : Int} {b : Nat} {w : World} {t : TypeId} {fr : Nat × Nat} (hb : blk w b = some (.cells (handCells p m k s) t fr)) (i : Nat) (h : i < 64) : w.cell? ⟨b, i * 2, none⟩ = some (.int .i64 (p.kind i)) := (blk_cell hb _).trans (handCells_kind _ _ _ _ _ h)
theorem hc_side {p : Pos} {m : Mv} {k s : Int} {b : Nat} {w : World} {t : TypeId} {fr : Nat × Nat} (hb : blk w b = some (.cells (handCells p m k s) t fr)) (i : Nat) (h : i < 64) : w.cell? ⟨b, i * 2 + 1, none⟩ = some (.int .i64 (p.side i)) := (blk_cell hb _).trans (handCells_side _ _ _ _ _ h)
def turnsOf (m : Mv) : Int := fileOf m.to_ - fileOf m.fr
theorem turns_any (p : Pos) (m : Mv) (k s : Int) (b : Nat) (w : World) (hb : blk w b = some (.cells (handCells p m k s) 190 (0, 0))) :
 Calls Tryz.prog 144 #[.pointer (some ⟨b, 0, none⟩)] w (Ret (.int .i64 (turnsOf m)) w) := by
 have hlt := blk_lt hb
 obtain ⟨f1, f2⟩ := file_bd m.to_
 obtain ⟨f3, f4⟩ := file_bd m.fr
 have c1 := hc_fr hb
 have c2 := hc_to hb
 clear hb
 have e : IntKind.i64.wrap (fileOf m.to_ - fileOf m.fr) = fileOf m.to_ - fileOf m.fr := IntWalk.i64_in _ (by omega)
 go_enter Tryz.func144, Tryz.ntmps144
 go_wp2
 refine wp_quiet (by kernel_rfl) (by kernel_rfl) ?_; (repeat (first | go_big_quiet_step ((go_at_call 145; with_reducible exact Calls.reg (File_any _ _))) | quiet_step ((go_at_call 145; with_reducible exact Calls.reg (File_any _ _))))); refine wpQuiet_nil ?_; intro w1 hx; obtain ⟨hxc, hxf, hxb, hxs⟩ := hx.als; (try have := sA b w1.heap.size); (try have := sW w w1)
 go_wp2
 go_ret
 exact Ret.mk' rfl (Ext.auto)
def bareB (p : Pos) (s : Int) : Bool := p.kind s.toNat == 0 && p.side s.toNat == 0
def takesAt (p : Pos) (m : Mv) (k : Int) : Int := if k = 1 ∧ turnsOf m ≠ 0 ∧ m.to_ = p.over ∧ bareB p m.to_ = true then m.fr / 8 * 8 + m.to_ % 8 else m.to_
def takesOf (p : Pos) (m : Mv) (k : Int) : Int := if bareB p (takesAt p m k) = true then -1 else takesAt p m k
theorem takes_any (p : Pos) (m : Mv) (k s : Int) (b : Nat) (w : World) (hb : blk w b = some (.cells (handCells p m k s) 190 (0, 0))) (f0 : 0 ≤ m.fr) (f1 : m.fr < 64) (t0 : 0 ≤ m.to_) (t1 : m.to_ < 64) :
 Calls Tryz.prog 96 #[.pointer (some ⟨b, 0, none⟩)] w (Ret (.int .i64 (takesOf p m k)) w) := by
 have hlt := blk_lt hb
 have T := fun w' (hb' : blk w' b = some (.cells (handCells p m k s) 190 (0, 0))) => turns_any p m k s b w' hb'
 have t2 : m.to_.toNat < 64 := by omega
 have c1 := hc_pk hb
 have c2 := hc_over hb
 have c3 := hc_to hb
 have c5 := hc_fr hb
 have c6 := hc_kind hb _ t2
 have c7 := hc_side hb _ t2
 by_cases h : k = 1 ∧ turnsOf m ≠ 0 ∧ m.to_ = p.over ∧ bareB p m.to_ = true
 ·have e1 : takesAt p m k = m.fr / 8 * 8 + m.to_ % 8 := if_pos h
  obtain ⟨h1, h2, h3, h4⟩ := h
  subst h1
  have e2 : numOf (fileOf m.to_) (rankOf m.fr) = m.fr / 8 * 8 + m.to_ % 8 := by
   have q1 : fileOf m.to_ = m.to_ % 8 := if_pos ⟨t0, t1⟩
   have q2 : rankOf m.fr = m.fr / 8 := if_pos ⟨f0, f1⟩
   rw [q1, q2]
   exact if_pos (by omega)
  have a0 : 0 ≤ m.fr / 8 * 8 + m.to_ % 8 := by omega
  have a1 : m.fr / 8 * 8 + m.to_ % 8 < 64 := by omega
  have e3 : takesOf p m 1 = if bareB p (m.fr / 8 * 8 + m.to_ % 8) = true then -1 else m.fr / 8 * 8 + m.to_ % 8 := by unfold takesOf; rw [e1]
  obtain ⟨b1, b2⟩ := file_bd m.to_
  obtain ⟨b3, b4⟩ := rank_bd m.fr
  have A := fun w => At_any (fileOf m.to_) (rankOf m.fr) w (by omega) (by omega) (by omega) (by omega)
  rw [e2] at A
  generalize m.fr / 8 * 8 + m.to_ % 8 = z at *
  have z2 : z.toNat < 64 := by omega
  have d6 := hc_kind hb _ z2
  have d7 := hc_side hb _ z2
  have g2 : (turnsOf m != 0) = true := by simpa using h2
  have g3 : (m.to_ == p.over) = true := by simpa using h3
  have g4 : (p.kind m.to_.toNat == 0 && p.side m.to_.toNat == 0) = true := h4
  clear e1 e2 h2 h3 h4 b1 b2 b3 b4
  cases h5 : bareB p z
  ·have E := hid (show takesOf p m 1 = z by rw [e3, h5]; rfl)
   have g5 : (p.kind z.toNat == 0 && p.side z.toNat == 0) = false := h5
   clear e3 h5
   go_enter Tryz.func96, Tryz.ntmps96
   go_wp2_with (go_at_call 144; with_reducible refine arm (T _ hb) fun w1 hx hxc hxf hxb hxs => ?_; (try have := sA b w1.heap.size); (try have := sW w w1))
   refine wp_quiet (by kernel_rfl) (by kernel_rfl) ?_; (repeat (first | go_big_quiet_step (first | (go_at_call 145; with_reducible exact Calls.reg (File_any _ _)) | (go_at_call 143; with_reducible exact Calls.reg (Rank_any _ _)) | (go_at_call 141; with_reducible exact Calls.reg (A _))) | quiet_step (first | (go_at_call 145; with_reducible exact Calls.reg (File_any _ _)) | (go_at_call 143; with_reducible exact Calls.reg (Rank_any _ _)) | (go_at_call 141; with_reducible exact Calls.reg (A _))))); refine wpQuiet_nil ?_; intro w1 hx; obtain ⟨hxc, hxf, hxb, hxs⟩ := hx.als; (try have := sA b w1.heap.size); (try have := sW w w1)
   go_wp2
   go_ret
   exact Ret.mk' (vint E.out.symm) (Ext.auto)
  ·have E := hid (show takesOf p m 1 = -1 by rw [e3, h5]; rfl)
   have g5 : (p.kind z.toNat == 0 && p.side z.toNat == 0) = true := h5
   clear e3 h5
   go_enter Tryz.func96, Tryz.ntmps96
   go_wp2_with (go_at_call 144; with_reducible refine arm (T _ hb) fun w1 hx hxc hxf hxb hxs => ?_; (try have := sA b w1.heap.size); (try have := sW w w1))
   refine wp_quiet (by kernel_rfl) (by kernel_rfl) ?_; (repeat (first | go_big_quiet_step (first | (go_at_call 145; with_reducible exact Calls.reg (File_any _ _)) | (go_at_call 143; with_reducible exact Calls.reg (Rank_any _ _)) | (go_at_call 141; with_reducible exact Calls.reg (A _))) | quiet_step (first | (go_at_call 145; with_reducible exact Calls.reg (File_any _ _)) | (go_at_call 143; with_reducible exact Calls.reg (Rank_any _ _)) | (go_at_call 141; with_reducible exact Calls.reg (A _))))); refine wpQuiet_nil ?_; intro w1 hx; obtain ⟨hxc, hxf, hxb, hxs⟩ := hx.als; (try have := sA b w1.heap.size); (try have := sW w w1)
   go_wp2
   go_ret
   exact Ret.mk' (vint E.out.symm) (Ext.auto)
 ·have e1 : takesAt p m k = m.to_ := if_neg h
  have hd : (k == 1) = false ∨ ((k == 1) = true ∧ (turnsOf m != 0) = false) ∨ ((k == 1) = true ∧ (turnsOf m != 0) = true ∧ (m.to_ == p.over) = false) ∨ ((k == 1) = true ∧ (turnsOf m != 0) = true ∧ (m.to_ == p.over) = true ∧ bareB p m.to_ = false) := by
   cases h1 : (k == 1)
   ·exact .inl rfl
   ·cases h2 : (turnsOf m != 0)
    ·exact .inr (.inl ⟨rfl, rfl⟩)
    ·cases h3 : (m.to_ == p.over)
     ·exact .inr (.inr (.inl ⟨rfl, rfl, rfl⟩))
     ·cases h4 : bareB p m.to_
      ·exact .inr (.inr (.inr ⟨rfl, rfl, rfl, rfl⟩))
      ·exact absurd ⟨by simpa using h1, by simpa using h2, by simpa using h3, h4⟩ h
  have e3 : takesOf p m k = if bareB p m.to_ = true then -1 else m.to_ := by unfold takesOf; rw [e1]
  clear h e1
  rcases hd with g1 | ⟨g1, g2⟩ | ⟨g1, g2, g3⟩ | ⟨g1, g2, g3, h4⟩
  case inr.inr.inr =>
   have E := hid (show takesOf p m k = m.to_ by rw [e3, h4]; rfl)
   have g4 : (p.kind m.to_.toNat == 0 && p.side m.to_.toNat == 0) = false := h4
   clear e3 h4
   go_enter Tryz.func96, Tryz.ntmps96
   go_wp2_with (go_at_call 144; with_reducible refine arm (T _ hb) fun w1 hx hxc hxf hxb hxs => ?_; (try have := sA b w1.heap.size); (try have := sW w w1))
   go_ret
   exact Ret.mk' (vint E.out.symm) (Ext.auto)
  all_goals
   cases h4 : bareB p m.to_
   ·have E := hid (show takesOf p m k = m.to_ by rw [e3, h4]; rfl)
    have g4 : (p.kind m.to_.toNat == 0 && p.side m.to_.toNat == 0) = false := h4
    clear e3 h4
    go_enter Tryz.func96, Tryz.ntmps96
    go_wp2_with (go_at_call 144; with_reducible refine arm (T _ hb) fun w1 hx hxc hxf hxb hxs => ?_; (try have := sA b w1.heap.size); (try have := sW w w1))
    go_ret
    exact Ret.mk' (vint E.out.symm) (Ext.auto)
   ·have E := hid (show takesOf p m k = -1 by rw [e3, h4]; rfl)
    have g4 : (p.kind m.to_.toNat == 0 && p.side m.to_.toNat == 0) = true := h4
    clear e3 h4
    go_enter Tryz.func96, Tryz.ntmps96
    go_wp2_with (go_at_call 144; with_reducible refine arm (T _ hb) fun w1 hx hxc hxf hxb hxs => ?_; (try have := sA b w1.heap.size); (try have := sW w w1))
    go_ret
    exact Ret.mk' (vint E.out.symm) (Ext.auto)
end Go.Proofs.YtdmgimfgoajmjaaGreatDoor
