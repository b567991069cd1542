/- The position behind a move. -/
import Derived.Test.YtdmgimfgoajmjaaGreatDoorC17
import Derived.Test.YtdmgimfgoajmjaaGreatDoorC07
import Derived.Deep.DeepCutAuto
set_option linter.unusedVariables false
set_option linter.unusedSimpArgs false
set_option maxRecDepth 100000
set_option maxHeartbeats 4000000
namespace Go.Proofs.YtdmgimfgoajmjaaGreatDoor
open Go.RowKit
theorem alloc_ints2 (w : World) (x y : Int) (t : TypeId) : blk (w.alloc (.cells #[.int .i64 x, .int .i64 y] t (0, 0))) w.heap.size = some (.cells (ints [x, y]).toArray t (0, 0)) := blk_alloc_at _ _ _ rfl
theorem alloc_ints1 (w : World) (x : Int) (t : TypeId) : blk (w.alloc (.cells #[.int .i64 x] t (0, 0))) w.heap.size = some (.cells (ints [x]).toArray t (0, 0)) := blk_alloc_at _ _ _ rfl
theorem alloc_ints2d (w : World) (x y : Int) (t : TypeId) : blk (w.alloc (.cells #[.int .i64 x, .int .i64 y] t (0, 0))).drew w.heap.size = some (.cells (ints [x, y]).toArray t (0, 0)) := blk_alloc_at _ _ _ rfl
theorem alloc_ints1d (w : World) (x : Int) (t : TypeId) : blk (w.alloc (.cells #[.int .i64 x] t (0, 0))).drew w.heap.size = some (.cells (ints [x]).toArray t (0, 0)) := blk_alloc_at _ _ _ rfl
theorem hs_turn {P : Pos} {m : Mv} {k s c : Int} {b : Nat} {W : World} {t : TypeId} (h : blk W b = some (.cells (handCells P m k s) t (0, 0))) : blk (W.setCell ⟨b, 128, none⟩ (.int .i64 c)) b = some (.cells (handCells { P with turn := c } m k s) t (0, 0)) := by rw [blk_setCell_same _ _ _ _ _ _ h, hand_turn]
theorem hs_castle {P : Pos} {m : Mv} {k s c : Int} {b : Nat} {W : World} {t : TypeId} (h : blk W b = some (.cells (handCells P m k s) t (0, 0))) : blk (W.setCell ⟨b, 129, none⟩ (.int .i64 c)) b = some (.cells (handCells { P with castle := c } m k s) t (0, 0)) := by rw [blk_setCell_same _ _ _ _ _ _ h, hand_castle]
theorem hs_over {P : Pos} {m : Mv} {k s c : Int} {b : Nat} {W : World} {t : TypeId} (h : blk W b = some (.cells (handCells P m k s) t (0, 0))) : blk (W.setCell ⟨b, 130, none⟩ (.int .i64 c)) b = some (.cells (handCells { P with over := c } m k s) t (0, 0)) := by rw [blk_setCell_same _ _ _ _ _ _ h, hand_over]
theorem hs_half {P : Pos} {m : Mv} {k s c : Int} {b : Nat} {W : World} {t : TypeId} (h : blk W b = some (.cells (handCells P m k s) t (0, 0))) : blk (W.setCell ⟨b, 131, none⟩ (.int .i64 c)) b = some (.cells (handCells { P with half := c } m k s) t (0, 0)) := by rw [blk_setCell_same _ _ _ _ _ _ h, hand_half]
theorem hs_full {P : Pos} {m : Mv} {k s c : Int} {b : Nat} {W : World} {t : TypeId} (h : blk W b = some (.cells (handCells P m k s) t (0, 0))) : blk (W.setCell ⟨b, 132, none⟩ (.int .i64 c)) b = some (.cells (handCells { P with full := c } m k s) t (0, 0)) := by rw [blk_setCell_same _ _ _ _ _ _ h, hand_full]
def beOf (m : Mv) (k : Int) : Int := if m.be ≠ 0 then m.be else k
def stood (p : Pos) (m : Mv) (k s : Int) : Pos :=
 let q := putAll (putAll p 0 0 [takesOf p m k, m.fr]) (beOf m k) s [m.to_]
 if (rookOf p m k s).2.2 = true then putAll (putAll q 0 0 [(rookOf p m k s).1]) 4 s [(rookOf p m k s).2.1] else q
theorem andNot16 : ∀ x y : Fin 16, IntKind.i64.wrap ((((BitVec.ofInt 64 (x.val : Int)) &&& ~~~ (BitVec.ofInt 64 (y.val : Int))).toNat : Nat) : Int) = ((x.val &&& (15 ^^^ y.val) : Nat) : Int) := by decide +kernel
def notI (x y : Int) : Int := ((x.toNat &&& (15 ^^^ y.toNat) : Nat) : Int)
@[go_sem high] theorem intBits_andNot (x y : Int) (hx : 0 ≤ x) (hx' : x ≤ 15) (hy : 0 ≤ y) (hy' : y ≤ 15) : Op.intBits .andNot .i64 x y = pure (.int .i64 (notI x y)) := by
  have e := andNot16 ⟨x.toNat, by omega⟩ ⟨y.toNat, by omega⟩
  simp only [Int.toNat_of_nonneg hx, Int.toNat_of_nonneg hy] at e
  show (pure (Value.int .i64 (IntKind.i64.wrap ((((BitVec.ofInt 64 x) &&& ~~~ (BitVec.ofInt 64 y)).toNat : Nat) : Int))) : Sem Value) = _
  rw [e]; rfl
def overOf (m : Mv) (k s : Int) : Int := if longB m k s = true then (m.fr + m.to_) / 2 else -1
theorem putAll_castle (x y : Int) : ∀ (l : List Int) (p : Pos), (putAll p x y l).castle = p.castle
 | [], _ => rfl
 | t :: r, p => by rw [putAll, putAll_castle x y r]; split <;> rfl
theorem putAll_rest (x y : Int) : ∀ (l : List Int) (p : Pos), (putAll p x y l).turn = p.turn ∧ (putAll p x y l).over = p.over ∧ (putAll p x y l).half = p.half ∧ (putAll p x y l).full = p.full
 | [], _ => ⟨rfl, rfl, rfl, rfl⟩
 | t :: r, p => by rw [putAll]; have := putAll_rest x y r (if 0 ≤ t ∧ t < 64 then p.put t x y else p); rw [this.1, this.2.1, this.2.2.1, this.2.2.2]; split <;> exact ⟨rfl, rfl, rfl, rfl⟩
theorem stood_castle (p : Pos) (m : Mv) (k s : Int) : (stood p m k s).castle = p.castle := by unfold stood; dsimp only; split <;> simp only [putAll_castle]
theorem stood_rest (p : Pos) (m : Mv) (k s : Int) : (stood p m k s).turn = p.turn ∧ (stood p m k s).half = p.half ∧ (stood p m k s).full = p.full := by unfold stood; dsimp only; split <;> simp only [putAll_rest, and_self]
def quietB (p : Pos) (m : Mv) (k : Int) : Bool := takesOf p m k == -1 && k != 1
def upTo (a b : Int) : Int := wrap64 ((if a < b then a else b) + 1)
theorem upTo_hi {a b : Int} (h : a < b) (h2 : 0 ≤ a) (h3 : a ≤ 100000) : upTo a b = a + 1 := by unfold upTo wrap64; rw [if_pos h]; omega
theorem upTo_lo {a b : Int} (h : ¬ a < b) : upTo a b = wrap64 (b + 1) := by unfold upTo; rw [if_neg h]
def halfOf (p : Pos) (m : Mv) (k : Int) : Int := if quietB p m k = true then upTo 1023 p.half else 0
def fullOf (p : Pos) : Int := if p.turn = 1 then upTo 16383 p.full else p.full
def madeP (p : Pos) (m : Mv) (k s : Int) : Pos :=
 { stood p m k s with
  over := overOf m k s
  castle := notI p.castle (lostL [m.fr, m.to_])
  half := halfOf p m k
  full := fullOf p
  turn := otherOf p.turn }
abbrev MS.T (P : Pos) (m : Mv) (k s x : Int) (b g : Nat) (w W : World) : Prop :=
 blk W b = some (.cells (handCells P m k s) 190 (0, 0)) ∧ blk W g = some (.cells #[.int .i64 x, .int .i64 s] 26 (0, 0)) ∧ blk W w.heap.size = some (.cells (posCells Pos.zero) 30 (0, 0)) ∧ Chg b w W ∧
 W.cell? ⟨b, 134, none⟩ = some (.int .i64 m.to_) ∧ W.cell? ⟨b, 133, none⟩ = some (.int .i64 m.fr) ∧ W.cell? ⟨b, 129, none⟩ = some (.int .i64 P.castle) ∧ W.cell? ⟨g, 0, none⟩ = some (.int .i64 x) ∧ W.cell? ⟨g, 1, none⟩ = some (.int .i64 s)
def MS (P : Pos) (m : Mv) (k s x : Int) (b g : Nat) (w W : World) : Prop := MS.T P m k s x b g w W
theorem MS.u {P m k s x b g w} (W) (h : MS P m k s x b g w W) : MS.T P m k s x b g w W := h
theorem MS.mk' {P : Pos} {m : Mv} {k s x : Int} {b g : Nat} {w W : World} (h1 : blk W b = some (.cells (handCells P m k s) 190 (0, 0))) (h2 : blk W g = some (.cells #[.int .i64 x, .int .i64 s] 26 (0, 0)))
 (h3 : blk W w.heap.size = some (.cells (posCells Pos.zero) 30 (0, 0))) (h4 : Chg b w W) : MS P m k s x b g w W := ⟨h1, h2, h3, h4, hc_to h1, hc_fr h1, hc_castle h1, blk_cell h2 0, blk_cell h2 1⟩
theorem MS.hb {P : Pos} {m : Mv} {k s x : Int} {b g : Nat} {w W : World} (h : MS P m k s x b g w W) : blk W b = some (.cells (handCells P m k s) 190 (0, 0)) := h.1
theorem MS.lt {P : Pos} {m : Mv} {k s x : Int} {b g : Nat} {w W : World} (h : MS P m k s x b g w W) : b < W.heap.size := blk_lt h.1
theorem MS.g1 {P : Pos} {m : Mv} {k s x : Int} {b g : Nat} {w W : World} (h : MS P m k s x b g w W) : W.cell? ⟨g, 1, none⟩ = some (.int .i64 s) := blk_cell h.2.1 1
theorem MS.hz {P : Pos} {m : Mv} {k s x : Int} {b g : Nat} {w W : World} (h : MS P m k s x b g w W) : blk W w.heap.size = some (.cells (posCells Pos.zero) 30 (0, 0)) := h.2.2.1
theorem MS.ch {P : Pos} {m : Mv} {k s x : Int} {b g : Nat} {w W : World} (h : MS P m k s x b g w W) : Chg b w W := h.2.2.2.1
theorem MS.ext {P : Pos} {m : Mv} {k s x : Int} {b g : Nat} {w W W' : World} (h : MS P m k s x b g w W) (hx : Ext W W') : MS P m k s x b g w W' :=
 MS.mk' ((hx.blk _ (blk_lt h.1)).trans h.1) ((hx.blk _ (blk_lt h.2.1)).trans h.2.1) ((hx.blk _ (blk_lt h.2.2.1)).trans h.2.2.1) (h.2.2.2.1.exts hx)
theorem MS.chg {P P' : Pos} {m : Mv} {k s x : Int} {b g : Nat} {w W W' : World} (h : MS P m k s x b g w W) (hx : Chg b W W') (hgb : g ≠ b) (hwb : w.heap.size ≠ b) (hb : blk W' b = some (.cells (handCells P' m k s) 190 (0, 0))) : MS P' m k s x b g w W' :=
 MS.mk' hb (hx.cells h.2.1 hgb) (hx.cells h.2.2.1 hwb) (h.2.2.2.1.trans hx)
theorem MS.turn {P : Pos} {m : Mv} {k s x c : Int} {b g : Nat} {w W : World} (h : MS P m k s x b g w W) (hgb : g ≠ b) (hwb : w.heap.size ≠ b) : MS { P with turn := c } m k s x b g w (W.setCell ⟨b, 128, none⟩ (.int .i64 c)) := h.chg (Chg.set (Chg.refl _ _) rfl _) hgb hwb (hs_turn h.hb)
theorem MS.half {P : Pos} {m : Mv} {k s x c : Int} {b g : Nat} {w W : World} (h : MS P m k s x b g w W) (hgb : g ≠ b) (hwb : w.heap.size ≠ b) : MS { P with half := c } m k s x b g w (W.setCell ⟨b, 131, none⟩ (.int .i64 c)) := h.chg (Chg.set (Chg.refl _ _) rfl _) hgb hwb (hs_half h.hb)
theorem MS.full {P : Pos} {m : Mv} {k s x c : Int} {b g : Nat} {w W : World} (h : MS P m k s x b g w W) (hgb : g ≠ b) (hwb : w.heap.size ≠ b) : MS { P with full := c } m k s x b g w (W.setCell ⟨b, 132, none⟩ (.int .i64 c)) := h.chg (Chg.set (Chg.refl _ _) rfl _) hgb hwb (hs_full h.hb)
theorem made_any (p : Pos) (m : Mv) (k s : Int) (b : Nat) (w : World) (hb : blk w b = some (.cells (handCells p m k s) 190 (0, 0))) (f0 : 0 ≤ m.fr) (f1 : m.fr < 64) (t0 : 0 ≤ m.to_) (t1 : m.to_ < 64)
 (hs : s = 0 ∨ s = 1) (p0 : 0 ≤ p.castle) (p1 : p.castle ≤ 15) :
 Calls Tryz.prog 181 #[.pointer (some ⟨b, 0, none⟩)] w fun e w' => e = .returned (.agg (posCells (madeP p m k s))) ∧ Chg b w w' := by
 have hlt := blk_lt hb
 go_enter Tryz.func181, Tryz.ntmps181
 go_upto_if 18 with (first
  | (go_at_call 96; (with_reducible refine (takes_any p m k s b _ (by simp [go_sem, hlt, hb]) f0 f1 t0 t1).mono ?_); rintro e w1 ⟨rfl, hx⟩; have hb1 := (hx.blk _ (by simp; omega)).trans (show blk _ b = _ from by simp [go_sem, hlt]; exact hb))
  | (go_at_call 210; (with_reducible refine (rook_any p m k s b _ hb1 hs p0 p1).mono ?_); rintro e w2 ⟨rfl, hx2⟩; have hb2 := (hx2.blk _ (blk_lt hb1)).trans hb1)
  | (go_at_call 211; (with_reducible refine (long_any p m k s b _ hb2 hs).mono ?_); rintro e w3 ⟨rfl, hx3⟩; have hb3 := (hx3.blk _ (blk_lt hb2)).trans hb2))
 have hz1 : blk w3 w.heap.size = some (.cells (posCells Pos.zero) 30 (0, 0)) := ((hx2.trans hx3).blk _ (by have := hx.le; simp at this; omega)).trans ((hx.blk _ (by simp)).trans (by simp [go_sem]))
 have hxw : Ext w w3 := Ext.trans (Ext.trans (Ext.trans (Ext.auto) hx) hx2) hx3
 clear hb1 hb2 hx hx2 hx3
 go_cut [7] (fun s7 wx => s7 = .int .i64 (overOf m k s) ∧ blk wx b = some (.cells (handCells p m k s) 190 (0, 0)) ∧ blk wx w.heap.size = some (.cells (posCells Pos.zero) 30 (0, 0)) ∧ Chg b w wx)
 case first =>
  have hl3 := blk_lt hb3
  have c5 := hc_fr hb3
  have c6 := hc_to hb3
  cases hl : longB m k s
  ·have HO := hid (show overOf m k s = -1 by unfold overOf; rw [hl]; rfl)
   go_wp2
   go_meet
   case rel => exact ⟨by rw [HO.out], hb3, hz1, Chg.ext hxw⟩
  ·have HO := hid (show overOf m k s = (m.fr + m.to_) / 2 by unfold overOf; rw [hl]; rfl)
   go_wp2
   refine wp_quiet (by kernel_rfl) (by kernel_rfl) ?_; (repeat (first | go_big_quiet_step (fail) | quiet_step (fail))); refine wpQuiet_nil ?_; intro w1 hx; obtain ⟨hxc, hxf, hxb, hxs⟩ := hx.als; (try have := sW w w1); (try have := sA b w1.heap.size)
   go_wp2
   go_meet
   case rel => exact ⟨by rw [HO.out], (hx.blk _ hl3).trans hb3, (hx.blk _ (blk_lt hz1)).trans hz1, Chg.ext (hxw.trans hx)⟩
 case rest =>
  obtain ⟨rfl, hb4, hz4, hc4⟩ := hcut
  clear hb3 hz1 hxw
  have hl4 := blk_lt hb4
  have d1 := hc_pk hb4
  have d2 := hc_ps hb4
  have d3 := hc_be hb4
  have HB := hid hb4
  have HZ := hid hz4
  go_upto_if 40 with (fail)
  go_cut [8] (fun s8 wx => ∃ g : Nat, s8 = .pointer (some ⟨g, 0, none⟩) ∧ g ≠ b ∧ w.heap.size < g ∧ blk wx g = some (.cells #[.int .i64 (beOf m k), .int .i64 s] 26 (0, 0)) ∧ blk wx b = some (.cells (handCells p m k s) 190 (0, 0)) ∧ blk wx w.heap.size = some (.cells (posCells Pos.zero) 30 (0, 0)) ∧ Chg b w wx)
  case first =>
   by_cases hbe : m.be = 0
   ·have HO := hid (show beOf m k = k by unfold beOf; rw [if_neg (by simp [hbe])])
    have g1 : (m.be != 0) = false := by simp [hbe]
    clear hbe
    go_wp2
    go_meet
    case rel => exact ⟨wc.heap.size, by rfl, by omega, blk_lt HZ.out, by rw [HO.out]; simp [go_sem], (blk_alloc_past _ _ _ hl4).trans HB.out, (blk_alloc_past _ _ _ (blk_lt HZ.out)).trans HZ.out, hc4.alloc _⟩
   ·have HO := hid (show beOf m k = m.be by unfold beOf; rw [if_pos hbe])
    have g1 : (m.be != 0) = true := by simp [hbe]
    go_wp2
    go_meet
    case rel => exact ⟨wc.heap.size, by rfl, by omega, blk_lt HZ.out, by rw [HO.out]; simp [go_sem], (blk_alloc_past _ _ _ hl4).trans HB.out, (blk_alloc_past _ _ _ (blk_lt HZ.out)).trans HZ.out, hc4.alloc _⟩
  case rest =>
   clear hb4 hz4 hc4 hl4 d1 d2 d3 HB HZ
   obtain ⟨g, rfl, hgb, hgw, hg5, hb5, hz5, hc5⟩ := hcut
   have hl5 := blk_lt hb5
   have c5 := hc_fr hb5
   go_wp2_with (go_at_call 212; (with_reducible refine (set_any p m k s 0 0 b _ _ _ [takesOf p m k, m.fr] 2 rfl (by simp) _ ((blk_alloc_past _ _ _ hl5).trans hb5) (alloc_ints2 _ _ _ _) (by omega)).mono ?_); rintro e w6 ⟨rfl, hb6, hx6⟩)
   have hwb : w.heap.size ≠ b := by omega
   have hM : MS p m k s (beOf m k) b g w wc := MS.mk' hb5 hg5 hz5 hc5
   clear hb5 hz5 hc5 hg5 c5 hl5
   have hM6 : MS (putAll p 0 0 [takesOf p m k, m.fr]) m k s (beOf m k) b g w w6 := (hM.ext (Ext.alloc (Ext.refl _) _)).chg hx6 hgb hwb hb6
   clear hb6 hx6 hM
   generalize hp6 : putAll p 0 0 [takesOf p m k, m.fr] = p6 at hM6
   have HP6 := hid hp6
   clear hp6
   refine wp_region_split 8 (MS p6 m k s (beOf m k) b g w) (by kernel_rfl) (by kernel_rfl) (hM6.ext (Ext.drew (Ext.refl _))) (fun hH => ?_)
   simp only [List.take_succ_cons, List.take_zero, List.drop_succ_cons, List.drop_zero]
   refine hTz MS.u 0 ?_; (try go_frame)
   refine hTz MS.u 1 ?_; (try go_frame)
   refine hTz MS.u 2 ?_; (try go_frame)
   refine hTz MS.u 3 ?_; (try go_frame)
   refine hTz MS.u 4 ?_; (try go_frame)
   refine hTz MS.u 5 ?_; (try go_frame)
   refine hTz MS.u 6 ?_; (try go_frame)
   refine hRy [7] (hCp (fun K hK => ?_) AllReadyH.nil); go_simp
   refine hK.out _ _ (hH.ext (Ext.alloc (Ext.refl _) _)) (fun hH => ?_); clear hK; (try go_frame)
   refine wpAnyH_done (by kernel_rfl) ?_ _
   simp only [splitQ]
   have hH' : MS p6 m k s (beOf m k) b g w (w6.alloc (.cells #[.int .i64 m.to_] 3 (0, 0))).drew := hH
   clear hH
   go_upto_if 66 with (go_at_call 212; go_loud ((with_reducible refine (set_any p6 m k s (beOf m k) s b _ _ _ [m.to_] 1 rfl (by simp) _ hH'.hb (alloc_ints1d _ _ _) (by have := hM6.lt; simp; omega)).mono ?_); rintro e w7 ⟨rfl, hb7, hx7⟩))
   have hM7 : MS (putAll p6 (beOf m k) s [m.to_]) m k s (beOf m k) b g w w7 := hH'.chg hx7 hgb hwb hb7
   clear hb7 hx7 hM6 hH'
   generalize hp7 : putAll p6 (beOf m k) s [m.to_] = p7 at hM7
   have HP7 := hid hp7
   clear hp7
   go_cut [6, 8] (fun s6 s8 wx => s8 = .pointer (some ⟨g, 0, none⟩) ∧ MS (stood p m k s) m k s (beOf m k) b g w wx)
   case first =>
    cases hr : (rookOf p m k s).2.2
    ·have HS := hid (show stood p m k s = p7 by unfold stood; simp only [hr, HP6.out, HP7.out]; rfl)
     go_wp2
     go_meet
     case rel => exact ⟨rfl, by rw [HS.out]; exact hM7⟩
    ·have HS := hid (show stood p m k s = putAll (putAll p7 0 0 [(rookOf p m k s).1]) 4 s [(rookOf p m k s).2.1] by unfold stood; simp only [hr, HP6.out, HP7.out]; rfl)
     have hM8 := hM7.ext (Ext.alloc (Ext.refl w7) (.cells #[.int .i64 (rookOf p m k s).1] 3 (0, 0)))
     go_wp2_with (first
      | (go_at_call 212; (with_reducible refine (set_any (putAll p7 0 0 [(rookOf p m k s).1]) m k s 4 s b _ _ _ [(rookOf p m k s).2.1] 1 rfl (by simp) _ (hM9.ext (Ext.alloc (Ext.refl _) _)).hb (alloc_ints1 _ _ _) (by have := hM9.lt; omega)).mono ?_); rintro e w10 ⟨rfl, hb10, hx10⟩; have hM10 := (hM9.ext (Ext.alloc (Ext.refl _) _)).chg hx10 hgb hwb hb10)
      | (go_at_call 212; (with_reducible refine (set_any p7 m k s 0 0 b _ _ _ [(rookOf p m k s).1] 1 rfl (by simp) _ hM8.hb (alloc_ints1 _ _ _) (by have := hM7.lt; omega)).mono ?_); rintro e w9 ⟨rfl, hb9, hx9⟩; have hM9 := hM8.chg hx9 hgb hwb hb9; have q1 := hM9.g1))
     go_meet
     case rel => exact ⟨rfl, by rw [HS.out]; exact hM10⟩
   case rest =>
    clear hM7
    obtain ⟨rfl, hM⟩ := hcut
    have q0 : 0 ≤ (stood p m k s).castle := by rw [stood_castle]; exact p0
    have q1 : (stood p m k s).castle ≤ 15 := by rw [stood_castle]; exact p1
    obtain ⟨l0, l1⟩ := lostL_bd [m.fr, m.to_]
    have hl := hM.lt
    have v130 := hc_over hM.hb
    have f130 := blk_froz hM.hb
    have hM14 : MS { stood p m k s with over := overOf m k s } m k s (beOf m k) b g w (wc.setCell ⟨b, 130, none⟩ (.int .i64 (overOf m k s))) := hM.chg (Chg.set (Chg.refl _ _) rfl _) hgb hwb (hs_over hM.hb)
    have HM := hid hM
    clear hM
    go_wp2
    refine world_cut (fun W => MS { stood p m k s with over := overOf m k s } m k s (beOf m k) b g w W) hM14 ?_
    intro W hMW
    clear hM14 v130 f130 hl HM
    refine wp_region_split 18 (MS { stood p m k s with over := overOf m k s } m k s (beOf m k) b g w) (by kernel_rfl) (by kernel_rfl) (hMW.ext (Ext.drew (Ext.refl _))) (fun hH => ?_)
    simp only [List.take_succ_cons, List.take_zero, List.drop_succ_cons, List.drop_zero]
    refine hTz MS.u 0 ?_; (try go_frame)
    refine hTz MS.u 1 ?_; (try go_frame)
    refine hTz MS.u 2 ?_; (try go_frame)
    refine hTz MS.u 3 ?_; (try go_frame)
    refine hTz MS.u 4 ?_; (try go_frame)
    refine hTz MS.u 5 ?_; (try go_frame)
    refine hTz MS.u 6 ?_; (try go_frame)
    refine hTz MS.u 7 ?_; (try go_frame)
    refine hTz MS.u 8 ?_; (try go_frame)
    refine hTz MS.u 9 ?_; (try go_frame)
    refine hTz MS.u 10 ?_; (try go_frame)
    refine hTz MS.u 11 ?_; (try go_frame)
    refine hTz MS.u 12 ?_; (try go_frame)
    refine hTz MS.u 13 ?_; (try go_frame)
    refine hTz MS.u 14 ?_; (try go_frame)
    refine hRy [15] (hCp (fun K hK => ?_) AllReadyH.nil); go_simp
    refine hK.out _ _ (hH.ext (by first | assumption | exact Ext.alloc (Ext.refl _) _)) (fun hH => ?_); clear hK; (try go_frame)
    refine hRy [16] (hCp (fun K hK => ?_) AllReadyH.nil); go_simp
    refine (lost_any [m.fr, m.to_] 2 rfl (by simp) _ _ _ _ (alloc_ints2d _ _ _ _)).mono ?_
    rintro e w8 ⟨rfl, hx8⟩
    refine hK.out _ _ (hH.ext (by first | assumption | exact Ext.alloc (Ext.refl _) _)) (fun hH => ?_); clear hK; (try go_frame)
    refine hTz MS.u 17 ?_; (try go_frame)
    refine wpAnyH_done (by kernel_rfl) ?_ _
    simp only [splitQ]
    obtain ⟨r1, r2, r3⟩ := stood_rest p m k s
    have hl8 := hH.lt
    have v129 := hc_castle hH.hb
    have f129 := blk_froz hH.hb
    have hM15 : MS { stood p m k s with over := overOf m k s, castle := notI (stood p m k s).castle (lostL [m.fr, m.to_]) } m k s (beOf m k) b g w (w8.setCell ⟨b, 129, none⟩ (.int .i64 (notI (stood p m k s).castle (lostL [m.fr, m.to_])))) := hH.chg (Chg.set (Chg.refl _ _) rfl _) hgb hwb (hs_castle hH.hb)
    go_upto_region 16 with (fail)
    refine world_cut (fun W => MS { stood p m k s with over := overOf m k s, castle := notI (stood p m k s).castle (lostL [m.fr, m.to_]) } m k s (beOf m k) b g w W) hM15 ?_
    intro W5 hM5
    clear hM15 hH v129 f129 hl8 hMW hx8
    have v1 := hc_half hM5.hb
    have f5 := blk_froz hM5.hb
    simp only [r2] at v1
    have HM := hid hM5
    have HR := hid (And.intro r1 (And.intro r2 r3))
    have hC := hid (stood_castle p m k s)
    clear hM5 r1 r2 r3
    go_cut [8] (fun s8 wx => s8 = .pointer (some ⟨g, 0, none⟩) ∧ MS { stood p m k s with over := overOf m k s, castle := notI p.castle (lostL [m.fr, m.to_]), half := upTo 1023 p.half, full := p.full } m k s (beOf m k) b g w wx)
    case first =>
     have hh : (1023 < p.half ∧ Hid (upTo 1023 p.half = 1024)) ∨ (¬ 1023 < p.half ∧ Hid (upTo 1023 p.half = wrap64 (p.half + 1))) := by
      by_cases h : 1023 < p.half
      ·exact .inl ⟨h, upTo_hi h (by decide) (by decide)⟩
      ·exact .inr ⟨h, upTo_lo h⟩
     rcases hh with ⟨hh, HU⟩ | ⟨hh, HU⟩
     all_goals
      go_wp2
      go_meet
      case rel =>
       refine ⟨rfl, ?_⟩
       have := HM.out.chg (Chg.set (Chg.refl b W5) rfl (.int .i64 (upTo 1023 p.half))) hgb hwb (hs_half HM.out.hb)
       rw [HR.out.2.2, hC.out] at this
       rw [HU.out] at this ⊢
       exact this
    case rest =>
     clear v1 f5 HM
     obtain ⟨rfl, hM6⟩ := hcut
     have v1 := hc_pk hM6.hb
     have f5 := blk_froz hM6.hb
     have v2 := hc_half hM6.hb
     have hl6 := hM6.lt
     have HM := hid hM6
     have hM6' := hM6
     clear hM6
     have v3 := hc_full hM6'.hb
     have v4 := hc_turn hM6'.hb
     simp only [HR.out.1] at v4
     have hF : ((p.turn == 1) = true ∧ 16383 < p.full ∧ Hid (fullOf p = 16384)) ∨ ((p.turn == 1) = true ∧ ¬ 16383 < p.full ∧ Hid (fullOf p = wrap64 (p.full + 1))) ∨ ((p.turn == 1) = false ∧ Hid (fullOf p = p.full)) := by
      by_cases ht : p.turn = 1
      ·by_cases h : 16383 < p.full
       ·exact .inl ⟨by simp [ht], h, (show fullOf p = 16384 by unfold fullOf; rw [if_pos ht, upTo_hi h (by decide) (by decide)]; rfl)⟩
       ·exact .inr (.inl ⟨by simp [ht], h, (show fullOf p = _ by unfold fullOf; rw [if_pos ht, upTo_lo h])⟩)
      ·exact .inr (.inr ⟨by simp [ht], (show fullOf p = _ by unfold fullOf; rw [if_neg ht])⟩)
     have hq : ((takesOf p m k != -1) = true ∧ Hid (halfOf p m k = 0)) ∨ ((takesOf p m k != -1) = false ∧ (k == 1) = true ∧ Hid (halfOf p m k = 0)) ∨ ((takesOf p m k != -1) = false ∧ (k == 1) = false ∧ Hid (halfOf p m k = upTo 1023 p.half)) := by
      cases h1 : (takesOf p m k != -1)
      ·cases h2 : (k == 1)
       ·exact .inr (.inr ⟨rfl, rfl, (show halfOf p m k = _ by unfold halfOf quietB; simp_all)⟩)
       ·exact .inr (.inl ⟨rfl, rfl, (show halfOf p m k = _ by unfold halfOf quietB; simp_all)⟩)
      ·exact .inl ⟨rfl, (show halfOf p m k = _ by unfold halfOf quietB; simp_all)⟩
     rcases hq with ⟨hq1, HQ⟩ | ⟨hq1, hq2, HQ⟩ | ⟨hq1, hq2, HQ⟩
     all_goals
      rcases hF with ⟨ht, hf, HF⟩ | ⟨ht, hf, HF⟩ | ⟨ht, HF⟩
      all_goals
       go_upto_region 22 with (go_at_call 68; (with_reducible refine (Other_any _ _).mono ?_); rintro e w9 ⟨rfl, hx9⟩; have hM9 : MS { stood p m k s with over := overOf m k s, castle := notI p.castle (lostL [m.fr, m.to_]), half := halfOf p m k, full := fullOf p } m k s (beOf m k) b g w w9 := (by rw [HQ.out, HF.out]; refine MS.ext ?_ hx9; (first | exact MS.full (MS.half HM.out hgb hwb) hgb hwb | exact MS.half HM.out hgb hwb | exact MS.full HM.out hgb hwb | exact HM.out)); have v9 := hc_turn hM9.hb; have f9 := blk_froz hM9.hb; have H9 := hid hM9; clear hM9)
       have hMF : MS (madeP p m k s) m k s (beOf m k) b g w (w9.setCell ⟨b, 128, none⟩ (.int .i64 (otherOf p.turn))) := MS.turn H9.out hgb hwb
       clear H9 v9 f9 HQ HF HM hx9 v1 v2 v3 v4 f5 hM6'
       refine world_cut (fun W => MS (madeP p m k s) m k s (beOf m k) b g w W) hMF ?_
       intro WF hMF
       have hbF := hMF.hb
       have hzF := hMF.hz
       have hcF := hMF.ch
       clear hMF
       go_wp2
       exact bodyPost_ret (v := .agg (posCells (madeP p m k s))) (results_cell rfl rfl (load_pos (setRow_blk hzF))) rfl ⟨rfl, hcF.setRow (Nat.le_refl _) _⟩
theorem built_nil {P : Program} {T : TypeId} {F : Array Field} {z : Value} (hu : P.underlying T = some (.struct F)) (hz : (P.info? T).map (·.zero) = some (some z)) (hp : (F.toList.mapM (fun f => (P.info? f.type).map fun i => (f.offset, i.size))).isSome = true) : P.built T [] = some z.cells := by
 unfold Program.built
 cases hq : P.info? T with
 | none => simp [hq] at hz
 | some i =>
   have hz' : i.zero = some z := by simpa [hq] using hz
   obtain ⟨places, hpl⟩ := Option.isSome_iff_exists.1 hp
   simp only [hu, hz', hpl]
   rfl
@[go_sem ↓] theorem build0_api_Position (ρ : Operand → Value) (dst : Option Tmp) (ty : TypeId) (pos : String) (af : Array Edge) (g : Option (Nat × Bool)) (w : World) :
 (execOp ρ ⟨dst, .build 30 #[], ty, pos, af, g⟩).run Tryz.prog w = .ok (.value (.agg (posCells Pos.zero))) w := by
  have hb : Tryz.prog.built 30 ((#[] : Array (Nat × Operand)).map fun (i, x) => (i, ρ x)).toList = some (posCells Pos.zero) := by
   have e : ((#[] : Array (Nat × Operand)).map fun (i, x) => (i, ρ x)).toList = [] := by simp
   rw [e]
   exact (show Tryz.prog.built 30 [] = some (posCells Pos.zero) from (built_nil Tryz.underlying30 zero_api_Position (by kernel_rfl)).trans (by rw [zeroCells_eq]; rfl))
  simp only [execOp, Sem.run_bind, run_build w _ _ _ hb]
  rfl
def takes2 (p : Pos) (m : Mv) : Int := if takenE p m = 0 then takesOf p m (p.kind m.fr.toNat) else -1
def moveP (p : Pos) (m : Mv) : Pos := madeP (fixC p) m (p.kind m.fr.toNat) (p.side m.fr.toNat)
def movedP (p : Pos) (m : Mv) : Pos := if takenE p m = 0 then moveP p m else Pos.zero
theorem taken_any (p : Pos) (m : Mv) (w : World) : Calls Tryz.prog 95 #[.agg (posCells p), .agg #[.int .i64 m.fr, .int .i64 m.to_, .int .i64 m.be]] w (TakenPost p m w) := by
 cases h : rangeB m
 ·exact taken_range p m w h
 ·exact taken_in p m w h
theorem takenE_0 {p : Pos} {m : Mv} (h : takenE p m = 0) : 0 ≤ m.fr ∧ m.fr < 64 ∧ 0 ≤ m.to_ ∧ m.to_ < 64 ∧ (p.side m.fr.toNat = 0 ∨ p.side m.fr.toNat = 1) ∧ canB p m = true ∧ rangeB m = true := by
 unfold takenE at h
 split at h
 ·rename_i hr
  split at h
  ·rename_i hc
   have hr' := hr
   have hc' := hc
   simp only [rangeB, decide_eq_true_eq] at hr
   simp only [canB, canOf, decide_eq_true_eq] at hc
   exact ⟨hr.1, hr.2.1, hr.2.2.1, hr.2.2.2.1, hc.2.2.2.1, hc', hr'⟩
  ·cases h
 ·cases h
theorem fixC_bd (p : Pos) : 0 ≤ (fixC p).castle ∧ (fixC p).castle ≤ 15 := by
 unfold fixC
 split
 ·assumption
 ·exact ⟨Int.le_refl 0, (by decide : (0 : Int) ≤ 15)⟩
theorem takes_fix (p : Pos) (m : Mv) (k : Int) : takesOf (fixC p) m k = takesOf p m k := by
 unfold fixC; split <;> rfl
theorem Takes_any (p : Pos) (m : Mv) (w : World) : Calls Tryz.prog 61 #[.agg (posCells p), .agg #[.int .i64 m.fr, .int .i64 m.to_, .int .i64 m.be]] w (Ret (.int .i64 (takes2 p m)) w) := by
 by_cases h0 : takenE p m = 0
 ·have HE := hid (show takes2 p m = takesOf (fixC p) m (p.kind m.fr.toNat) by unfold takes2; rw [if_pos h0, takes_fix])
  obtain ⟨f0, f1, t0, t1, _⟩ := takenE_0 h0
  have H0 := hid h0
  clear h0
  go_enter Tryz.func61, Tryz.ntmps61
  go_wp2_with (first
   | (go_at_call 95; (with_reducible refine (taken_any _ _ _).mono ?_); rintro e w1 ⟨hx, ⟨hne, -⟩ | ⟨-, b, rfl, hb0, hb⟩⟩; (exact absurd H0.out hne))
   | (go_at_call 96; (with_reducible refine (takes_any _ _ _ _ _ _ hb f0 f1 t0 t1).mono ?_); rintro e w2 ⟨rfl, hx2⟩))
  go_ret
  exact Ret.mk' (by rw [HE.out]; rfl) (Ext.trans (Ext.trans (Ext.auto) hx) hx2)
 ·have HE := hid (show takes2 p m = -1 by unfold takes2; rw [if_neg h0])
  have h1 : (takenE p m != 0) = true := by simpa using h0
  have H0 := hid h0
  clear h0
  go_enter Tryz.func61, Tryz.ntmps61
  go_wp2_with (go_at_call 95; (with_reducible refine (taken_any _ _ _).mono ?_); rintro e w1 ⟨hx, ⟨-, rfl⟩ | ⟨h, -⟩⟩; rotate_left 1; (exact absurd h H0.out))
  go_ret
  exact Ret.mk' (by rw [HE.out]; rfl) (Ext.trans (Ext.auto) hx)
theorem Move_any (p : Pos) (m : Mv) (w : World) : Calls Tryz.prog 157 #[.agg (posCells p), .agg #[.int .i64 m.fr, .int .i64 m.to_, .int .i64 m.be]] w (Ret (.tuple #[.agg (posCells (movedP p m)), .int .i64 (takenE p m)]) w) := by
 by_cases h0 : takenE p m = 0
 ·have HE := hid (show movedP p m = madeP (fixC p) m (p.kind m.fr.toNat) (p.side m.fr.toNat) by unfold movedP moveP; rw [if_pos h0])
  obtain ⟨f0, f1, t0, t1, hs, _⟩ := takenE_0 h0
  obtain ⟨q0, q1⟩ := fixC_bd p
  have H0 := hid h0
  clear h0
  go_enter Tryz.func157, Tryz.ntmps157
  go_wp2_with (first
   | (go_at_call 95; (with_reducible refine (taken_any _ _ _).mono ?_); rintro e w1 ⟨hx, ⟨hne, -⟩ | ⟨-, b, rfl, hb0, hb⟩⟩; (exact absurd H0.out hne); have hz1 := (hx.blk (w.heap.size + 1 + 1) (by simp)).trans (show blk _ (w.heap.size + 1 + 1) = some (.cells (posCells Pos.zero) 30 (0, 0)) from by simp [go_sem]); have hbb : b ≠ w.heap.size + 1 + 1 := (by simp at hb0; omega))
   | (go_at_call 181; (with_reducible refine (made_any _ _ _ _ _ _ hb f0 f1 t0 t1 hs q0 q1).mono ?_); rintro e w2 ⟨rfl, hx2⟩; have hz2 := hx2.cells hz1 (Ne.symm hbb)))
  exact bodyPost_ret (v := .tuple #[.agg (posCells (madeP (fixC p) m (p.kind m.fr.toNat) (p.side m.fr.toNat))), .int .i64 0]) (results_cell2 rfl rfl rfl (load_pos (setRow_blk hz2))) rfl ⟨by rw [HE.out, H0.out], Ext.setRow (Ext.chg (Ext.trans (Ext.auto) hx) (by simp at hb0; omega) hx2) (by omega) _⟩
 ·have HE := hid (show movedP p m = Pos.zero by unfold movedP; rw [if_neg h0])
  have h1 : (takenE p m != 0) = true := by simpa using h0
  have H0 := hid h0
  clear h0
  go_enter Tryz.func157, Tryz.ntmps157
  go_wp2_with (go_at_call 95; (with_reducible refine (taken_any _ _ _).mono ?_); rintro e w1 ⟨hx, ⟨-, rfl⟩ | ⟨h, -⟩⟩; rotate_left 1; (exact absurd h H0.out); have hz2 : blk w1 (w.heap.size + 1 + 1) = some (.cells (posCells Pos.zero) 30 (0, 0)) := ((hx.blk _ (by simp)).trans (by simp [go_sem])))
  exact bodyPost_ret (v := .tuple #[.agg (posCells Pos.zero), .int .i64 (takenE p m)]) (results_cell2 rfl rfl rfl (load_pos (setRow_blk hz2))) rfl ⟨by rw [HE.out], Ext.setRow (Ext.trans (Ext.auto) hx) (by omega) _⟩
end Go.Proofs.YtdmgimfgoajmjaaGreatDoor
