/- The position behind a move, in the document's answer. -/
import Derived.Test.YtdmgimfgoajmjaaGreatDoorC27
import Derived.Deep.CutBlock
import Derived.Test.YtdmgimfgoajmjaaGreatDoorC26
import Derived.Test.YtdmgimfgoajmjaaGreatDoorC23
import Derived.Test.YtdmgimfgoajmjaaGreatDoorC19
set_option linter.unusedVariables false
set_option linter.unusedSimpArgs false
set_option maxRecDepth 100000
set_option maxHeartbeats 8000000
namespace Go.Proofs.YtdmgimfgoajmjaaGreatDoor
open Go.RowKit
abbrev MSr.T (p Q : Pos) (m : Mv) (k s : Int) (g6 g7 : Nat) (w W : World) : Prop :=
 Ext w W ∧ blk W w.heap.size = some (.cells (posCells p) 30 (0, 0)) ∧ blk W (w.heap.size + 1) = some (.cells #[.int .i64 m.fr, .int .i64 m.to_, .int .i64 m.be] 51 (0, 0)) ∧
 blk W (w.heap.size + 2) = some (.cells (posCells Pos.zero) 30 (0, 0)) ∧ blk W g6 = some (.cells #[.int .i64 k, .int .i64 s] 26 (0, 0)) ∧ blk W g7 = some (.cells (posCells Q) 30 (0, 0)) ∧
 w.heap.size + 2 < g6 ∧ g6 < g7 ∧ W.cell? ⟨w.heap.size + 1, 0, none⟩ = some (.int .i64 m.fr) ∧ W.cell? ⟨w.heap.size + 1, 1, none⟩ = some (.int .i64 m.to_) ∧ W.cell? ⟨w.heap.size + 1, 2, none⟩ = some (.int .i64 m.be) ∧
 W.cell? ⟨g6, 0, none⟩ = some (.int .i64 k) ∧ W.cell? ⟨g6, 1, none⟩ = some (.int .i64 s) ∧ W.cell? ⟨w.heap.size, 128, none⟩ = some (.int .i64 p.turn) ∧ W.cell? ⟨w.heap.size, 131, none⟩ = some (.int .i64 p.half) ∧ W.cell? ⟨w.heap.size, 132, none⟩ = some (.int .i64 p.full)
def MSr (p Q : Pos) (m : Mv) (k s : Int) (g6 g7 : Nat) (w W : World) : Prop := MSr.T p Q m k s g6 g7 w W
theorem MSr.u {p Q m k s g6 g7 w} (W) (h : MSr p Q m k s g6 g7 w W) : MSr.T p Q m k s g6 g7 w W := h
theorem MSr.mk' {p Q : Pos} {m : Mv} {k s : Int} {g6 g7 : Nat} {w W : World} (h : Ext w W) (h1 : blk W w.heap.size = some (.cells (posCells p) 30 (0, 0)))
 (h2 : blk W (w.heap.size + 1) = some (.cells #[.int .i64 m.fr, .int .i64 m.to_, .int .i64 m.be] 51 (0, 0))) (h3 : blk W (w.heap.size + 2) = some (.cells (posCells Pos.zero) 30 (0, 0)))
 (h4 : blk W g6 = some (.cells #[.int .i64 k, .int .i64 s] 26 (0, 0))) (h5 : blk W g7 = some (.cells (posCells Q) 30 (0, 0))) (l6 : w.heap.size + 2 < g6) (l7 : g6 < g7) : MSr p Q m k s g6 g7 w W :=
 ⟨h, h1, h2, h3, h4, h5, l6, l7, blk_cell h2 0, blk_cell h2 1, blk_cell h2 2, blk_cell h4 0, blk_cell h4 1, by rw [blk_cell h1]; simp [go_sem], by rw [blk_cell h1]; simp [go_sem], by rw [blk_cell h1]; simp [go_sem]⟩
theorem MSr.ext {p Q : Pos} {m : Mv} {k s : Int} {g6 g7 : Nat} {w W W' : World} (h : MSr p Q m k s g6 g7 w W) (hx : Ext W W') : MSr p Q m k s g6 g7 w W' := by
 obtain ⟨h0, h1, h2, h3, h4, h5, l6, l7, -⟩ := h
 exact MSr.mk' (h0.trans hx) ((hx.blk _ (blk_lt h1)).trans h1) ((hx.blk _ (blk_lt h2)).trans h2) ((hx.blk _ (blk_lt h3)).trans h3) ((hx.blk _ (blk_lt h4)).trans h4) ((hx.blk _ (blk_lt h5)).trans h5) l6 l7
theorem MSr.b7 {p Q : Pos} {m : Mv} {k s : Int} {g6 g7 : Nat} {w W : World} (h : MSr p Q m k s g6 g7 w W) : blk W g7 = some (.cells (posCells Q) 30 (0, 0)) := h.2.2.2.2.2.1
theorem MSr.lt {p Q : Pos} {m : Mv} {k s : Int} {g6 g7 : Nat} {w W : World} (h : MSr p Q m k s g6 g7 w W) : w.heap.size + 2 < g6 ∧ g6 < g7 ∧ g7 < W.heap.size := ⟨h.2.2.2.2.2.2.1, h.2.2.2.2.2.2.2.1, blk_lt h.b7⟩
theorem MSr.set {p Q Q' : Pos} {m : Mv} {k s : Int} {g6 g7 : Nat} {w W : World} (h : MSr p Q m k s g6 g7 w W) {i : Nat} {v : Value} (e : (posCells Q).setIfInBounds i v = posCells Q') : MSr p Q' m k s g6 g7 w (W.setCell ⟨g7, i, none⟩ v) := by
 obtain ⟨h0, h1, h2, h3, h4, h5, l6, l7, -⟩ := h
 refine MSr.mk' (h0.set (by show w.heap.size ≤ g7; omega) _) ?_ ?_ ?_ ?_ ?_ l6 l7
 ·rw [blk_setCell_past _ _ _ _ (by show w.heap.size ≠ g7; omega)]; exact h1
 ·rw [blk_setCell_past _ _ _ _ (by show w.heap.size + 1 ≠ g7; omega)]; exact h2
 ·rw [blk_setCell_past _ _ _ _ (by show w.heap.size + 2 ≠ g7; omega)]; exact h3
 ·rw [blk_setCell_past _ _ _ _ (by show g6 ≠ g7; omega)]; exact h4
 ·rw [blk_setCell_same _ _ _ _ _ _ h5, e]
theorem MSr.put {p Q : Pos} {m : Mv} {k s x y t : Int} {g6 g7 : Nat} {w W : World} (h : MSr p Q m k s g6 g7 w W) (t0 : 0 ≤ t) (t1 : t < 64) :
 MSr p (Q.put t x y) m k s g6 g7 w ((W.setCell ⟨g7, t.toNat * 2, none⟩ (.int .i64 x)).setCell ⟨g7, t.toNat * 2 + 1, none⟩ (.int .i64 y)) := by
 refine (h.set (pos_kind Q t x t0 t1)).set ?_
 rw [← pos_kind Q t x t0 t1, pos_put Q t x y t0 t1]
theorem stood_basic {p : Pos} {m : Mv} {k s : Int} (f0 : 0 ≤ m.fr) (f1 : m.fr < 64) (t0 : 0 ≤ m.to_) (t1 : m.to_ < 64) (hs : s = 0 ∨ s = 1) :
 stood p m k s = if (rookOf p m k s).2.2 = true then ((basic p m (takesOf p m k) (beOf m k) s).put (rookOf p m k s).1 0 0).put (rookOf p m k s).2.1 4 s else basic p m (takesOf p m k) (beOf m k) s := by
 unfold stood basic
 rw [putAll_one _ _ _ t0 t1, putAll_two _ _ _ f0 f1]
 dsimp only
 split
 ·rename_i hr
  have hh := home_bd s
  have hb : (rookOf p m k s).1 = homeOf s + 3 ∧ (rookOf p m k s).2.1 = homeOf s + 1 ∨ (rookOf p m k s).1 = homeOf s - 4 ∧ (rookOf p m k s).2.1 = homeOf s - 1 := by
   unfold rookOf at hr ⊢
   split at hr
   ·rename_i h; rw [if_pos h]
    split at hr
    ·rename_i h2; rw [if_pos h2]; exact .inl ⟨rfl, rfl⟩
    ·rename_i h2; rw [if_neg h2]
     split at hr
     ·rename_i h3; rw [if_pos h3]; exact .inr ⟨rfl, rfl⟩
     ·cases hr
   ·cases hr
  rw [putAll_one _ _ _ (by omega) (by omega), putAll_one _ _ _ (by omega) (by omega)]
 ·rfl
theorem takes_bd {p : Pos} {m : Mv} {k : Int} (f0 : 0 ≤ m.fr) (f1 : m.fr < 64) (t0 : 0 ≤ m.to_) (t1 : m.to_ < 64) : -1 ≤ takesOf p m k ∧ takesOf p m k < 64 := by
 have ha : 0 ≤ takesAt p m k ∧ takesAt p m k < 64 := by unfold takesAt; split <;> omega
 unfold takesOf; split <;> omega
theorem ck_not2 : ((List.range 16).all fun (c : Nat) => (List.range 16).all fun (a : Nat) => (List.range 16).all fun (b : Nat) => notI (notI c a) b == notI c (orI (orI 0 a) b)) = true := by decide +kernel
theorem not_two {c : Int} (f t : Int) (c0 : 0 ≤ c) (c1 : c ≤ 15) : notI (notI c (lostOf f)) (lostOf t) = notI c (lostL [f, t]) := by
 obtain ⟨f0, f1⟩ := lostOf_bd2 f
 obtain ⟨t0, t1⟩ := lostOf_bd2 t
 have h1 := (List.all_eq_true.1 ck_not2) c.toNat (List.mem_range.2 (by omega))
 have h2 := (List.all_eq_true.1 h1) (lostOf f).toNat (List.mem_range.2 (by omega))
 have h3 := (List.all_eq_true.1 h2) (lostOf t).toNat (List.mem_range.2 (by omega))
 rw [Int.toNat_of_nonneg c0, Int.toNat_of_nonneg f0, Int.toNat_of_nonneg t0, beq_iff_eq] at h3
 exact h3
theorem upTo_min (a b : Int) : upTo a b = wrap64 (min b a + 1) := by
 unfold upTo
 congr 2
 split <;> omega
theorem rMove_any (p : Pos) (m : Mv) (w : World) (h : takenE p m = 0) (c0 : 0 ≤ p.castle) (c1 : p.castle ≤ 15) :
 Calls Tryz.prog 77 #[.agg (posCells p), .agg #[.int .i64 m.fr, .int .i64 m.to_, .int .i64 m.be]] w (Ret (.tuple #[.agg (posCells (movedP p m)), .int .i64 0]) w) := by
 have H := can_at h
 have HC := fun w => rCan_any p m w h
 have HT := fun w => rTakes_any p m w h
 have HK := fun w => rCastling_any p m w H c0 c1
 have HE := hid (show movedP p m = madeP p m (p.kind m.fr.toNat) (p.side m.fr.toNat) by
  unfold movedP moveP fixC; rw [if_pos h, if_pos ⟨c0, c1⟩])
 obtain ⟨f0, f1, t0, t1, ne, k0, k1, st, s0, be⟩ := H
 have i1 : isSq m.fr = true := by simp [isSq, f0, f1]
 have i2 : isSq m.to_ = true := by simp [isSq, t0, t1]
 have e1 : (m.fr == m.to_) = false := by simpa using ne
 have f2 : m.fr.toNat < 64 := by omega
 have t2 : m.to_.toNat < 64 := by omega
 have hs : p.side m.fr.toNat = 0 ∨ p.side m.fr.toNat = 1 := by rw [st]; exact s0
 have hbd := takes_bd (p := p) (k := p.kind m.fr.toNat) f0 f1 t0 t1
 have HB := hid (stood_basic (p := p) (k := p.kind m.fr.toNat) (s := p.side m.fr.toNat) f0 f1 t0 t1 hs)
 have HCA := hid (show castlingOf p m = if (rookOf p m (p.kind m.fr.toNat) (p.side m.fr.toNat)).2.2 = true then (if m.to_ = homeOf (p.side m.fr.toNat) + 2 then 1 else -1) else 0 from rfl)
 have HST := hid st
 have HSD := hid hs
 clear h ne k0 k1 st s0 be hs
 go_enter Tryz.func77, Tryz.ntmps77
 go_upto_if 42 with (first
  | (go_at_call 116; with_reducible refine arm (rIs8_any _ _) fun w1 hx hxc hxf hxb hxs => ?_; (first | (have h4 := lt4 w.heap.size w1.heap.size (by omega)); (obtain ⟨hz00, hz01, hz02, hz03⟩ := h4) | (have h4 := lt3 w.heap.size w1.heap.size (by omega)); (obtain ⟨hz00, hz01, hz02⟩ := h4) | (have h4 := lt2 w.heap.size w1.heap.size (by omega)); (obtain ⟨hz00, hz01⟩ := h4) | have hz00 := lt1 w.heap.size w1.heap.size (by omega) | skip); (first | (have h4 := lt4 wA.heap.size w1.heap.size (by omega)); (obtain ⟨hz10, hz11, hz12, hz13⟩ := h4) | (have h4 := lt3 wA.heap.size w1.heap.size (by omega)); (obtain ⟨hz10, hz11, hz12⟩ := h4) | (have h4 := lt2 wA.heap.size w1.heap.size (by omega)); (obtain ⟨hz10, hz11⟩ := h4) | have hz10 := lt1 wA.heap.size w1.heap.size (by omega) | skip))
  | (go_at_call 117; (with_reducible refine (HC _).mono ?_); rintro e wA ⟨rfl, hxA⟩; have hxAc := Ext.cell hxA; have hxAb := Ext.blk hxA; have hxAs := Ext.le hxA; (try simp only [World.size_alloc, size_set, size_drew] at hxAc hxAb hxAs); (have hz90 : w.heap.size < wA.heap.size := by omega); (have hz91 : w.heap.size + 1 < wA.heap.size := by omega); (have hz92 : w.heap.size + 2 < wA.heap.size := by omega))
  | (go_at_call 118; (with_reducible refine (HT _).mono ?_); rintro e wB ⟨rfl, hxB⟩))
 have hE0 : Ext (((w.alloc (.cells (posCells p) 30)).alloc (.cells #[.int .i64 m.fr, .int .i64 m.to_, .int .i64 m.be] 51)).alloc (.cells (posCells Pos.zero) 30)) wA := (Ext.auto)
 have hE2 : Ext wA wB := (Ext.auto)
 have hEw : Ext w wB := (Ext.auto)
 have p1 : blk wA w.heap.size = some (.cells (posCells p) 30 (0, 0)) := (hE0.blk _ (by simp; omega)).trans (by simp [go_sem])
 have p2 : blk wA (w.heap.size + 1) = some (.cells #[.int .i64 m.fr, .int .i64 m.to_, .int .i64 m.be] 51 (0, 0)) := (hE0.blk _ (by simp)).trans (by simp [go_sem])
 have p3 : blk wA (w.heap.size + 2) = some (.cells (posCells Pos.zero) 30 (0, 0)) := (hE0.blk _ (by simp)).trans (by simp [go_sem])
 have p4 : blk wB wA.heap.size = some (.cells #[.int .i64 (p.kind m.fr.toNat), .int .i64 (p.side m.fr.toNat)] 26 (0, 0)) := (hxB.blk _ (by simp; omega)).trans (by simp [go_sem])
 have p5 : blk wB (wA.heap.size + 1) = some (.cells (posCells p) 30 (0, 0)) := (hxB.blk _ (by simp)).trans (by simp [go_sem])
 have hM : MSr p p m (p.kind m.fr.toNat) (p.side m.fr.toNat) wA.heap.size (wA.heap.size + 1) w wB := MSr.mk' hEw ((hE2.blk _ hz90).trans p1) ((hE2.blk _ hz91).trans p2) ((hE2.blk _ hz92).trans p3) p4 p5 hz92 (by omega)
 clear hE0 hE2 hEw p1 p2 p3 p4 p5 hxA hxAc hxAb hxAs hxB hx hxc hxf hxb hxs
 generalize wA.heap.size = g at *
 generalize hT : takesOf p m (p.kind m.fr.toNat) = T at *
 obtain ⟨l6, l7, l8⟩ := hM.lt
 have HTK := hid hT
 clear hT
 go_cut [43] (fun s43 wx => MSr p (if 0 ≤ T ∧ T < 64 then p.put T 0 0 else p) m (p.kind m.fr.toNat) (p.side m.fr.toNat) g (g + 1) w wx)
 case first =>
  have fz := blk_froz hM.b7
  by_cases h0 : 0 ≤ T
  ·have x2 : T.toNat < 64 := by omega
   have d0 := cell_of_row wB (g + 1) (T.toNat * 2) _ _ _ hM.b7
   have d1 := cell_of_row wB (g + 1) (T.toNat * 2 + 1) _ _ _ hM.b7
   have HM := hid (hM.put (x := 0) (y := 0) h0 hbd.2)
   have HQ := hid (show (if 0 ≤ T ∧ T < 64 then p.put T 0 0 else p) = p.put T 0 0 from if_pos ⟨h0, hbd.2⟩)
   clear hM
   go_wp2
   go_meet
   case rel => rw [HQ.out]; exact HM.out
  ·have HQ := hid (show (if 0 ≤ T ∧ T < 64 then p.put T 0 0 else p) = p from if_neg (fun h => h0 h.1))
   have HM := hid hM
   clear hM
   go_wp2
   go_meet
   case rel => rw [HQ.out]; exact HM.out
 case rest =>
  clear hM
  have hM := hcut
  clear hcut
  obtain ⟨Q1, hQ1⟩ : ∃ Q1, Q1 = (if 0 ≤ T ∧ T < 64 then p.put T 0 0 else p) := ⟨_, rfl⟩
  rw [← hQ1] at hM
  have HQ1 := hid hQ1
  clear hQ1
  have hne6 : g ≠ g + 1 := by omega
  have hneq : m.fr.toNat ≠ m.to_.toNat := by intro e; simp at e1; omega
  have HNQ := hid hneq
  clear hneq
  obtain ⟨x0, x1, x2, x3, x4, x5, -, -, x8, x9, x10, x11, x12, x13, x14, x15⟩ := id hM
  have fz := blk_froz x5
  have d0 := cell_of_row wc (g + 1) (m.fr.toNat * 2) _ _ _ x5
  have d1 := cell_of_row wc (g + 1) (m.fr.toNat * 2 + 1) _ _ _ x5
  have lw := blk_lt x5
  have hM2 := hid (hM.put (x := 0) (y := 0) f0 f1)
  clear hM
  go_upto_region 11 with (fail)
  refine world_cut (fun W => MSr p (Q1.put m.fr 0 0) m (p.kind m.fr.toNat) (p.side m.fr.toNat) g (g + 1) w W) hM2.out ?_
  intro W2 hM
  clear x0 x1 x2 x3 x4 x5 x8 x9 x10 x11 x12 x13 x14 x15 fz d0 d1 lw hM2
  obtain ⟨x0, x1, x2, x3, x4, x5, -, -, x8, x9, x10, x11, x12, x13, x14, x15⟩ := id hM
  have fz := blk_froz x5
  have d0 := cell_of_row W2 (g + 1) (m.to_.toNat * 2) _ _ _ x5
  have d1 := cell_of_row W2 (g + 1) (m.to_.toNat * 2 + 1) _ _ _ x5
  have lw := blk_lt x5
  have hM2 := hid (hM.put (x := p.kind m.fr.toNat) (y := p.side m.fr.toNat) t0 t1)
  clear hM
  go_upto_region 12 with (fail)
  refine world_cut (fun W => MSr p ((Q1.put m.fr 0 0).put m.to_ (p.kind m.fr.toNat) (p.side m.fr.toNat)) m (p.kind m.fr.toNat) (p.side m.fr.toNat) g (g + 1) w W) hM2.out ?_
  intro W3 hM
  clear x0 x1 x2 x3 x4 x5 x8 x9 x10 x11 x12 x13 x14 x15 fz d0 d1 lw hM2
  have HBA := hid (show basic p m T (beOf m (p.kind m.fr.toNat)) (p.side m.fr.toNat) = (Q1.put m.fr 0 0).put m.to_ (beOf m (p.kind m.fr.toNat)) (p.side m.fr.toNat) by unfold basic; rw [← HQ1.out])
  obtain ⟨x0, x1, x2, x3, x4, x5, -, -, x8, x9, x10, x11, x12, x13, x14, x15⟩ := id hM
  go_upto_if 59 with (fail)
  clear x0 x1 x2 x3 x4 x5 x8 x9 x10 x11 x12 x13 x14 x15
  go_cut [60] (fun s60 wx => MSr p (basic p m T (beOf m (p.kind m.fr.toNat)) (p.side m.fr.toNat)) m (p.kind m.fr.toNat) (p.side m.fr.toNat) g (g + 1) w wx)
  case first =>
   obtain ⟨x0, x1, x2, x3, x4, x5, -, -, x8, x9, x10, x11, x12, x13, x14, x15⟩ := id hM
   have fz := blk_froz x5
   have d0 := cell_of_row W3 (g + 1) (m.to_.toNat * 2) _ _ _ x5
   have lw := blk_lt x5
   by_cases hbe : m.be = 0
   ·have HO := hid (show beOf m (p.kind m.fr.toNat) = p.kind m.fr.toNat by unfold beOf; rw [if_neg (by simp [hbe])])
    have g1 : (m.be != 0) = false := by simp [hbe]
    have HM := hid hM
    clear hbe hM
    go_wp2
    go_meet
    case rel => rw [HBA.out, HO.out]; exact HM.out
   ·have HO := hid (show beOf m (p.kind m.fr.toNat) = m.be by unfold beOf; rw [if_pos hbe])
    have g1 : (m.be != 0) = true := by simp [hbe]
    have HM := hid (hM.set (pos_kind _ m.to_ m.be t0 t1))
    have HX := hid (show ({ ((Q1.put m.fr 0 0).put m.to_ (p.kind m.fr.toNat) (p.side m.fr.toNat)) with kind := fun i => if i = m.to_.toNat then m.be else ((Q1.put m.fr 0 0).put m.to_ (p.kind m.fr.toNat) (p.side m.fr.toNat)).kind i } : Pos) = (Q1.put m.fr 0 0).put m.to_ m.be (p.side m.fr.toNat) by
     unfold Pos.put
     simp only [Pos.mk.injEq, and_self, and_true, true_and]
     funext i; split <;> rfl)
    clear hM
    go_wp2
    go_meet
    case rel => rw [HBA.out, HO.out, ← HX.out]; exact HM.out
  case rest =>
   clear hM
   have hM := hcut
   clear hcut
   generalize hk : p.kind m.fr.toNat = k at *
   generalize hsd : p.side m.fr.toNat = sd at *
   have HKK := hid hk
   have HSS := hid hsd
   clear hk hsd
   obtain ⟨Q2, hQ2⟩ : ∃ Q2, Q2 = basic p m T (beOf m k) sd := ⟨_, rfl⟩
   rw [← hQ2] at hM HB
   have HQ2 := hid hQ2
   clear hQ2 HBA HQ1
   obtain ⟨x0, x1, x2, x3, x4, x5, -, -, x8, x9, x10, x11, x12, x13, x14, x15⟩ := id hM
   go_upto_block 0 with (first | (go_at_call 119; (with_reducible refine (HK _).mono ?_); rintro e wD ⟨rfl, hxD⟩))
   have hM := hM.ext hxD
   clear x0 x1 x2 x3 x4 x5 x8 x9 x10 x11 x12 x13 x14 x15
   go_cut [70] (fun s70 wx => MSr p (stood p m k sd) m k sd g (g + 1) w wx)
   case first =>
    have HRK := hid (show (rookOf p m k sd).2.2 = true → k = 6 ∧ m.fr = homeOf sd ∧ ((m.to_ = homeOf sd + 2 ∧ (rookOf p m k sd).1 = m.fr + 3 ∧ (rookOf p m k sd).2.1 = m.fr + 1) ∨ (m.to_ ≠ homeOf sd + 2 ∧ (rookOf p m k sd).1 = m.fr - 4 ∧ (rookOf p m k sd).2.1 = m.fr - 1)) by
     intro hr
     unfold rookOf at hr ⊢
     split at hr
     ·rename_i h; rw [if_pos h]
      refine ⟨h.1, h.2, ?_⟩
      split at hr
      ·rename_i h2; rw [if_pos h2]; exact .inl ⟨h2, by rw [h.2], by rw [h.2]⟩
      ·rename_i h2; rw [if_neg h2]
       split at hr
       ·rename_i h3; rw [if_pos h3]; exact .inr ⟨h2, by rw [h.2], by rw [h.2]⟩
       ·cases hr
     ·cases hr)
    cases hr : (rookOf p m k sd).2.2
    ·have hca : castlingOf p m = 0 := by rw [HCA.out, hr, if_neg (by decide)]
     have HS := hid (show stood p m k sd = Q2 by rw [HB.out, hr, if_neg (by decide)])
     obtain ⟨x0, x1, x2, x3, x4, x5, -, -, x8, x9, x10, x11, x12, x13, x14, x15⟩ := id hM
     have HM := hid hM
     clear hM
     go_wp2
     go_meet
     case rel => rw [HS.out]; exact HM.out
    ·obtain ⟨hk6, hfr, hcs⟩ := HRK.out hr
     have hh := home_bd sd
     rcases hcs with ⟨q1, q2, q3⟩ | ⟨q1, q2, q3⟩
     ·have hca : castlingOf p m = 1 := by rw [HCA.out, hr, if_pos rfl, if_pos q1]
      have HS := hid (show stood p m k sd = (Q2.put (m.fr + 3) 0 0).put (m.fr + 1) 4 sd by rw [HB.out, hr, if_pos rfl, q2, q3])
      have r0 : 0 ≤ m.fr + 3 := by omega
      have r1 : m.fr + 3 < 64 := by omega
      have r2 : (m.fr + 3).toNat < 64 := by omega
      have r3 : 0 ≤ m.fr + 1 := by omega
      have r4 : m.fr + 1 < 64 := by omega
      have r5 : (m.fr + 1).toNat < 64 := by omega
      have HRR := hid (And.intro hr (And.intro q1 hfr))
      clear q1 q2 q3 hr hfr hh hk6
      obtain ⟨x0, x1, x2, x3, x4, x5, -, -, x8, x9, x10, x11, x12, x13, x14, x15⟩ := id hM
      have fz := blk_froz x5
      have d0 := cell_of_row wD (g + 1) ((m.fr + 3).toNat * 2) _ _ _ x5
      have d1 := cell_of_row wD (g + 1) ((m.fr + 3).toNat * 2 + 1) _ _ _ x5
      have lw := blk_lt x5
      have hM2 := hid (hM.put (x := 0) (y := 0) r0 r1)
      clear hM
      go_upto_region 17 with (fail)
      refine world_cut (fun W => MSr p (Q2.put (m.fr + 3) 0 0) m k sd g (g + 1) w W) hM2.out ?_
      intro W5 hM
      clear x0 x1 x2 x3 x4 x5 x8 x9 x10 x11 x12 x13 x14 x15 fz d0 d1 lw hM2
      obtain ⟨x0, x1, x2, x3, x4, x5, -, -, x8, x9, x10, x11, x12, x13, x14, x15⟩ := id hM
      have fz := blk_froz x5
      have d0 := cell_of_row W5 (g + 1) ((m.fr + 1).toNat * 2) _ _ _ x5
      have d1 := cell_of_row W5 (g + 1) ((m.fr + 1).toNat * 2 + 1) _ _ _ x5
      have lw := blk_lt x5
      have hM2 := hid (hM.put (x := 4) (y := sd) r3 r4)
      clear hM
      go_wp2
      go_meet
      case rel => rw [HS.out]; exact hM2.out
     ·have hca : castlingOf p m = -1 := by rw [HCA.out, hr, if_pos rfl, if_neg q1]
      have HS := hid (show stood p m k sd = (Q2.put (m.fr - 4) 0 0).put (m.fr - 1) 4 sd by rw [HB.out, hr, if_pos rfl, q2, q3])
      have r0 : 0 ≤ m.fr - 4 := by omega
      have r1 : m.fr - 4 < 64 := by omega
      have r2 : (m.fr - 4).toNat < 64 := by omega
      have r3 : 0 ≤ m.fr - 1 := by omega
      have r4 : m.fr - 1 < 64 := by omega
      have r5 : (m.fr - 1).toNat < 64 := by omega
      have HRR := hid (And.intro hr (And.intro q1 hfr))
      clear q1 q2 q3 hr hfr hh hk6
      obtain ⟨x0, x1, x2, x3, x4, x5, -, -, x8, x9, x10, x11, x12, x13, x14, x15⟩ := id hM
      have fz := blk_froz x5
      have d0 := cell_of_row wD (g + 1) ((m.fr - 4).toNat * 2) _ _ _ x5
      have d1 := cell_of_row wD (g + 1) ((m.fr - 4).toNat * 2 + 1) _ _ _ x5
      have lw := blk_lt x5
      have hM2 := hid (hM.put (x := 0) (y := 0) r0 r1)
      clear hM
      go_upto_region 20 with (fail)
      refine world_cut (fun W => MSr p (Q2.put (m.fr - 4) 0 0) m k sd g (g + 1) w W) hM2.out ?_
      intro W5 hM
      clear x0 x1 x2 x3 x4 x5 x8 x9 x10 x11 x12 x13 x14 x15 fz d0 d1 lw hM2
      obtain ⟨x0, x1, x2, x3, x4, x5, -, -, x8, x9, x10, x11, x12, x13, x14, x15⟩ := id hM
      have fz := blk_froz x5
      have er : (m.fr - 1).toNat = m.fr.toNat - 1 := by omega
      have d0 := cell_of_row W5 (g + 1) ((m.fr.toNat - 1) * 2) _ _ _ x5
      have d1 := cell_of_row W5 (g + 1) ((m.fr.toNat - 1) * 2 + 1) _ _ _ x5
      have lw := blk_lt x5
      have hM3 := hM.put (x := 4) (y := sd) r3 r4
      rw [er] at hM3 r5
      have hM2 := hid hM3
      clear hM3 er
      clear hM
      go_wp2
      go_meet
      case rel => rw [HS.out]; exact hM2.out
   case rest =>
    clear hM
    have hM := hcut
    clear hcut
    clear HQ2 HB
    obtain ⟨Q3, hQ3⟩ : ∃ Q3, Q3 = stood p m k sd := ⟨_, rfl⟩
    rw [← hQ3] at hM
    have HQ3 := hid hQ3
    clear hQ3
    obtain ⟨x0, x1, x2, x3, x4, x5, -, -, x8, x9, x10, x11, x12, x13, x14, x15⟩ := id hM
    have lw := blk_lt x5
    go_upto_region 22 with (first | (go_at_call 112; (with_reducible refine (rOther_any _ _).mono ?_); rintro e wE ⟨rfl, hxE⟩; have y5 := (hxE.blk _ lw).trans x5; have fzE := blk_froz y5; have dE := cell_of_row wE (g + 1) 128 _ _ _ y5; have lwE := blk_lt y5))
    have hM2 := hid ((hM.ext hxE).set (pos_turn Q3 (otherOf p.turn)))
    clear y5 fzE dE lwE hM lw
    clear x0 x1 x2 x3 x4 x5 x8 x9 x10 x11 x12 x13 x14 x15
    refine world_cut (fun W => MSr p { Q3 with turn := otherOf p.turn } m k sd g (g + 1) w W) hM2.out ?_
    clear hM2 hxE
    intro W6 hM
    obtain ⟨a0, a1⟩ := lostOf_bd2 m.fr
    obtain ⟨a2, a3⟩ := lostOf_bd2 m.to_
    obtain ⟨n0, n1, -⟩ := not_at c0 c1 a0 a1
    refine wp_region_split 10 (MSr p { Q3 with turn := otherOf p.turn } m k sd g (g + 1) w) (by kernel_rfl) (by kernel_rfl) (hM.ext (Ext.drew (Ext.refl _))) (fun hH => ?_)
    simp only [List.take_succ_cons, List.take_zero, List.drop_succ_cons, List.drop_zero]
    refine hTz MSr.u 0 ?_; (try go_frame)
    refine hTz MSr.u 2 ?_; (try go_frame)
    refine hTz MSr.u 3 ?_; (try go_frame)
    refine hTz MSr.u 6 ?_; (try go_frame)
    refine hTz MSr.u 7 ?_; (try go_frame)
    refine hRy [1] (hCp (fun K hK => ?_) AllReadyH.nil); go_simp
    refine (rCas8_any p _ c0 c1).mono ?_
    rintro e w8 ⟨rfl, hx8⟩
    refine hK.out _ _ (hH.ext (by first | assumption | exact Ext.alloc (Ext.refl _) _)) (fun hH => ?_); clear hK; (try go_frame)
    refine hRy [4] (hCp (fun K hK => ?_) AllReadyH.nil); go_simp
    refine (rLost_any m.fr _).mono ?_
    rintro e w9 ⟨rfl, hx9⟩
    refine hK.out _ _ (hH.ext (by first | assumption | exact Ext.alloc (Ext.refl _) _)) (fun hH => ?_); clear hK; (try go_frame)
    refine hRy [5] (hCp (fun K hK => ?_) AllReadyH.nil); go_simp
    refine (rWithout_any p.castle (lostOf m.fr) _ c0 c1 a0 a1).mono ?_
    rintro e w10 ⟨rfl, hx10⟩
    refine hK.out _ _ (hH.ext (by first | assumption | exact Ext.alloc (Ext.refl _) _)) (fun hH => ?_); clear hK; (try go_frame)
    refine hRy [8] (hCp (fun K hK => ?_) AllReadyH.nil); go_simp
    refine (rLost_any m.to_ _).mono ?_
    rintro e w11 ⟨rfl, hx11⟩
    refine hK.out _ _ (hH.ext (by first | assumption | exact Ext.alloc (Ext.refl _) _)) (fun hH => ?_); clear hK; (try go_frame)
    refine hRy [9] (hCp (fun K hK => ?_) AllReadyH.nil); go_simp
    refine (rWithout_any (notI p.castle (lostOf m.fr)) (lostOf m.to_) _ n0 n1 a2 a3).mono ?_
    rintro e w12 ⟨rfl, hx12⟩
    refine hK.out _ _ (hH.ext (by first | assumption | exact Ext.alloc (Ext.refl _) _)) (fun hH => ?_); clear hK; (try go_frame)
    refine wpAnyH_done (by kernel_rfl) ?_ _
    simp only [splitQ]
    obtain ⟨x0, x1, x2, x3, x4, x5, -, -, x8, x9, x10, x11, x12, x13, x14, x15⟩ := id hH
    have fz := blk_froz x5
    have d0 := cell_of_row _ (g + 1) 129 _ _ _ x5
    have lw := blk_lt x5
    have hM2 := hid (hH.set (pos_castle { Q3 with turn := otherOf p.turn } (notI (notI p.castle (lostOf m.fr)) (lostOf m.to_))))
    clear hH hM
    go_upto_region 23 with (fail)
    clear x0 x1 x2 x3 x4 x5 x8 x9 x10 x11 x12 x13 x14 x15
    refine world_cut (fun W => MSr p { Q3 with turn := otherOf p.turn, castle := notI p.castle (lostL [m.fr, m.to_]) } m k sd g (g + 1) w W) (by rw [← not_two m.fr m.to_ c0 c1]; exact hM2.out) ?_
    clear hM2 fz d0 lw
    intro W7 hM
    obtain ⟨x0, x1, x2, x3, x4, x5, -, -, x8, x9, x10, x11, x12, x13, x14, x15⟩ := id hM
    have fz := blk_froz x5
    have d0 := cell_of_row _ (g + 1) 130 _ _ _ x5
    have lw := blk_lt x5
    have hM2 := hid (hM.set (pos_over { Q3 with turn := otherOf p.turn, castle := notI p.castle (lostL [m.fr, m.to_]) } (-1)))
    clear hM
    go_upto_region 24 with (fail)
    clear x0 x1 x2 x3 x4 x5 x8 x9 x10 x11 x12 x13 x14 x15
    refine world_cut (fun W => MSr p { Q3 with turn := otherOf p.turn, castle := notI p.castle (lostL [m.fr, m.to_]), over := -1 } m k sd g (g + 1) w W) hM2.out ?_
    clear hM2 fz d0 lw
    intro W8 hM
    obtain ⟨x0, x1, x2, x3, x4, x5, -, -, x8, x9, x10, x11, x12, x13, x14, x15⟩ := id hM
    go_upto_if 120 with (first | (go_at_call 123; (with_reducible refine (rLong_any m k sd _ f0 f1 t0 t1 HSD.out).mono ?_); rintro e wF ⟨rfl, hxF⟩))
    have hM := hM.ext hxF
    clear x0 x1 x2 x3 x4 x5 x8 x9 x10 x11 x12 x13 x14 x15
    go_cut [121] (fun s121 wx => MSr p { Q3 with turn := otherOf p.turn, castle := notI p.castle (lostL [m.fr, m.to_]), over := overOf m k sd } m k sd g (g + 1) w wx)
    case first =>
     have hq : (m.fr + m.to_).tdiv 2 = (m.fr + m.to_) / 2 := by rw [Int.tdiv_eq_ediv_of_nonneg (by omega)]
     cases hl : longB m k sd
     ·have HO := hid (show overOf m k sd = -1 by unfold overOf; rw [hl]; rfl)
      have HM := hid hM
      clear hM
      go_wp2
      go_meet
      case rel => rw [HO.out]; exact HM.out
     ·have HO := hid (show overOf m k sd = (m.fr + m.to_) / 2 by unfold overOf; rw [hl]; rfl)
      obtain ⟨x0, x1, x2, x3, x4, x5, -, -, x8, x9, x10, x11, x12, x13, x14, x15⟩ := id hM
      have fz := blk_froz x5
      have d0 := cell_of_row _ (g + 1) 130 _ _ _ x5
      have lw := blk_lt x5
      have HM := hid (hM.set (pos_over { Q3 with turn := otherOf p.turn, castle := notI p.castle (lostL [m.fr, m.to_]), over := -1 } ((m.fr + m.to_) / 2)))
      clear hM
      go_wp2
      go_meet
      case rel => rw [HO.out]; exact HM.out
    case rest =>
     clear hM
     have hM := hcut
     clear hcut
     go_upto_region 26 with (fail)
     go_cut [132] (fun s132 wx => MSr p { Q3 with turn := otherOf p.turn, castle := notI p.castle (lostL [m.fr, m.to_]), over := overOf m k sd, half := upTo 1023 p.half } m k sd g (g + 1) w wx)
     case first =>
      have HU := hid (upTo_min 1023 p.half)
      obtain ⟨x0, x1, x2, x3, x4, x5, -, -, x8, x9, x10, x11, x12, x13, x14, x15⟩ := id hM
      have fz := blk_froz x5
      have d0 := cell_of_row _ (g + 1) 131 _ _ _ x5
      have lw := blk_lt x5
      have HM := hid (hM.set (pos_half { Q3 with turn := otherOf p.turn, castle := notI p.castle (lostL [m.fr, m.to_]), over := overOf m k sd } (wrap64 (min p.half 1023 + 1))))
      clear hM
      go_wp2
      go_meet
      case rel => rw [HU.out]; exact HM.out
     case rest =>
      clear hM
      have hM := hcut
      clear hcut
      go_upto_region 27 with (fail)
      go_cut [139] (fun s139 wx => s139 = .bool (!(T == -1 && k != 1)) ∧ MSr p { Q3 with turn := otherOf p.turn, castle := notI p.castle (lostL [m.fr, m.to_]), over := overOf m k sd, half := upTo 1023 p.half } m k sd g (g + 1) w wx)
      case first =>
       obtain ⟨x0, x1, x2, x3, x4, x5, -, -, x8, x9, x10, x11, x12, x13, x14, x15⟩ := id hM
       have HM := hid hM
       clear hM
       by_cases hk1 : k = 1
       ·have HV := hid (show (!(T == -1 && k != 1)) = true by simp [hk1])
        have q1 : (k == 1) = true := by simp [hk1]
        clear hk1
        go_wp2
        go_meet
        case rel => exact ⟨by rw [HV.out], HM.out⟩
       ·have q1 : (k == 1) = false := by simpa using hk1
        by_cases ht : 0 ≤ T
        ·have HV := hid (show (!(T == -1 && k != 1)) = true by simp; omega)
         clear hk1
         go_wp2
         go_meet
         case rel => exact ⟨by rw [HV.out], HM.out⟩
        ·have HV := hid (show (!(T == -1 && k != 1)) = false by simp; omega)
         clear hk1
         go_wp2
         go_meet
         case rel => exact ⟨by rw [HV.out], HM.out⟩
      case rest =>
       clear hM
       obtain ⟨rfl, hM⟩ := hcut
       have HHF := hid (show halfOf p m k = if (T == -1 && k != 1) = true then upTo 1023 p.half else 0 by unfold halfOf quietB; rw [HTK.out])
       go_upto_if 139 with (fail)
       go_cut [140] (fun s140 wx => MSr p { Q3 with turn := otherOf p.turn, castle := notI p.castle (lostL [m.fr, m.to_]), over := overOf m k sd, half := halfOf p m k } m k sd g (g + 1) w wx)
       case first =>
        obtain ⟨x0, x1, x2, x3, x4, x5, -, -, x8, x9, x10, x11, x12, x13, x14, x15⟩ := id hM
        have fz := blk_froz x5
        have d0 := cell_of_row _ (g + 1) 131 _ _ _ x5
        have lw := blk_lt x5
        cases hq : (T == -1 && k != 1)
        ·have HO := hid (show halfOf p m k = 0 by rw [HHF.out, hq]; rfl)
         have HM := hid (hM.set (pos_half { Q3 with turn := otherOf p.turn, castle := notI p.castle (lostL [m.fr, m.to_]), over := overOf m k sd, half := upTo 1023 p.half } 0))
         clear hM hq
         go_wp2
         go_meet
         case rel => rw [HO.out]; exact HM.out
        ·have HO := hid (show halfOf p m k = upTo 1023 p.half by rw [HHF.out, hq]; rfl)
         have HM := hid hM
         clear hM hq
         go_wp2
         go_meet
         case rel => rw [HO.out]; exact HM.out
       case rest =>
        clear hM
        have hM := hcut
        clear hcut
        obtain ⟨x0, x1, x2, x3, x4, x5, -, -, x8, x9, x10, x11, x12, x13, x14, x15⟩ := id hM
        go_upto_if 143 with (fail)
        clear x0 x1 x2 x3 x4 x5 x8 x9 x10 x11 x12 x13 x14 x15
        go_cut [144] (fun s144 wx => MSr p { Q3 with turn := otherOf p.turn, castle := notI p.castle (lostL [m.fr, m.to_]), over := overOf m k sd, half := halfOf p m k, full := fullOf p } m k sd g (g + 1) w wx)
        case first =>
         obtain ⟨x0, x1, x2, x3, x4, x5, -, -, x8, x9, x10, x11, x12, x13, x14, x15⟩ := id hM
         have fz := blk_froz x5
         have d0 := cell_of_row _ (g + 1) 132 _ _ _ x5
         have lw := blk_lt x5
         by_cases ht : p.turn = 1
         ·have HO := hid (show fullOf p = wrap64 (min p.full 16383 + 1) by unfold fullOf; rw [if_pos ht, upTo_min])
          have HM := hid (hM.set (pos_full { Q3 with turn := otherOf p.turn, castle := notI p.castle (lostL [m.fr, m.to_]), over := overOf m k sd, half := halfOf p m k } (wrap64 (min p.full 16383 + 1))))
          have q1 : (p.turn == 1) = true := by simp [ht]
          clear hM ht
          go_wp2
          go_meet
          case rel => rw [HO.out]; exact HM.out
         ·have HO := hid (show fullOf p = Q3.full by unfold fullOf; rw [if_neg ht, HQ3.out, (stood_rest p m k sd).2.2])
          have HM := hid hM
          have q1 : (p.turn == 1) = false := by simp [ht]
          clear hM ht
          go_wp2
          go_meet
          case rel => rw [HO.out]; exact HM.out
        case rest =>
         clear hM
         have hM := hcut
         clear hcut
         have HF := hid (show movedP p m = { Q3 with turn := otherOf p.turn, castle := notI p.castle (lostL [m.fr, m.to_]), over := overOf m k sd, half := halfOf p m k, full := fullOf p } by rw [HE.out, HQ3.out]; rfl)
         obtain ⟨x0, x1, x2, x3, x4, x5, -, -, x8, x9, x10, x11, x12, x13, x14, x15⟩ := id hM
         have x3' : blk _ (w.heap.size + 1 + 1) = some (.cells (posCells Pos.zero) 30 (0, 0)) := x3
         go_wp2
         exact bodyPost_ret (v := .tuple #[.agg (posCells (movedP p m)), .int .i64 0]) (results_cell2 rfl rfl rfl (by rw [HF.out]; exact load_pos (setRow_blk x3'))) rfl ⟨rfl, x0.setRow (by omega) _⟩
theorem AllL_taken {p : Pos} {m : Mv} (h : m ∈ AllL p) : takenE p m = 0 := by
 obtain ⟨f0, f1, t0, t1, hg, hto⟩ := AllL_goes h
 have hmv := goes_mover hg
 have hmay := hmv.1
 simp only [mayB, decide_eq_true_eq] at hmay
 have hne : m.fr ≠ m.to_ := by
  unfold rGoesB at hg
  split at hg
  ·rename_i h; exact h.2.2
  ·cases hg
 have hrk : rankOf m.to_ = m.to_ / 8 := if_pos ⟨t0, t1⟩
 have hr : rangeB m = true := by simp [rangeB, f0, f1, t0, t1, hne]
 have hc : canB p m = true := by
  unfold canB canOf
  rw [decide_eq_true_eq]
  refine ⟨hmay.1, hmay.2.1, hmv.2, hmay.2.2, ?_⟩
  unfold toOne at hto
  split at hto
  ·rename_i hc
   left
   refine ⟨hc.1, hc.2, ?_⟩
   simp only [promos, List.mem_cons, List.not_mem_nil, or_false] at hto
   rcases hto with e | e | e | e <;> rw [e] <;> simp
  ·rename_i hc
   right
   refine ⟨hc, ?_⟩
   rw [List.mem_singleton] at hto
   rw [hto]
 unfold takenE
 rw [if_pos hr, if_pos hc]
theorem rCastling10_any (p : Pos) (m : Mv) (w : World) (f0 : 0 ≤ m.fr) (f1 : m.fr < 64) (t0 : 0 ≤ m.to_) (t1 : m.to_ < 64) :
 Calls Tryz.prog 114 #[.agg (posCells p), .agg #[.int .i64 m.fr, .int .i64 m.to_, .int .i64 m.be]] w (Ret (.bool (castlesMB p m)) w) := by
 have f2 : m.fr.toNat < 64 := by omega
 have HE := hid (show castlesMB p m = (p.kind m.fr.toNat == 6 && (m.to_ == m.fr + 2 || m.to_ == m.fr - 2)) by
  unfold castlesMB
  congr 1
  rw [Bool.eq_iff_iff]; simp; omega)
 go_enter Tryz.func114, Tryz.ntmps114
 go_wp2
 all_goals (go_ret; exact Ret.mk' (vbool (by rw [HE.out]; go_light; simp_all)) (Ext.auto))
abbrev MSg.T (p : Pos) (m : Mv) (w W : World) : Prop := Ext w W ∧ blk W w.heap.size = some (.cells (posCells p) 30 (0, 0)) ∧ blk W (w.heap.size + 1) = some (.cells #[.int .i64 m.fr, .int .i64 m.to_, .int .i64 m.be] 51 (0, 0)) ∧
 W.cell? ⟨w.heap.size, 128, none⟩ = some (.int .i64 p.turn) ∧ W.cell? ⟨w.heap.size + 1, 0, none⟩ = some (.int .i64 m.fr) ∧ W.cell? ⟨w.heap.size + 1, 1, none⟩ = some (.int .i64 m.to_)
def MSg (p : Pos) (m : Mv) (w W : World) : Prop := MSg.T p m w W
theorem MSg.u {p m w} (W) (h : MSg p m w W) : MSg.T p m w W := h
theorem MSg.mk' {p : Pos} {m : Mv} {w W : World} (h : Ext w W) (h1 : blk W w.heap.size = some (.cells (posCells p) 30 (0, 0))) (h2 : blk W (w.heap.size + 1) = some (.cells #[.int .i64 m.fr, .int .i64 m.to_, .int .i64 m.be] 51 (0, 0))) : MSg p m w W :=
 ⟨h, h1, h2, by rw [blk_cell h1]; simp [go_sem], blk_cell h2 0, blk_cell h2 1⟩
theorem MSg.ext {p : Pos} {m : Mv} {w W W' : World} (h : MSg p m w W) (hx : Ext W W') : MSg p m w W' := MSg.mk' (h.1.trans hx) ((hx.blk _ (blk_lt h.2.1)).trans h.2.1) ((hx.blk _ (blk_lt h.2.2.1)).trans h.2.2.1)
theorem rFine_any (p : Pos) (m : Mv) (w : World) (hp : positionB p = true) (hm : m ∈ AllL p) :
 Calls Tryz.prog 75 #[.agg (posCells p), .agg #[.int .i64 m.fr, .int .i64 m.to_, .int .i64 m.be]] w (Ret (.bool (legalB p m)) w) := by
 have hE := AllL_taken hm
 have H := parts_iff.1 hp
 obtain ⟨c0, c1, -, -, -, -⟩ := castle_iff.1 H.castles
 obtain ⟨f0, f1, t0, t1, -, -⟩ := AllL_goes hm
 have hmid : Int.tdiv (m.fr + m.to_) 2 = (m.fr + m.to_) / 2 := Int.tdiv_eq_ediv_of_nonneg (by omega)
 have z1 : IntKind.i64.wrap (m.fr + m.to_) = m.fr + m.to_ := IntWalk.i64_in _ (by omega)
 have z2 : IntKind.i64.wrap ((m.fr + m.to_) / 2) = (m.fr + m.to_) / 2 := IntWalk.i64_in _ (by omega)
 have HE := hid (show legalB p m = (!checkB (movedP p m) p.turn && (!castlesMB p m || (!checkB p p.turn && !attacked p (otherOf p.turn) [(m.fr + m.to_) / 2]))) by
  rw [← fine_eq H.pieces hm, ← hmid]; unfold rFineB; rw [hE]; rfl)
 have HM : ∀ w, Calls Tryz.prog 77 #[.agg (posCells p), .agg #[.int .i64 m.fr, .int .i64 m.to_, .int .i64 m.be]] w (Ret (.tuple #[.agg (posCells (movedP p m)), .int .i64 0]) w) := fun w => rMove_any p m w hE c0 c1
 have HC : ∀ w, Calls Tryz.prog 114 #[.agg (posCells p), .agg #[.int .i64 m.fr, .int .i64 m.to_, .int .i64 m.be]] w (Ret (.bool (castlesMB p m)) w) := fun w => rCastling10_any p m w f0 f1 t0 t1
 have HK1 : ∀ w, Calls Tryz.prog 111 #[.agg (posCells (movedP p m)), .int .i64 p.turn] w (Ret (.bool (checkB (movedP p m) p.turn)) w) := fun w => rCheck_any _ _ w
 have HK2 : ∀ w, Calls Tryz.prog 111 #[.agg (posCells p), .int .i64 p.turn] w (Ret (.bool (checkB p p.turn)) w) := fun w => rCheck_any _ _ w
 have HO : ∀ s w, Calls Tryz.prog 112 #[.int .i64 s] w (Ret (.int .i64 (otherOf s)) w) := fun s w => rOther_any s w
 clear H hm hp hE
 generalize movedP p m = q at *
 cases h1 : checkB q p.turn
 ·rw [h1] at HK1 HE
  cases h2 : castlesMB p m
  ·rw [h2] at HC HE
   go_enter Tryz.func75, Tryz.ntmps75
   go_wp2_with (first | (go_at_call 77; with_reducible refine arm (HM _) fun w1 hx hxc hxf hxb hxs => ?_; (try have := sW w w1)) | (go_at_call 111; with_reducible refine arm (HK1 _) fun w1 hx hxc hxf hxb hxs => ?_; (try have := sW w w1)) | (go_at_call 114; with_reducible refine arm (HC _) fun w1 hx hxc hxf hxb hxs => ?_; (try have := sW w w1)))
   all_goals (go_ret; exact Ret.mk' (vbool (by rw [HE.out]; rfl)) (Ext.auto))
  ·rw [h2] at HC HE
   cases h3 : checkB p p.turn
   ·rw [h3] at HK2 HE
    go_enter Tryz.func75, Tryz.ntmps75
    go_upto_region 6 with (first | (go_at_call 77; with_reducible refine arm (HM _) fun w1 hx hxc hxf hxb hxs => ?_; (try have := sW w w1)) | (go_at_call 111; with_reducible refine arm (HK1 _) fun w1 hx hxc hxf hxb hxs => ?_; (try have := sW w w1)) | (go_at_call 114; with_reducible refine arm (HC _) fun w1 hx hxc hxf hxb hxs => ?_; (try have := sW w w1)))
    have hE0 : Ext ((w.alloc (.cells (posCells p) 30)).alloc (.cells #[.int .i64 m.fr, .int .i64 m.to_, .int .i64 m.be] 51)) w1 := (Ext.auto)
    have hEw : Ext w w1 := (Ext.auto)
    have hM0 : MSg p m w w1 := MSg.mk' hEw ((hE0.blk _ (by simp; omega)).trans (by simp [go_sem])) ((hE0.blk _ (by simp)).trans (by simp [go_sem]))
    clear hE0 hEw
    have hM1 := hM0.ext (Ext.drew (Ext.refl _))
    refine wp_region_held_drew (S := MSg p m w) (by kernel_rfl) (hM1) (fun hH => ?_)
    refine hTz MSg.u 0 ?_; (try go_frame)
    refine hTz MSg.u 1 ?_; (try go_frame)
    refine hTz MSg.u 2 ?_; (try go_frame)
    refine hRy [3] (hCp (fun K hK => ?_) AllReadyH.nil); go_simp
    refine (HK2 _).mono ?_
    rintro e w8 ⟨rfl, hx8⟩
    refine hK.out _ _ (hH.ext (by first | assumption | exact Ext.alloc (Ext.refl _) _)) (fun hH => ?_); clear hK; (try go_frame)
    refine hTz MSg.u 4 ?_; (try go_frame)
    refine hTz MSg.u 5 ?_; (try go_frame)
    refine hTz MSg.u 6 ?_; (try go_frame)
    refine hTz MSg.u 7 ?_; (try go_frame)
    refine hTz MSg.u 8 ?_; (try go_frame)
    refine hTz MSg.u 10 ?_; (try go_frame)
    refine hTz MSg.u 11 ?_; (try go_frame)
    refine hTz MSg.u 12 ?_; (try go_frame)
    refine hTz MSg.u 13 ?_; (try go_frame)
    refine hTz MSg.u 14 ?_; (try go_frame)
    refine hTz MSg.u 15 ?_; (try go_frame)
    refine hRy [9, 16] (hCp (fun K hK => ?_) (hCp (fun K hK => ?_) AllReadyH.nil))
    ·go_simp
     refine (HO _ _).mono ?_
     rintro e w9 ⟨rfl, hx9⟩
     refine hK.out _ _ (hH.ext (by first | assumption | exact Ext.alloc (Ext.refl _) _)) (fun hH => ?_); clear hK; (try go_frame)
     refine hRy [16] (hCp (fun K hK => ?_) AllReadyH.nil); go_simp
     refine hK.out _ _ (hH.ext (by first | assumption | exact Ext.alloc (Ext.refl _) _)) (fun hH => ?_); clear hK; (try go_frame)
     refine hRy [17] (hCp (fun K hK => ?_) AllReadyH.nil); go_simp
     first | refine (rIs_any p _ [(m.fr + m.to_) / 2] _ _ (Sl.lits [(m.fr + m.to_) / 2] _ _ rfl (alloc_ints1 _ _ _)) (by simp) (by intro x hx; simp at hx; omega)).mono ?_ | refine (rIs_any p _ [(m.fr + m.to_) / 2] _ _ (Sl.lits [(m.fr + m.to_) / 2] _ _ rfl ((hx9.blk _ (by simp)).trans (alloc_ints1 _ _ _))) (by simp) (by intro x hx; simp at hx; omega)).mono ?_
     rintro e w10 ⟨rfl, hx10⟩
     refine hK.out _ _ (hH.ext (by first | assumption | exact Ext.alloc (Ext.refl _) _)) (fun hH => ?_); clear hK; (try go_frame)
     refine hTz MSg.u 18 ?_; (try go_frame)
     refine hTz MSg.u 19 ?_; (try go_frame)
     refine hTz MSg.u 20 ?_; (try go_frame)
     refine wpAnyH_done (by kernel_rfl) ?_ _
     go_wp2
     go_ret
     exact Ret.mk' (vbool (by rw [HE.out]; rfl)) hH.1
    ·go_simp
     refine hK.out _ _ (hH.ext (by first | assumption | exact Ext.alloc (Ext.refl _) _)) (fun hH => ?_); clear hK; (try go_frame)
     refine hRy [9] (hCp (fun K hK => ?_) AllReadyH.nil); go_simp
     refine (HO _ _).mono ?_
     rintro e w9 ⟨rfl, hx9⟩
     refine hK.out _ _ (hH.ext (by first | assumption | exact Ext.alloc (Ext.refl _) _)) (fun hH => ?_); clear hK; (try go_frame)
     refine hRy [17] (hCp (fun K hK => ?_) AllReadyH.nil); go_simp
     first | refine (rIs_any p _ [(m.fr + m.to_) / 2] _ _ (Sl.lits [(m.fr + m.to_) / 2] _ _ rfl (alloc_ints1 _ _ _)) (by simp) (by intro x hx; simp at hx; omega)).mono ?_ | refine (rIs_any p _ [(m.fr + m.to_) / 2] _ _ (Sl.lits [(m.fr + m.to_) / 2] _ _ rfl ((hx9.blk _ (by simp)).trans (alloc_ints1 _ _ _))) (by simp) (by intro x hx; simp at hx; omega)).mono ?_
     rintro e w10 ⟨rfl, hx10⟩
     refine hK.out _ _ (hH.ext (by first | assumption | exact Ext.alloc (Ext.refl _) _)) (fun hH => ?_); clear hK; (try go_frame)
     refine hTz MSg.u 18 ?_; (try go_frame)
     refine hTz MSg.u 19 ?_; (try go_frame)
     refine hTz MSg.u 20 ?_; (try go_frame)
     refine wpAnyH_done (by kernel_rfl) ?_ _
     go_wp2
     go_ret
     exact Ret.mk' (vbool (by rw [HE.out]; rfl)) hH.1
   ·rw [h3] at HK2 HE
    go_enter Tryz.func75, Tryz.ntmps75
    go_wp2_with (first | (go_at_call 77; with_reducible refine arm (HM _) fun w1 hx hxc hxf hxb hxs => ?_; (try have := sW w w1)) | (go_at_call 111; with_reducible refine arm (HK1 _) fun w1 hx hxc hxf hxb hxs => ?_; (try have := sW w w1)) | (go_at_call 114; with_reducible refine arm (HC _) fun w1 hx hxc hxf hxb hxs => ?_; (try have := sW w w1)))
    refine wp_quiet (by kernel_rfl) (by kernel_rfl) ?_; (repeat (first | go_big_quiet_step ((first | (go_at_call 111; with_reducible exact Calls.reg (HK2 _)))) | quiet_step ((first | (go_at_call 111; with_reducible exact Calls.reg (HK2 _)))))); refine wpQuiet_nil ?_; intro w1 hx; obtain ⟨hxc, hxf, hxb, hxs⟩ := hx.als; (try have := sW w w1)
    go_wp2
    all_goals (go_ret; exact Ret.mk' (vbool (by rw [HE.out]; rfl)) (Ext.auto))
 ·rw [h1] at HK1 HE
  go_enter Tryz.func75, Tryz.ntmps75
  go_wp2_with (first | (go_at_call 77; with_reducible refine arm (HM _) fun w1 hx hxc hxf hxb hxs => ?_; (try have := sW w w1)) | (go_at_call 111; with_reducible refine arm (HK1 _) fun w1 hx hxc hxf hxb hxs => ?_; (try have := sW w w1)))
  all_goals (go_ret; exact Ret.mk' (vbool (by rw [HE.out]; rfl)) (Ext.auto))
structure UpAt (p : Pos) (W0 : World) (k : Nat) (v : Value) (wr : World) : Prop where
 le : k ≤ (AllL p).length
 own : wr.ownsRow W0.heap.size 51 3 v (legalUp p k).length (mvsC (legalUp p k))
 x : Ext W0 wr
theorem UpAt.no {p : Pos} {W0 wr wr' : World} {k : Nat} {v : Value} {m : Mv} (h : UpAt p W0 k v wr) (hm : (AllL p)[k]? = some m) (hn : legalB p m = false) (hx : Ext wr wr') : UpAt p W0 (k + 1) v wr' := by
 have e : legalUp p (k + 1) = legalUp p k := by rw [legalUp_succ hm, hn]; simp
 exact ⟨(List.getElem?_eq_some_iff.1 hm).1, by rw [e]; exact own_ext h.own hx, h.x.trans hx⟩
theorem UpAt.yes {p : Pos} {W0 wr w1 wr' : World} {k : Nat} {v v' : Value} {m : Mv} (h : UpAt p W0 k v wr) (hm : (AllL p)[k]? = some m) (hn : legalB p m = true) (hx : Ext wr w1)
 (ho : wr'.ownsRow W0.heap.size 51 3 v' (legalUp p k ++ [m]).length (mvsC (legalUp p k ++ [m]))) (hg : w1.grownBy wr' v.ownBlock) : UpAt p W0 (k + 1) v' wr' := by
 have e : legalUp p (k + 1) = legalUp p k ++ [m] := by rw [legalUp_succ hm, if_pos hn]
 exact ⟨(List.getElem?_eq_some_iff.1 hm).1, by rw [e]; exact ho, (h.x.trans hx).grown (own_ext h.own hx) hg⟩
abbrev MSh.T (p : Pos) (b g o : Nat) (m : Mv) (wr W : World) : Prop := Ext wr W ∧ blk W b = some (.cells (posCells p) 30 (0, 0)) ∧ g < wr.heap.size ∧ W.cell? ⟨g, o, none⟩ = some (.int .i64 m.fr) ∧ W.cell? ⟨g, o + 1, none⟩ = some (.int .i64 m.to_) ∧ W.cell? ⟨g, o + 2, none⟩ = some (.int .i64 m.be)
def MSh (p : Pos) (b g o : Nat) (m : Mv) (wr W : World) : Prop := MSh.T p b g o m wr W
theorem MSh.u {p b g o m wr} (W) (h : MSh p b g o m wr W) : MSh.T p b g o m wr W := h
theorem MSh.ext {p : Pos} {b g o : Nat} {m : Mv} {wr W W' : World} (h : MSh p b g o m wr W) (hx : Ext W W') : MSh p b g o m wr W' := by
 obtain ⟨h1, h2, h3, h4, h5, h6⟩ := h
 have hl := Nat.lt_of_lt_of_le h3 h1.le
 exact ⟨h1.trans hx, (hx.blk _ (blk_lt h2)).trans h2, h3, by rw [hx.cell _ _ hl]; exact h4, by rw [hx.cell _ _ hl]; exact h5, by rw [hx.cell _ _ hl]; exact h6⟩
theorem legalUp_len (p : Pos) (k : Nat) : (legalUp p k).length ≤ 300000 := by
 have h1 := List.length_filter_le (legalB p) ((AllL p).take k)
 have h2 := AllL_len p
 unfold legalUp
 rw [List.length_take] at h1; omega
theorem rMoves_any (p : Pos) (w : World) : Calls Tryz.prog 36 #[.agg (posCells p)] w (RetMvs (movesP p) w) := by
 have HP : ∀ w, Calls Tryz.prog 73 #[.agg (posCells p)] w (Ret (.bool (positionB p)) w) := fun w => rPosition_any p w
 cases hp : positionB p
 ·have HE := hid (show movesP p = [] by unfold movesP; rw [hp]; rfl)
  rw [hp] at HP
  clear hp
  go_enter Tryz.func36, Tryz.ntmps36
  go_wp2_with (first | (go_at_call 73; with_reducible refine arm (HP _) fun w1 hx hxc hxf hxb hxs => ?_; (try have := sW wr w1); (try have := sW w w1)))
  go_ret
  exact ⟨_, rfl, by rw [HE.out]; exact World.ownsRow_nil _ _ _ _, (Ext.auto)⟩
 ·have HE := hid (show movesP p = legalL p by unfold movesP; rw [hp]; rfl)
  have HPP := hid hp
  rw [hp] at HP
  clear hp
  have hLen := AllL_len p
  go_enter Tryz.func36, Tryz.ntmps36
  go_upto_region 5 with (first | (go_at_call 73; with_reducible refine arm (HP _) fun w1 hx hxc hxf hxb hxs => ?_; (try have := sW wr w1); (try have := sW w w1)) | (go_at_call 74; (with_reducible refine (rAll_any p _).mono ?_); rintro e w2 ⟨v2, rfl, hown2, hx2⟩; (have hS2 := Sl.of_own hown2); obtain ⟨a2, c2, rfl⟩ := hS2.form))
  have hEw : Ext w w2 := (Ext.auto)
  have hE1 : Ext (w.alloc (.cells (posCells p) 30)) w1 := hx
  have hbp : blk w2 w.heap.size = some (.cells (posCells p) 30 (0, 0)) := (hx2.blk _ (by have := hE1.le; simp at this; omega)).trans ((hE1.blk _ (by simp)).trans (by simp [go_sem]))
  clear hE1 hx hxc hxf hxb hxs hx2 hown2
  go_wp2
  go_loopw [3, 5] (fun v i wr => ∃ k : Nat, i = .int .i64 k ∧ UpAt p w2 k v wr) (fun _ i _ => (AllL p).length - (intOf i).toNat)
  case atStart => exact ⟨0, rfl, by omega, by exact World.ownsRow_nil _ _ _ _, Ext.refl _⟩
  case round =>
   obtain ⟨k, rfl, hk⟩ := hrel
   by_cases hlt : k < (AllL p).length
   ·obtain ⟨m, hm⟩ : ∃ m, (AllL p)[k]? = some m := ⟨_, List.getElem?_eq_getElem hlt⟩
    have hmem := List.mem_of_getElem? hm
    have hbp1 := (hk.x.blk _ (blk_lt hbp)).trans hbp
    obtain ⟨g, o, rfl, hg, hcl⟩ := (hS2.ext hk.x).pos (by omega)
    have d0 := hcl (k * 3) _ (mvsC_at hm 0 (by omega))
    have d1 := hcl (k * 3 + 1) _ (mvsC_at hm 1 (by omega))
    have d2 := hcl (k * 3 + 2) _ (mvsC_at hm 2 (by omega))
    simp only [mvE, List.getElem!_cons_zero, List.getElem!_cons_succ] at d0 d1 d2
    rw [← Nat.add_assoc] at d1 d2
    have hMS : MSh p w.heap.size g (o + k * 3) m wr wr := ⟨Ext.refl _, hbp1, hg, d0, d1, d2⟩
    have HF : ∀ w, Calls Tryz.prog 75 #[.agg (posCells p), .agg #[.int .i64 m.fr, .int .i64 m.to_, .int .i64 m.be]] w (Ret (.bool (legalB p m)) w) := fun w => rFine_any p m w HPP.out hmem
    have HK := hid hk
    have HM := hid hm
    have HS := hid hS2
    have hul := legalUp_len p k
    clear hk hm hcl d0 d1 d2 hS2 hmem
    cases hl : legalB p m
    ·rw [hl] at HF
     have HL := hid hl
     clear hl
     go_wp2
     refine wp_region_held_drew (S := MSh p w.heap.size g (o + k * 3) m wr) (by kernel_rfl) (hMS.ext (Ext.drew (Ext.refl _))) (fun hH => ?_)
     refine hTz MSh.u 0 ?_; (try go_frame)
     refine hTz MSh.u 1 ?_; (try go_frame)
     refine hTz MSh.u 2 ?_; (try go_frame)
     refine hTz MSh.u 3 ?_; (try go_frame)
     refine hTz MSh.u 4 ?_; (try go_frame)
     refine hRy [5] (hCp (fun K hK => ?_) AllReadyH.nil); go_simp
     refine (HF _).mono ?_
     rintro e w8 ⟨rfl, hx8⟩
     refine hK.out _ _ (hH.ext (by first | assumption | exact Ext.alloc (Ext.refl _) _)) (fun hH => ?_); clear hK; (try go_frame)
     refine wpAnyH_done (by kernel_rfl) ?_ _
     have hxr := hH.1
     clear hMS hH
     go_wp2
     go_roundw
     case rel => exact ⟨k + 1, by go_num, HK.out.no HM.out HL.out hxr⟩
     case measure => simp [intOf]; omega
    ·rw [hl] at HF
     have HL := hid hl
     clear hl
     go_wp2
     refine wp_region_held_drew (S := MSh p w.heap.size g (o + k * 3) m wr) (by kernel_rfl) (hMS.ext (Ext.drew (Ext.refl _))) (fun hH => ?_)
     refine hTz MSh.u 0 ?_; (try go_frame)
     refine hTz MSh.u 1 ?_; (try go_frame)
     refine hTz MSh.u 2 ?_; (try go_frame)
     refine hTz MSh.u 3 ?_; (try go_frame)
     refine hTz MSh.u 4 ?_; (try go_frame)
     refine hRy [5] (hCp (fun K hK => ?_) AllReadyH.nil); go_simp
     refine (HF _).mono ?_
     rintro e w8 ⟨rfl, hx8⟩
     refine hK.out _ _ (hH.ext (by first | assumption | exact Ext.alloc (Ext.refl _) _)) (fun hH => ?_); clear hK; (try go_frame)
     refine wpAnyH_done (by kernel_rfl) ?_ _
     have hxr := hH.1
     have hgl := Nat.lt_of_lt_of_le hH.2.2.1 hxr.le
     obtain ⟨-, -, -, y0, y1, y2⟩ := id hH
     have hbase9 : w2.heap.size ≤ (w8.alloc (.cells #[.int .i64 m.fr, .int .i64 m.to_, .int .i64 m.be] 51 (0, 0))).heap.size := by
      have h1 := HK.out.x.le; have h2 := hxr.le; simp; omega
     have hown9 := own_ext HK.out.own (Ext.alloc hxr (.cells #[.int .i64 m.fr, .int .i64 m.to_, .int .i64 m.be] 51 (0, 0)))
     have hlen9 : (legalUp p k).length ≤ 900000 := by omega
     clear hMS hH
     go_wp2_with (at_builtin; refine wpList_append_mv rfl _ _ rfl w2.heap.size _ (legalUp p k) rfl hown9 w8.heap.size m rfl (blk_alloc_at _ _ _ rfl) hlen9 hbase9 (fun v' w9 hown3 hg3 hf3 => ?_))
     go_roundw
     case rel => exact ⟨k + 1, by go_num, HK.out.yes HM.out HL.out (Ext.alloc hxr _) hown3 hg3⟩
     case measure => simp [intOf]; omega
   ·obtain rfl : k = (AllL p).length := by have := hk.le; omega
    have hO := hk.own
    have e : legalUp p (AllL p).length = legalL p := by unfold legalUp legalL; rw [List.take_length]
    rw [e] at hO
    have hx9 := hk.x
    go_wp2
    go_ret
    exact RetMvs.mk' hO (by rw [HE.out]) (by rw [HE.out]) hEw.le (hEw.trans hx9)
def isB (p : Pos) (m : Mv) : Bool := (movesP p).any fun x => decide (x = m)
theorem movesP_len (p : Pos) : (movesP p).length ≤ 300000 := by
 unfold movesP
 split
 ·exact legalL_len p
 ·simp
theorem any_take {L : List Mv} {m x : Mv} {k : Nat} (h : L[k]? = some x) : (L.take (k + 1)).any (fun y => decide (y = m)) = ((L.take k).any (fun y => decide (y = m)) || decide (x = m)) := by
 rw [List.take_add_one, h, List.any_append]; simp
theorem rIs10_any (p : Pos) (m : Mv) (w : World) : Calls Tryz.prog 76 #[.agg (posCells p), .agg #[.int .i64 m.fr, .int .i64 m.to_, .int .i64 m.be]] w (Ret (.bool (isB p m)) w) := by
 have hLen := movesP_len p
 have HE := hid (show isB p m = (movesP p).any (fun x => decide (x = m)) from rfl)
 go_enter Tryz.func76, Tryz.ntmps76
 go_upto_region 2 with (first | (go_at_call 36; (with_reducible refine (rMoves_any p _).mono ?_); rintro e w2 ⟨v2, rfl, hown2, hx2⟩; (have hS2 := Sl.of_own hown2); obtain ⟨a2, c2, rfl⟩ := hS2.form))
 have hEw : Ext w w2 := (Ext.auto)
 have hbm : blk w2 (w.heap.size + 1) = some (.cells #[.int .i64 m.fr, .int .i64 m.to_, .int .i64 m.be] 51 (0, 0)) := (hx2.blk _ (by simp)).trans (by simp [go_sem])
 clear hx2 hown2
 generalize movesP p = L at *
 go_wp2
 go_loopw [6] (fun i wr => ∃ k : Nat, i = .int .i64 k ∧ k ≤ L.length ∧ (L.take k).any (fun x => decide (x = m)) = false ∧ Ext w2 wr) (fun i _ => L.length - (intOf i).toNat)
 case atStart => exact ⟨0, rfl, by omega, rfl, Ext.refl _⟩
 case round =>
  obtain ⟨k, rfl, hk, hno, hxr⟩ := hrel
  by_cases hlt : k < L.length
  ·obtain ⟨x, hx⟩ : ∃ x, L[k]? = some x := ⟨_, List.getElem?_eq_getElem hlt⟩
   obtain ⟨g, o, rfl, hg, hcl⟩ := (hS2.ext hxr).pos (by omega)
   have d0 := hcl (k * 3) _ (mvsC_at hx 0 (by omega))
   have d1 := hcl (k * 3 + 1) _ (mvsC_at hx 1 (by omega))
   have d2 := hcl (k * 3 + 2) _ (mvsC_at hx 2 (by omega))
   simp only [mvE, List.getElem!_cons_zero, List.getElem!_cons_succ] at d0 d1 d2
   rw [← Nat.add_assoc] at d1 d2
   have hbm1 := (hxr.blk _ (blk_lt hbm)).trans hbm
   have hlb := blk_lt hbm1
   have b0 := blk_cell hbm1 0
   have b1 := blk_cell hbm1 1
   have b2 := blk_cell hbm1 2
   simp only [List.getElem?_toArray, List.getElem?_cons_zero, List.getElem?_cons_succ] at b0 b1 b2
   have HT := hid (any_take (m := m) hx)
   have HN := hid hno
   have HS := hid hS2
   have HX := hid hx
   have HXR := hid hxr
   clear hx hcl hno hS2 hxr hbm1
   by_cases he : x = m
   ·subst he
    have HY := hid (show L.any (fun y => decide (y = x)) = true by rw [List.any_eq_true]; exact ⟨x, List.mem_of_getElem? HX.out, by simp⟩)
    go_wp2
    refine wp_quiet (by kernel_rfl) (by kernel_rfl) ?_; (repeat (first | go_big_quiet_step (fail) | quiet_step (fail))); refine wpQuiet_nil ?_; intro w1 hx; obtain ⟨hxc, hxf, hxb, hxs⟩ := hx.als; (try have := sW wr w1); (try have := sW w w1)
    go_wp2
    all_goals (go_ret; exact Ret.mk' (vbool (by rw [HE.out, HY.out])) (Ext.trans (Ext.trans hEw HXR.out) hx))
   ·have HY := hid (show (L.take (k + 1)).any (fun y => decide (y = m)) = false by rw [HT.out, HN.out]; simpa using he)
    have hd : (x.fr == m.fr) = false ∨ ((x.fr == m.fr) = true ∧ (x.to_ == m.to_) = false) ∨ ((x.fr == m.fr) = true ∧ (x.to_ == m.to_) = true ∧ (x.be == m.be) = false) := by
     cases e1 : (x.fr == m.fr)
     ·exact .inl rfl
     ·cases e2 : (x.to_ == m.to_)
      ·exact .inr (.inl ⟨rfl, rfl⟩)
      ·refine .inr (.inr ⟨rfl, rfl, ?_⟩)
       rw [Bool.eq_false_iff]
       intro e3
       apply he
       obtain ⟨a, b, c⟩ := x
       obtain ⟨a', b', c'⟩ := m
       simp at e1 e2 e3 ⊢
       exact ⟨e1, e2, e3⟩
    clear he
    rcases hd with e1 | ⟨e1, e2⟩ | ⟨e1, e2, e3⟩
    all_goals
     go_wp2
     refine wp_quiet (by kernel_rfl) (by kernel_rfl) ?_; (repeat (first | go_big_quiet_step (fail) | quiet_step (fail))); refine wpQuiet_nil ?_; intro w1 hx; obtain ⟨hxc, hxf, hxb, hxs⟩ := hx.als; (try have := sW wr w1); (try have := sW w w1)
     go_wp2
     all_goals
      go_roundw
      case rel => exact ⟨k + 1, by go_num, by omega, HY.out, HXR.out.trans hx⟩
      case measure => simp [intOf]; omega
  ·obtain rfl : k = L.length := by omega
   rw [List.take_length] at hno
   have HN := hid hno
   go_wp2
   go_ret
   exact Ret.mk' (vbool (by rw [HE.out, HN.out])) (hEw.trans hxr)
def playGo : Pos → List Mv → Pos × Int
 | q, [] => (q, 0)
 | q, m :: l => if isB q m = true then playGo (movedP q m) l else (Pos.zero, 8)
def playR (p : Pos) (l : List Mv) : Pos × Int := if positionB p = true then playGo p l else (Pos.zero, 2)
theorem isB_legal {q : Pos} {m : Mv} (hq : positionB q = true) (h : isB q m = true) : m ∈ legalL q := by
 unfold isB movesP at h
 rw [if_pos hq, List.any_eq_true] at h
 obtain ⟨x, hx, e⟩ := h
 rwa [of_decide_eq_true e] at hx
theorem legal_all {q : Pos} {m : Mv} (h : m ∈ legalL q) : m ∈ AllL q := by
 unfold legalL at h
 exact (List.mem_filter.1 h).1
theorem playGo_yes {q : Pos} {m : Mv} {l : List Mv} {k : Nat} (h : l[k]? = some m) (hi : isB q m = true) : playGo q (l.drop k) = playGo (movedP q m) (l.drop (k + 1)) := by
 rw [List.drop_eq_getElem_cons (List.getElem?_eq_some_iff.1 h).1, (List.getElem?_eq_some_iff.1 h).2]
 rw [playGo, if_pos hi]
theorem playGo_no {q : Pos} {m : Mv} {l : List Mv} {k : Nat} (h : l[k]? = some m) (hi : isB q m = false) : playGo q (l.drop k) = (Pos.zero, 8) := by
 rw [List.drop_eq_getElem_cons (List.getElem?_eq_some_iff.1 h).1, (List.getElem?_eq_some_iff.1 h).2]
 rw [playGo, if_neg (by simp [hi])]
theorem rPlay_any (p : Pos) (L : List Mv) (v : Value) (w : World) (hS : Sl w 3 v L.length (mvsC L)) (hn : L.length ≤ 300000) :
 Calls Tryz.prog 60 #[.agg (posCells p), v] w (Ret (.tuple #[.agg (posCells (playR p L).1), .int .i64 (playR p L).2]) w) := by
 obtain ⟨a, c, rfl⟩ := hS.form
 have HP : ∀ w, Calls Tryz.prog 73 #[.agg (posCells p)] w (Ret (.bool (positionB p)) w) := fun w => rPosition_any p w
 cases hp : positionB p
 ·have HE := hid (show playR p L = (Pos.zero, 2) by unfold playR; rw [hp]; rfl)
  rw [hp] at HP
  clear hp
  go_enter Tryz.func60, Tryz.ntmps60
  go_wp2_with (go_at_call 73; (with_reducible refine (HP _).mono ?_); rintro e w1 ⟨rfl, hx⟩; have hz1 := (hx.blk (w.heap.size + 1) (by simp)).trans (show blk _ (w.heap.size + 1) = some (.cells (posCells Pos.zero) 30 (0, 0)) from by simp [go_sem]))
  exact bodyPost_ret (v := .tuple #[.agg (posCells Pos.zero), .int .i64 2]) (results_cell2 rfl rfl rfl (load_pos (setRow_blk hz1))) rfl ⟨by rw [HE.out], Ext.setRow (Ext.trans (Ext.auto) hx) (by omega) _⟩
 ·have HE := hid (show playR p L = playGo p L by unfold playR; rw [hp]; rfl)
  rw [hp] at HP
  go_enter Tryz.func60, Tryz.ntmps60
  go_upto_region 3 with (go_at_call 73; (with_reducible refine (HP _).mono ?_); rintro e w1 ⟨rfl, hx⟩; have hz1 := (hx.blk (w.heap.size + 1) (by simp)).trans (show blk _ (w.heap.size + 1) = some (.cells (posCells Pos.zero) 30 (0, 0)) from by simp [go_sem]); have hp1 := (hx.blk w.heap.size (by simp; omega)).trans (show blk _ w.heap.size = some (.cells (posCells p) 30 (0, 0)) from by simp [go_sem]))
  have hEw : Ext w w1 := Ext.trans (Ext.auto) hx
  clear hx
  have HPP := hid hp
  clear hp
  go_wp2
  go_loopw [6] (fun i wr => ∃ (k : Nat) (q : Pos), i = .int .i64 k ∧ k ≤ L.length ∧ positionB q = true ∧ playGo q (L.drop k) = playGo p L ∧ blk wr w.heap.size = some (.cells (posCells q) 30 (0, 0)) ∧ blk wr (w.heap.size + 1) = some (.cells (posCells Pos.zero) 30 (0, 0)) ∧ Ext w wr) (fun i _ => L.length - (intOf i).toNat)
  case atStart => exact ⟨0, p, rfl, by omega, HPP.out, by rw [List.drop_zero], hp1, hz1, hEw⟩
  case round =>
   obtain ⟨k, q, rfl, hk, hq, hgo, hb0, hb1, hxr⟩ := hrel
   clear hp1 hz1
   by_cases hlt : k < L.length
   ·obtain ⟨m, hm⟩ : ∃ m, L[k]? = some m := ⟨_, List.getElem?_eq_getElem hlt⟩
    obtain ⟨g, o, rfl, hg, hcl⟩ := hS.pos (by omega)
    have d0 := hcl (k * 3) _ (mvsC_at hm 0 (by omega))
    have d1 := hcl (k * 3 + 1) _ (mvsC_at hm 1 (by omega))
    have d2 := hcl (k * 3 + 2) _ (mvsC_at hm 2 (by omega))
    simp only [mvE, List.getElem!_cons_zero, List.getElem!_cons_succ] at d0 d1 d2
    rw [← Nat.add_assoc] at d1 d2
    have hgr : g < wr.heap.size := Nat.lt_of_lt_of_le hg hxr.le
    rw [← hxr.cell _ _ hg] at d0 d1 d2
    have hMS : MSh q w.heap.size g (o + k * 3) m wr wr := ⟨Ext.refl _, hb0, hgr, d0, d1, d2⟩
    have HI : ∀ w, Calls Tryz.prog 76 #[.agg (posCells q), .agg #[.int .i64 m.fr, .int .i64 m.to_, .int .i64 m.be]] w (Ret (.bool (isB q m)) w) := fun w => rIs10_any q m w
    have HGO := hid hgo
    have HMM := hid hm
    have HXR := hid hxr
    have HS := hid hS
    have lb1 := blk_lt hb1
    clear hgo hcl d0 d1 d2 hm hS
    cases hi : isB q m
    ·have HN := hid ((playGo_no HMM.out hi).symm.trans HGO.out)
     rw [hi] at HI
     clear hi
     go_wp2
     refine wp_region_held_drew (S := MSh q w.heap.size g (o + k * 3) m wr) (by kernel_rfl) (hMS.ext (Ext.drew (Ext.refl _))) (fun hH => ?_)
     refine hTz MSh.u 0 ?_; (try go_frame)
     refine hTz MSh.u 1 ?_; (try go_frame)
     refine hTz MSh.u 2 ?_; (try go_frame)
     refine hTz MSh.u 3 ?_; (try go_frame)
     refine hTz MSh.u 4 ?_; (try go_frame)
     refine hRy [5] (hCp (fun K hK => ?_) AllReadyH.nil); go_simp
     refine (HI _).mono ?_
     rintro e w8 ⟨rfl, hx8⟩
     refine hK.out _ _ (hH.ext (by first | assumption | exact Ext.alloc (Ext.refl _) _)) (fun hH => ?_); clear hK; (try go_frame)
     refine hTz MSh.u 6 ?_; (try go_frame)
     refine wpAnyH_done (by kernel_rfl) ?_ _
     have hx9 := hH.1
     have hz9 := (hx9.blk _ lb1).trans hb1
     clear hMS hH
     go_wp2
     exact bodyPost_ret (v := .tuple #[.agg (posCells Pos.zero), .int .i64 8]) (results_cell2 rfl rfl rfl (load_pos (setRow_blk hz9))) rfl ⟨by rw [HE.out, ← HN.out], Ext.setRow (HXR.out.trans hx9) (by omega) _⟩
    ·have HN := hid ((playGo_yes HMM.out hi).symm.trans HGO.out)
     have hleg := isB_legal hq hi
     have hall := legal_all hleg
     have H := parts_iff.1 hq
     obtain ⟨c0, c1, -, -, -, -⟩ := castle_iff.1 H.castles
     have hq2 := legal_keeps hq hleg
     have HV : ∀ w, Calls Tryz.prog 77 #[.agg (posCells q), .agg #[.int .i64 m.fr, .int .i64 m.to_, .int .i64 m.be]] w (Ret (.tuple #[.agg (posCells (movedP q m)), .int .i64 0]) w) := fun w => rMove_any q m w (AllL_taken hall) c0 c1
     have HQ2 := hid hq2
     rw [hi] at HI
     clear hi hleg hall H c0 c1 hq2 hq
     generalize movedP q m = q2 at *
     go_wp2
     refine wp_region_held_drew (S := MSh q w.heap.size g (o + k * 3) m wr) (by kernel_rfl) (hMS.ext (Ext.drew (Ext.refl _))) (fun hH => ?_)
     refine hTz MSh.u 0 ?_; (try go_frame)
     refine hTz MSh.u 1 ?_; (try go_frame)
     refine hTz MSh.u 2 ?_; (try go_frame)
     refine hTz MSh.u 3 ?_; (try go_frame)
     refine hTz MSh.u 4 ?_; (try go_frame)
     refine hRy [5] (hCp (fun K hK => ?_) AllReadyH.nil); go_simp
     refine (HI _).mono ?_
     rintro e w8 ⟨rfl, hx8⟩
     refine hK.out _ _ (hH.ext (by first | assumption | exact Ext.alloc (Ext.refl _) _)) (fun hH => ?_); clear hK; (try go_frame)
     refine hTz MSh.u 6 ?_; (try go_frame)
     refine wpAnyH_done (by kernel_rfl) ?_ _
     obtain ⟨hx9, hbq, -, e0, e1, e2⟩ := id hH
     have hz9 := (hx9.blk _ lb1).trans hb1
     clear hH hMS hb0 hb1
     have HX9 := hid hx9
     go_upto_region 8 with (fail)
     refine wp_region_any (by kernel_rfl) ?_
     refine aTk 1 ?_; (try go_frame)
     refine aTk 2 ?_; (try go_frame)
     refine aTk 3 ?_; (try go_frame)
     refine aRy [0, 4] (aCo (fun K hK => ?_) (aCo (fun K hK => ?_) AllReady.nil))
     ·have HK := hid hK
      clear hK
      go_simp
      refine HK.out _ _ ?_; clear HK; (try go_frame)
      refine aRy [4] (aCo (fun K hK => ?_) AllReady.nil)
      have HK := hid hK
      clear hK
      go_simp
      refine HK.out _ _ ?_; clear HK; (try go_frame)
      refine aRy [5] (aCo (fun K hK => ?_) AllReady.nil)
      have HK := hid hK
      clear hK
      go_simp
      refine (HV _).mono ?_
      rintro e w9 ⟨rfl, hx10⟩
      have hbq9 : blk w9 w.heap.size = some (.cells (posCells q) 30 (0, 0)) := (hx10.blk _ (blk_lt hbq)).trans hbq
      have hz10 : blk w9 (w.heap.size + 1) = some (.cells (posCells Pos.zero) 30 (0, 0)) := (hx10.blk _ (blk_lt hz9)).trans hz9
      have hxr9 : Ext w w9 := HXR.out.trans (HX9.out.trans (Ext.trans (Ext.drew (Ext.refl _)) hx10))
      refine HK.out _ _ ?_; clear HK; (try go_frame)
      refine aTk 6 ?_; (try go_frame)
      refine aTk 7 ?_; (try go_frame)
      refine aTk 8 ?_; (try go_frame)
      refine aRy [9] (aCo (fun K hK => ?_) AllReady.nil)
      have HK := hid hK
      clear hK
      go_simp
      refine HK.out _ _ ?_; clear HK; (try go_frame)
      refine wpAny_done (by kernel_rfl) ?_ _
      go_wp2
      go_roundw
      case rel => exact ⟨k + 1, q2, by go_num, by omega, HQ2.out, HN.out, setRow_blk hbq9, (setRow_blk_past (by omega)).trans hz10, Ext.setRow hxr9 (Nat.le_refl _) _⟩
      case measure => simp [intOf]; omega
     ·have HK := hid hK
      clear hK
      go_simp
      refine HK.out _ _ ?_; clear HK; (try go_frame)
      refine aRy [0] (aCo (fun K hK => ?_) AllReady.nil)
      have HK := hid hK
      clear hK
      go_simp
      refine HK.out _ _ ?_; clear HK; (try go_frame)
      refine aRy [5] (aCo (fun K hK => ?_) AllReady.nil)
      have HK := hid hK
      clear hK
      go_simp
      refine (HV _).mono ?_
      rintro e w9 ⟨rfl, hx10⟩
      have hbq9 : blk w9 w.heap.size = some (.cells (posCells q) 30 (0, 0)) := (hx10.blk _ (blk_lt hbq)).trans hbq
      have hz10 : blk w9 (w.heap.size + 1) = some (.cells (posCells Pos.zero) 30 (0, 0)) := (hx10.blk _ (blk_lt hz9)).trans hz9
      have hxr9 : Ext w w9 := HXR.out.trans (HX9.out.trans (Ext.trans (Ext.drew (Ext.refl _)) hx10))
      refine HK.out _ _ ?_; clear HK; (try go_frame)
      refine aTk 6 ?_; (try go_frame)
      refine aTk 7 ?_; (try go_frame)
      refine aTk 8 ?_; (try go_frame)
      refine aRy [9] (aCo (fun K hK => ?_) AllReady.nil)
      have HK := hid hK
      clear hK
      go_simp
      refine HK.out _ _ ?_; clear HK; (try go_frame)
      refine wpAny_done (by kernel_rfl) ?_ _
      go_wp2
      go_roundw
      case rel => exact ⟨k + 1, q2, by go_num, by omega, HQ2.out, HN.out, setRow_blk hbq9, (setRow_blk_past (by omega)).trans hz10, Ext.setRow hxr9 (Nat.le_refl _) _⟩
      case measure => simp [intOf]; omega
   ·obtain rfl : k = L.length := by omega
    rw [List.drop_length, playGo] at hgo
    have HGO := hid hgo
    clear hgo
    go_wp2
    exact bodyPost_ret (v := .tuple #[.agg (posCells q), .int .i64 0]) (results_cell2 rfl rfl rfl (load_pos (setRow_blk hb1))) rfl ⟨by rw [HE.out, ← HGO.out], Ext.setRow hxr (by omega) _⟩
theorem any_takeB {L : List Mv} {f : Mv → Bool} {x : Mv} {k : Nat} (h : L[k]? = some x) : (L.take (k + 1)).any f = ((L.take k).any f || f x) := by
 rw [List.take_add_one, h, List.any_append]; simp
theorem over_bd {p : Pos} : ∀ x ∈ movesP p, 0 ≤ x.fr ∧ x.fr < 64 ∧ 0 ≤ x.to_ ∧ x.to_ < 64 := by
 intro x hx
 unfold movesP at hx
 split at hx
 ·unfold legalL at hx
  obtain ⟨f0, f1, t0, t1, -, -⟩ := AllL_goes (List.mem_filter.1 hx).1
  exact ⟨f0, f1, t0, t1⟩
 ·cases hx
theorem Over_any (p : Pos) (w : World) : Calls Tryz.prog 14 #[.agg (posCells p)] w (Ret (.int .i64 (overA p)) w) := by
 by_cases ho : p.over = -1
 ·have HE := hid (show overA p = -1 by unfold overA; rw [if_pos ho])
  have ho1 : (p.over == -1) = true := by simpa using ho
  clear ho
  go_enter Tryz.func14, Tryz.ntmps14
  go_wp2
  go_ret
  rw [HE.out]
  exact ⟨rfl, (Ext.auto)⟩
 ·have HE := hid (show overA p = if (movesP p).any (overM p) = true then p.over else -1 by unfold overA; rw [if_neg ho])
  have hLen := movesP_len p
  have ho1 : (p.over == -1) = false := by simpa using ho
  clear ho
  go_enter Tryz.func14, Tryz.ntmps14
  go_upto_block 0 with (first | (go_at_call 29; (with_reducible refine (Moves_any p _).mono ?_); rintro e w2 ⟨v2, rfl, hown2, hx2⟩; (have hS2 := Sl.of_own hown2); obtain ⟨a2, c2, rfl⟩ := hS2.form))
  have hEw : Ext w w2 := (Ext.auto)
  have hbp : blk w2 w.heap.size = some (.cells (posCells p) 30 (0, 0)) := (hx2.blk _ (by simp)).trans (by simp [go_sem])
  clear hx2 hown2
  generalize movesP p = L at *
  go_wp2
  go_loopw [12] (fun i wr => ∃ k : Nat, i = .int .i64 k ∧ k ≤ L.length ∧ (L.take k).any (overM p) = false ∧ Ext w2 wr) (fun i _ => L.length - (intOf i).toNat)
  case atStart => exact ⟨0, rfl, by omega, rfl, Ext.refl _⟩
  case round =>
   obtain ⟨k, rfl, hk, hno, hxr⟩ := hrel
   by_cases hlt : k < L.length
   ·obtain ⟨x, hx⟩ : ∃ x, L[k]? = some x := ⟨_, List.getElem?_eq_getElem hlt⟩
    obtain ⟨g, o, rfl, hg, hcl⟩ := (hS2.ext hxr).pos (by omega)
    have d0 := hcl (k * 3) _ (mvsC_at hx 0 (by omega))
    have d1 := hcl (k * 3 + 1) _ (mvsC_at hx 1 (by omega))
    have d2 := hcl (k * 3 + 2) _ (mvsC_at hx 2 (by omega))
    simp only [mvE, List.getElem!_cons_zero, List.getElem!_cons_succ] at d0 d1 d2
    rw [← Nat.add_assoc] at d1 d2
    have hbp1 := (hxr.blk _ (blk_lt hbp)).trans hbp
    have hlb := blk_lt hbp1
    have b0 := blk_cell hbp1 130
    have HT : ∀ w, Calls Tryz.prog 61 #[.agg (posCells p), .agg #[.int .i64 x.fr, .int .i64 x.to_, .int .i64 x.be]] w (Ret (.int .i64 (takes2 p x)) w) := fun w => Takes_any p x w
    have HAT := hid (any_takeB (f := overM p) hx)
    have HN := hid hno
    have HS := hid hS2
    have HX := hid hx
    have HXR := hid hxr
    have HOM := hid (show overM p x = (x.to_ == p.over && takes2 p x != -1 && takes2 p x != x.to_) from rfl)
    clear hx hcl hno hS2 hxr
    generalize takes2 p x = T at *
    cases e1 : (x.to_ == p.over)
    ·have HY := hid (show (L.take (k + 1)).any (overM p) = false by rw [HAT.out, HN.out, HOM.out, e1]; rfl)
     go_wp2_with (first | (go_at_call 61; with_reducible refine arm (HT _) fun w1 hx hxc hxf hxb hxs => ?_; (try have := sW wr w1); (try have := sW w w1)))
     all_goals
      go_roundw
      case rel => exact ⟨k + 1, by go_num, by omega, HY.out, HXR.out.trans (Ext.auto)⟩
      case measure => simp [intOf]; omega
    ·cases e2 : (T != -1)
     ·have HY := hid (show (L.take (k + 1)).any (overM p) = false by rw [HAT.out, HN.out, HOM.out, e1, e2]; rfl)
      go_wp2_with (first | (go_at_call 61; with_reducible refine arm (HT _) fun w1 hx hxc hxf hxb hxs => ?_; (try have := sW wr w1); (try have := sW w w1)))
      all_goals
       go_roundw
       case rel => exact ⟨k + 1, by go_num, by omega, HY.out, HXR.out.trans (Ext.auto)⟩
       case measure => simp [intOf]; omega
     ·cases e3 : (T != x.to_)
      ·have HY := hid (show (L.take (k + 1)).any (overM p) = false by rw [HAT.out, HN.out, HOM.out, e1, e2, e3]; rfl)
       go_wp2_with (first | (go_at_call 61; with_reducible refine arm (HT _) fun w1 hx hxc hxf hxb hxs => ?_; (try have := sW wr w1); (try have := sW w w1)))
       all_goals
        go_roundw
        case rel => exact ⟨k + 1, by go_num, by omega, HY.out, HXR.out.trans (Ext.auto)⟩
        case measure => simp [intOf]; omega
      ·have HY := hid (show L.any (overM p) = true by rw [List.any_eq_true]; exact ⟨x, List.mem_of_getElem? HX.out, by rw [HOM.out, e1, e2, e3]; rfl⟩)
       go_wp2_with (first | (go_at_call 61; with_reducible refine arm (HT _) fun w1 hx hxc hxf hxb hxs => ?_; (try have := sW wr w1); (try have := sW w w1)))
       go_ret
       exact Ret.mk' (by rw [HE.out, HY.out]; rfl) (Ext.trans hEw (HXR.out.trans (Ext.auto)))
   ·obtain rfl : k = L.length := by omega
    rw [List.take_length] at hno
    have HN := hid hno
    go_wp2
    go_ret
    exact Ret.mk' (by rw [HE.out, HN.out]; rfl) (hEw.trans hxr)
theorem rOver12_any (p : Pos) (w : World) : Calls Tryz.prog 15 #[.agg (posCells p)] w (Ret (.int .i64 (overA p)) w) := by
 rw [← overA_eq]
 by_cases ho : p.over = -1
 ·have HE := hid (show rOverA p = -1 by unfold rOverA; rw [if_pos ho])
  have ho1 : (p.over == -1) = true := by simpa using ho
  clear ho
  go_enter Tryz.func15, Tryz.ntmps15
  go_wp2
  go_ret
  rw [HE.out]
  exact ⟨rfl, (Ext.auto)⟩
 ·have HE := hid (show rOverA p = if (movesP p).any (rOverM p) = true then p.over else -1 by unfold rOverA; rw [if_neg ho])
  have hLen := movesP_len p
  have hBD := over_bd (p := p)
  have ho1 : (p.over == -1) = false := by simpa using ho
  clear ho
  go_enter Tryz.func15, Tryz.ntmps15
  go_upto_block 0 with (first | (go_at_call 36; (with_reducible refine (rMoves_any p _).mono ?_); rintro e w2 ⟨v2, rfl, hown2, hx2⟩; (have hS2 := Sl.of_own hown2); obtain ⟨a2, c2, rfl⟩ := hS2.form))
  have hEw : Ext w w2 := (Ext.auto)
  have hbp : blk w2 w.heap.size = some (.cells (posCells p) 30 (0, 0)) := (hx2.blk _ (by simp)).trans (by simp [go_sem])
  clear hx2 hown2
  generalize movesP p = L at *
  go_wp2
  go_loopw [4] (fun i wr => ∃ k : Nat, i = .int .i64 k ∧ k ≤ L.length ∧ (L.take k).any (rOverM p) = false ∧ Ext w2 wr) (fun i _ => L.length - (intOf i).toNat)
  case atStart => exact ⟨0, rfl, by omega, rfl, Ext.refl _⟩
  case round =>
   obtain ⟨k, rfl, hk, hno, hxr⟩ := hrel
   by_cases hlt : k < L.length
   ·obtain ⟨x, hx⟩ : ∃ x, L[k]? = some x := ⟨_, List.getElem?_eq_getElem hlt⟩
    obtain ⟨f0, f1, t0, t1⟩ := hBD x (List.mem_of_getElem? hx)
    obtain ⟨g, o, rfl, hg, hcl⟩ := (hS2.ext hxr).pos (by omega)
    have d0 := hcl (k * 3) _ (mvsC_at hx 0 (by omega))
    have d1 := hcl (k * 3 + 1) _ (mvsC_at hx 1 (by omega))
    have d2 := hcl (k * 3 + 2) _ (mvsC_at hx 2 (by omega))
    simp only [mvE, List.getElem!_cons_zero, List.getElem!_cons_succ] at d0 d1 d2
    rw [← Nat.add_assoc] at d1 d2
    have hbp1 := (hxr.blk _ (blk_lt hbp)).trans hbp
    have hlb := blk_lt hbp1
    have b0 := blk_cell hbp1
    have m1 : x.fr.tmod 8 = x.fr % 8 := Int.tmod_eq_emod_of_nonneg f0
    have m2 : x.to_.tmod 8 = x.to_ % 8 := Int.tmod_eq_emod_of_nonneg t0
    have f2 : x.fr.toNat < 64 := by omega
    have t2 : x.to_.toNat < 64 := by omega
    have HAT := hid (any_takeB (f := rOverM p) hx)
    have HN := hid hno
    have HS := hid hS2
    have HX := hid hx
    have HXR := hid hxr
    have HOM := hid (show rOverM p x = (x.to_ == p.over && p.kind x.fr.toNat == 1 && x.fr % 8 != x.to_ % 8 && (p.kind x.to_.toNat == 0 && p.side x.to_.toNat == 0)) by unfold rOverM bareB; simp)
    clear hx hcl hno hS2 hxr hBD
    cases e1 : (x.to_ == p.over)
    ·have HY := hid (show (L.take (k + 1)).any (rOverM p) = false by rw [HAT.out, HN.out, HOM.out, e1]; rfl)
     go_wp2
     all_goals
      go_roundw
      case rel => exact ⟨k + 1, by go_num, by omega, HY.out, HXR.out.trans (Ext.auto)⟩
      case measure => simp [intOf]; omega
    ·cases e2 : (p.kind x.fr.toNat == 1)
     ·have HY := hid (show (L.take (k + 1)).any (rOverM p) = false by rw [HAT.out, HN.out, HOM.out, e1, e2]; rfl)
      go_wp2
      all_goals
       go_roundw
       case rel => exact ⟨k + 1, by go_num, by omega, HY.out, HXR.out.trans (Ext.auto)⟩
       case measure => simp [intOf]; omega
     ·cases e3 : (x.fr % 8 != x.to_ % 8)
      ·have HY := hid (show (L.take (k + 1)).any (rOverM p) = false by rw [HAT.out, HN.out, HOM.out, e1, e2, e3]; rfl)
       go_wp2
       all_goals
        go_roundw
        case rel => exact ⟨k + 1, by go_num, by omega, HY.out, HXR.out.trans (Ext.auto)⟩
        case measure => simp [intOf]; omega
      ·cases e4 : (p.kind x.to_.toNat == 0 && p.side x.to_.toNat == 0)
       ·have HY := hid (show (L.take (k + 1)).any (rOverM p) = false by rw [HAT.out, HN.out, HOM.out, e1, e2, e3, e4]; rfl)
        go_wp2
        all_goals
         go_roundw
         case rel => exact ⟨k + 1, by go_num, by omega, HY.out, HXR.out.trans (Ext.auto)⟩
         case measure => simp [intOf]; omega
       ·have HY := hid (show L.any (rOverM p) = true by rw [List.any_eq_true]; exact ⟨x, List.mem_of_getElem? HX.out, by rw [HOM.out, e1, e2, e3, e4]; rfl⟩)
        go_wp2
        go_ret
        exact Ret.mk' (by rw [HE.out, HY.out]; rfl) (Ext.trans hEw (HXR.out.trans (Ext.auto)))
   ·obtain rfl : k = L.length := by omega
    rw [List.take_length] at hno
    have HN := hid hno
    go_wp2
    go_ret
    exact Ret.mk' (by rw [HE.out, HN.out]; rfl) (hEw.trans hxr)
def inI (n : Int) : Prop := -9223372036854775808 ≤ n ∧ n ≤ 9223372036854775807
structure Rng (p : Pos) : Prop where
 kind : ∀ i, i < 64 → inI (p.kind i)
 side : ∀ i, i < 64 → inI (p.side i)
 turn : inI p.turn
 castle : inI p.castle
 over : inI p.over
def sqL (p : Pos) (k : Nat) : List Int := (List.range k).flatMap fun i => [p.kind i, p.side i]
def keyL (p : Pos) : List Int := sqL p 64 ++ [p.turn, p.castle, overA p]
def keyT (p : Pos) : List UInt8 := numsT (keyL p)
theorem sqL_snoc (p : Pos) (k : Nat) : sqL p (k + 1) = sqL p k ++ [p.kind k, p.side k] := by
 unfold sqL; rw [List.range_succ, List.flatMap_append]; simp
theorem sqL_len (p : Pos) (k : Nat) : (sqL p k).length = 2 * k := by
 induction k with
 | zero => rfl
 | succ k ih => rw [sqL_snoc, List.length_append, ih]; simp; omega
theorem sqL_in {p : Pos} (h : Rng p) : ∀ k, k ≤ 64 → ∀ n ∈ sqL p k, inI n := by
 intro k hk n hn
 simp only [sqL, List.mem_flatMap, List.mem_range, List.mem_cons, List.not_mem_nil, or_false] at hn
 obtain ⟨i, hi, rfl | rfl⟩ := hn
 ·exact h.kind i (by omega)
 ·exact h.side i (by omega)
theorem over_in {p : Pos} (h : Rng p) : inI (overA p) := by
 unfold overA
 split
 ·exact ⟨by decide, by decide⟩
 ·split
  ·exact h.over
  ·exact ⟨by decide, by decide⟩
theorem numsT_app (a b : List Int) : numsT (a ++ b) = numsT a ++ numsT b := by simp [numsT]
theorem sq_len {p : Pos} (h : Rng p) {k : Nat} (hk : k ≤ 64) : (numsT (sqL p k)).length ≤ 44 * k := by
 have := numsT_len (l := sqL p k) (fun n hn => sqL_in h k hk n hn)
 rw [sqL_len] at this; omega
theorem keyT_ne (p : Pos) : keyT p ≠ [] := by
 unfold keyT keyL; rw [numsT_app]; simp [numsT]
theorem keyT_len {p : Pos} (h : Rng p) : (keyT p).length ≤ 10000 := by
 have h1 := sq_len h (Nat.le_refl 64)
 have h2 := numsT_len (l := [p.turn, p.castle, overA p]) (fun n hn => by
  simp only [List.mem_cons, List.not_mem_nil, or_false] at hn
  rcases hn with rfl | rfl | rfl
  ·exact h.turn
  ·exact h.castle
  ·exact over_in h)
 unfold keyT keyL; rw [numsT_app, List.length_append]; simp at h2; omega
abbrev MSk.T (p : Pos) (b : Nat) (wr W : World) : Prop := Ext wr W ∧ blk W b = some (.cells (posCells p) 30 (0, 0)) ∧ W.cell? ⟨b, 128, none⟩ = some (.int .i64 p.turn) ∧ W.cell? ⟨b, 129, none⟩ = some (.int .i64 p.castle)
def MSk (p : Pos) (b : Nat) (wr W : World) : Prop := MSk.T p b wr W
theorem MSk.u {p b wr} (W) (h : MSk p b wr W) : MSk.T p b wr W := h
theorem MSk.mk' {p : Pos} {b : Nat} {wr W : World} (h : Ext wr W) (h1 : blk W b = some (.cells (posCells p) 30 (0, 0))) : MSk p b wr W :=
 ⟨h, h1, by rw [blk_cell h1]; simp [go_sem], by rw [blk_cell h1]; simp [go_sem]⟩
theorem MSk.ext {p : Pos} {b : Nat} {wr W W' : World} (h : MSk p b wr W) (hx : Ext W W') : MSk p b wr W' := MSk.mk' (h.1.trans hx) ((hx.blk _ (blk_lt h.2.1)).trans h.2.1)
theorem Key_any (p : Pos) (w : World) (hr : Rng p) (ht : Tab10 w.heap.size w) : Calls Tryz.prog 18 #[.agg (posCells p)] w (Ret (.string ⟨(keyT p).toArray⟩) w) := by
 go_enter Tryz.func18, Tryz.ntmps18
 go_upto_block 0 with (fail)
 have hE1 : Ext w ((w.alloc (.cells (posCells p) 30)).alloc (.cells #[.pointer none, .slice none 0 0] 108)) := (Ext.auto)
 have hp1 : blk ((w.alloc (.cells (posCells p) 30)).alloc (.cells #[.pointer none, .slice none 0 0] 108)) w.heap.size = some (.cells (posCells p) 30 (0, 0)) := (by simp [go_sem])
 have hb1 : blk ((w.alloc (.cells (posCells p) 30)).alloc (.cells #[.pointer none, .slice none 0 0] 108)) (w.heap.size + 1) = some (.cells #[.pointer none, .slice none 0 0] 108 (0, 0)) := (by simp [go_sem])
 generalize hw1 : (w.alloc (.cells (posCells p) 30)).alloc (.cells #[.pointer none, .slice none 0 0] 108) = w1 at *
 have hB1 : Bld 108 w.heap.size (w.heap.size + 1) (.pointer none) (Lib.byteCells []) w1 := ⟨by omega, _, hb1, World.ownsRow_nil _ _ _ _, by simp [Value.ownBlock]⟩
 have ht1 : Tab10 w.heap.size w1 := ht.on hE1
 have hs1 : w.heap.size + 1 < w1.heap.size := blk_lt hb1
 clear hw1
 go_wp2
 go_loopw [8] (fun i wr => ∃ (k : Nat) (p' : Value), i = .int .i64 k ∧ k ≤ 64 ∧ BldI (w.heap.size + 1) p' ∧ Bld 108 w.heap.size (w.heap.size + 1) p' (Lib.byteCells (numsT (sqL p k))) wr ∧ Wr w.heap.size (w.heap.size + 1) w1 wr) (fun i _ => 64 - (intOf i).toNat)
 case atStart => exact ⟨0, _, rfl, by omega, Or.inl rfl, hB1, Wr.refl _ _ _⟩
 case round =>
  obtain ⟨k, p', rfl, hk, hpI, hbl, hwr⟩ := hrel
  have hsz := hwr.size
  have hpr : blk wr w.heap.size = some (.cells (posCells p) 30 (0, 0)) := (hwr.keep _ (by omega) (by omega) (.inr (fun cs fr e => by rw [hp1] at e; injection e with e; injection e with _ e; exact absurd e (by decide)))).trans hp1
  have htr : Tab10 w.heap.size wr := ht1.on (hwr.low (by omega) (by omega))
  have hlr := blk_lt hpr
  by_cases hlt : k < 64
  ·have hnn : ∀ n ∈ [p.kind k, p.side k], inI n := by
    intro n hn
    simp only [List.mem_cons, List.not_mem_nil, or_false] at hn
    rcases hn with rfl | rfl
    ·exact hr.kind k hlt
    ·exact hr.side k hlt
   have hl9 : (numsT (sqL p k)).length + 22 * [p.kind k, p.side k].length ≤ 1000000 := by have := sq_len hr hk; simp; omega
   have HW := hid hwr
   clear hp1 hb1 hB1 ht1 ht
   have hxA : Ext wr ((wr.alloc (.cells #[.int .i64 (p.kind k), .int .i64 (p.side k)] 26)).alloc (.cells #[.int .i64 (p.kind k), .int .i64 (p.side k)] 3)) := (Ext.auto)
   have hgA : blk ((wr.alloc (.cells #[.int .i64 (p.kind k), .int .i64 (p.side k)] 26)).alloc (.cells #[.int .i64 (p.kind k), .int .i64 (p.side k)] 3)) (wr.heap.size + 1) = some (.cells (ints [p.kind k, p.side k]).toArray 3 (0, 0)) := (by simp [go_sem, ints])
   have HC := numbers_any w.heap.size (w.heap.size + 1) (wr.heap.size + 1) 2 p' (numsT (sqL p k)) [p.kind k, p.side k] _ hpI (hbl.ext hxA) hgA (by omega) hnn hl9 (by simp; omega) (htr.on (Below.mono hxA (by omega)))
   simp only [List.length_cons, List.length_nil, Nat.zero_add, Nat.reduceAdd] at HC
   clear hgA
   go_wp2_with (go_at_call 62; (with_reducible refine HC.mono ?_); rintro e w5 ⟨rfl, p5, hp5, hb5, hw5⟩)
   have HB5 := hid hb5
   go_roundw
   case rel => exact ⟨k + 1, p5, by go_num, by omega, hp5, by rw [sqL_snoc, numsT_app]; exact HB5.out, HW.out.trans ((Wr.ext hxA).trans hw5)⟩
   case measure => simp [intOf]; omega
  ·obtain rfl : k = 64 := by omega
   clear hp1 hb1 hB1 ht1 ht
   have HO : ∀ w, Calls Tryz.prog 14 #[.agg (posCells p)] w (Ret (.int .i64 (overA p)) w) := fun w => Over_any p w
   go_upto_region 7 with (fail)
   have hM0 : MSk p w.heap.size wr wr.drew := MSk.mk' (Ext.drew (Ext.refl _)) hpr
   refine wp_region_split 6 (MSk p w.heap.size wr) (by kernel_rfl) (by kernel_rfl) (hM0) (fun hH => ?_)
   simp only [List.take_succ_cons, List.take_zero, List.drop_succ_cons, List.drop_zero]
   refine hTz MSk.u 0 ?_; (try go_frame)
   refine hTz MSk.u 1 ?_; (try go_frame)
   refine hTz MSk.u 2 ?_; (try go_frame)
   refine hTz MSk.u 3 ?_; (try go_frame)
   refine hTz MSk.u 4 ?_; (try go_frame)
   refine hRy [5] (hCp (fun K hK => ?_) AllReadyH.nil); go_simp
   refine (HO _).mono ?_
   rintro e w8 ⟨rfl, hx8⟩
   refine hK.out _ _ (hH.ext (by first | assumption | exact Ext.alloc (Ext.refl _) _)) (fun hH => ?_); clear hK; (try go_frame)
   refine wpAnyH_done (by kernel_rfl) ?_ _
   simp only [splitQ]
   have hx9 := hH.1
   clear hH hM0
   have hn3 : ∀ n ∈ [p.turn, p.castle, overA p], inI n := by
    intro n hn
    simp only [List.mem_cons, List.not_mem_nil, or_false] at hn
    rcases hn with rfl | rfl | rfl
    ·exact hr.turn
    ·exact hr.castle
    ·exact over_in hr
   have hl3 : (numsT (sqL p 64)).length + 22 * [p.turn, p.castle, overA p].length ≤ 1000000 := by have := sq_len hr (Nat.le_refl 64); simp; omega
   have hs8 := hx9.le
   have hkl := keyT_len hr
   have hkn := keyT_ne p
   have hkt : numsT (sqL p 64) ++ numsT [p.turn, p.castle, overA p] = keyT p := by unfold keyT keyL; rw [numsT_app]
   have HKT := hid hkt
   generalize overA p = oA at *
   have hxA : Ext wr (w8.alloc (.cells #[.int .i64 p.turn, .int .i64 p.castle, .int .i64 oA] 3)) := Ext.alloc hx9 _
   have hgA : blk (w8.alloc (.cells #[.int .i64 p.turn, .int .i64 p.castle, .int .i64 oA] 3)) w8.heap.size = some (.cells (ints [p.turn, p.castle, oA]).toArray 3 (0, 0)) := (by simp [go_sem, ints])
   have HC := numbers_any w.heap.size (w.heap.size + 1) w8.heap.size 3 p' (numsT (sqL p 64)) [p.turn, p.castle, oA] _ hpI (hbl.ext hxA) hgA (by omega) hn3 hl3 (by simp; omega) (htr.on (Below.mono hxA (by omega)))
   simp only [List.length_cons, List.length_nil, Nat.zero_add, Nat.reduceAdd] at HC
   rw [hkt] at HC
   have hl5 : (keyT p).length ≤ 100000000 := by omega
   have HWA := hid (show Below w.heap.size w (w8.alloc (.cells #[.int .i64 p.turn, .int .i64 p.castle, .int .i64 oA] 3)) from (Below.trans hE1 (hwr.low (by omega) (by omega))).trans (Below.mono hxA (by omega)))
   have hsA : w.heap.size ≤ (w8.alloc (.cells #[.int .i64 p.turn, .int .i64 p.castle, .int .i64 oA] 3)).heap.size := (by simp; omega)
   clear hgA hkt hbl hpr
   go_wp2_with (first
    | (go_at_call 62; (with_reducible refine HC.mono ?_); rintro e w5 ⟨rfl, p5, hp5, hb5, hw5⟩; have hw5l := hw5.low (by omega) hsA)
    | (go_at_call 63; (with_reducible refine (String_any w.heap.size (w.heap.size + 1) p5 (keyT p) _ hb5 hkn hl5).mono ?_); rintro e w6 ⟨rfl, hx6⟩))
   go_ret
   exact ⟨rfl, (HWA.out.trans hw5l).trans hx6⟩
theorem Tab10.up {w W : World} (h : Tab10 w.heap.size w) (hx : Ext w W) : Tab10 W.heap.size W := fun w' hb => h w' (Below.trans hx (Below.mono hb hx.le))
def sameB (p q : Pos) : Bool := decide (keyL p = keyL q)
theorem keyT_inj {p q : Pos} : keyT p = keyT q ↔ keyL p = keyL q := ⟨fun h => numsT_inj h, fun h => by unfold keyT; rw [h]⟩
abbrev MS2.T (p q : Pos) (w W : World) : Prop := Ext w W ∧ blk W w.heap.size = some (.cells (posCells p) 30 (0, 0)) ∧ blk W (w.heap.size + 1) = some (.cells (posCells q) 30 (0, 0))
def MS2 (p q : Pos) (w W : World) : Prop := MS2.T p q w W
theorem MS2.u {p q w} (W) (h : MS2 p q w W) : MS2.T p q w W := h
theorem MS2.ext {p q : Pos} {w W W' : World} (h : MS2 p q w W) (hx : Ext W W') : MS2 p q w W' := ⟨h.1.trans hx, (hx.blk _ (blk_lt h.2.1)).trans h.2.1, (hx.blk _ (blk_lt h.2.2)).trans h.2.2⟩
theorem Same_any (p q : Pos) (w : World) (hp : Rng p) (hq : Rng q) (ht : Tab10 w.heap.size w) : Calls Tryz.prog 16 #[.agg (posCells p), .agg (posCells q)] w (Ret (.bool (sameB p q)) w) := by
 have HE := hid (show sameB p q = (keyT p == keyT q) by
  unfold sameB
  rw [Bool.eq_iff_iff, beq_iff_eq, decide_eq_true_eq, keyT_inj])
 go_enter Tryz.func16, Tryz.ntmps16
 have hM0 : MS2 p q w ((w.alloc (.cells (posCells p) 30)).alloc (.cells (posCells q) 30)).drew := ⟨(Ext.auto), by simp [go_sem], by simp [go_sem]⟩
 go_upto_region 1 with (fail)
 refine wp_region_split 5 (MS2 p q w) (by kernel_rfl) (by kernel_rfl) (hM0) (fun hH => ?_)
 simp only [List.take_succ_cons, List.take_zero, List.drop_succ_cons, List.drop_zero]
 refine hTz MS2.u 0 ?_; (try go_frame)
 refine hTz MS2.u 2 ?_; (try go_frame)
 refine hRy [1] (hCp (fun K hK => ?_) AllReadyH.nil); go_simp
 refine (Key_any p _ hp (ht.up (by first | exact hH.1))).mono ?_
 rintro e w8 ⟨rfl, hx8⟩
 refine hK.out _ _ (hH.ext (by first | assumption | exact Ext.alloc (Ext.refl _) _)) (fun hH => ?_); clear hK; (try go_frame)
 refine hRy [3] (hCp (fun K hK => ?_) AllReadyH.nil); go_simp
 refine (Key_any q _ hq (ht.up (by first | exact hH.1))).mono ?_
 rintro e w9 ⟨rfl, hx9⟩
 refine hK.out _ _ (hH.ext (by first | assumption | exact Ext.alloc (Ext.refl _) _)) (fun hH => ?_); clear hK; (try go_frame)
 refine hTz MS2.u 4 ?_; (try go_frame)
 refine wpAnyH_done (by kernel_rfl) ?_ _
 simp only [splitQ]
 have hx := hH.1
 clear hH hM0
 go_wp2
 go_ret
 exact Ret.mk' (vbool HE.out.symm) hx
def FinePl (b1 b2 : Nat) (A : World) : Prop := b1 < A.heap.size ∧ b2 < A.heap.size
def SafePl (b1 b2 : Nat) (A : World) (k : Nat) : Prop := k ≠ b1 ∧ k ≠ b2 ∧ ∃ cs t fr, A.heap[k]? = some (.cells cs t fr)
theorem guardsPl (b1 b2 : Nat) : Guards (SafePl b1 b2) (FinePl b1 b2) where
 s1 A B hx h := ⟨Nat.lt_of_lt_of_le h.1 hx.le, Nat.lt_of_lt_of_le h.2 hx.le⟩
 s2 A B k hx _ := by
  rintro ⟨h3, h4, cs, t, fr, h5⟩
  exact ⟨h3, h4, cs, t, fr, (hx.block k (Array.getElem?_eq_some_iff.1 h5).1).trans h5⟩
 s3 A B k cs t fr hx h hk hc := ⟨by have := h.1; omega, by have := h.2; omega, cs, t, fr, hc⟩
theorem Marks.setRow {n0 r : Nat} {l : List Nat} {w : World} (h : Marks n0 l w) (hr : r < n0) (cs : Array Value) : Marks n0 l (w.setRow r cs) :=
 ⟨h.nd, h.ge, fun D hD => (setRow_other w r D cs (by have := h.ge D hD; omega)).trans (h.open_ D hD)⟩
structure XPl (w0 W : World) (n8 pb : Nat) (q : Pos) : Prop where
 os : W.os = w0.os
 tape : W.tape = w0.tape
 output : W.output = w0.output
 size : w0.heap.size ≤ W.heap.size
 keep : ∀ k, k < w0.heap.size → k ≠ n8 → k ≠ pb → blk W k = blk w0 k
 found : blk W n8 = some (.cells #[.bool true] 4 (0, 0))
 pos : blk W pb = some (.cells (posCells q) 30 (0, 0))
theorem Play_any (p : Pos) (L : List Mv) (v : Value) (w : World) (hS : Sl w 3 v L.length (mvsC L)) (hn : L.length ≤ 300000) :
 Calls Tryz.prog 30 #[.agg (posCells p), v] w (Ret (.tuple #[.agg (posCells (playR p L).1), .int .i64 (playR p L).2]) w) := by
 obtain ⟨a, c, rfl⟩ := hS.form
 have HP : ∀ w, Calls Tryz.prog 28 #[.agg (posCells p)] w (Ret (.bool (positionB p)) w) := fun w => Position_any p w
 cases hp : positionB p
 ·have HE := hid (show playR p L = (Pos.zero, 2) by unfold playR; rw [hp]; rfl)
  rw [hp] at HP
  clear hp
  go_enter Tryz.func30, Tryz.ntmps30
  go_wp2_with (go_at_call 28; (with_reducible refine (HP _).mono ?_); rintro e w1 ⟨rfl, hx⟩; have hz1 := (hx.blk (w.heap.size + 1) (by simp)).trans (show blk _ (w.heap.size + 1) = some (.cells (posCells Pos.zero) 30 (0, 0)) from by simp [go_sem]))
  exact bodyPost_ret (v := .tuple #[.agg (posCells Pos.zero), .int .i64 2]) (results_cell2 rfl rfl rfl (load_pos (setRow_blk hz1))) rfl ⟨by rw [HE.out], Ext.setRow (Ext.trans (Ext.auto) hx) (by omega) _⟩
 ·have HE := hid (show playR p L = playGo p L by unfold playR; rw [hp]; rfl)
  rw [hp] at HP
  have HPP := hid hp
  clear hp
  refine (callsIn_wide (n := 5)).1 (callsIn_of_wp_marks Tryz.func30 rfl trivial ?_ rfl)
  simp only [Tryz.ntmps30, List.size_toArray, List.length_cons, List.length_nil, Nat.reduceAdd, Nat.reduceSub, Array.replicate_succ, Array.replicate_zero, List.push_toArray, List.append_toArray, List.nil_append, List.cons_append]
  refine wpIn_wide.2 ?_
  go_wp2_with (go_at_call 28; (with_reducible refine (HP _).mono ?_); rintro e w1 ⟨rfl, hx⟩; have hz1 := (hx.blk (w.heap.size + 1) (by simp)).trans (show blk _ (w.heap.size + 1) = some (.cells (posCells Pos.zero) 30 (0, 0)) from by simp [go_sem]); have hp1 := (hx.blk w.heap.size (by simp; omega)).trans (show blk _ w.heap.size = some (.cells (posCells p) 30 (0, 0)) from by simp [go_sem]))
  have hEw : Ext w w1 := Ext.trans (Ext.auto) hx
  have hlp := blk_lt hp1
  have hlz := blk_lt hz1
  clear hx
  refine wp_loop (fun a' w' => ∃ (k : Nat) (l : List Nat) (q : Pos) (u7 u8 u9 u10 u18 u19 u20 u21 u22 u23 u24 u25 u26 u27 u28 u29 u30 u31 u32 u33 u34 : Value), a' = { tmps := List.toArray ((Value.agg (posCells p)) :: (Value.slice a L.length c) :: (Value.pointer (some ⟨w.heap.size, 0, none⟩)) :: undef :: (Value.pointer (some ⟨w.heap.size + 1, 0, none⟩)) :: (Value.int .i64 0) :: undef :: u7 :: u8 :: u9 :: u10 :: (Value.agg (posCells p)) :: (Value.bool true) :: (Value.bool false) :: undef :: (Value.slice a L.length c) :: (Value.int .i64 (L.length : Int)) :: (Value.int .i64 (k : Int)) :: u18 :: u19 :: u20 :: u21 :: u22 :: u23 :: u24 :: u25 :: u26 :: u27 :: u28 :: u29 :: u30 :: u31 :: u32 :: u33 :: u34 :: []), defers := l.map markOf } ∧ k ≤ L.length ∧ positionB q = true ∧ playGo q (L.drop k) = playGo p L ∧ blk w' w.heap.size = some (.cells (posCells q) 30 (0, 0)) ∧ blk w' (w.heap.size + 1) = some (.cells (posCells Pos.zero) 30 (0, 0)) ∧ Ext w w' ∧ w1.heap.size ≤ w'.heap.size ∧ Marks w1.heap.size l w') (fun a' _ => L.length - (intOf (a'.tmps.getD 17 undef)).toNat) ?h0 ?round
  case h0 => exact ⟨0, [], p, _, _, _, _, _, _, _, _, _, _, _, _, _, _, _, _, _, _, _, _, _, rfl, by omega, HPP.out, by rw [List.drop_zero], hp1, hz1, hEw, Nat.le_refl _, ⟨by simp, by simp, by simp⟩⟩
  case round =>
   rintro a' w' ⟨k, l, q, u7, u8, u9, u10, u18, u19, u20, u21, u22, u23, u24, u25, u26, u27, u28, u29, u30, u31, u32, u33, u34, rfl, hk, hq, hgo, hb0, hb1, hxr, hle1, hm⟩
   clear hp1 hz1
   by_cases hlt : k < L.length
   ·obtain ⟨m, hmk⟩ : ∃ m, L[k]? = some m := ⟨_, List.getElem?_eq_getElem hlt⟩
    obtain ⟨g, o, rfl, hg, hcl⟩ := hS.pos (by omega)
    have d0 := hcl (k * 3) _ (mvsC_at hmk 0 (by omega))
    have d1 := hcl (k * 3 + 1) _ (mvsC_at hmk 1 (by omega))
    have d2 := hcl (k * 3 + 2) _ (mvsC_at hmk 2 (by omega))
    simp only [mvE, List.getElem!_cons_zero, List.getElem!_cons_succ] at d0 d1 d2
    rw [← Nat.add_assoc] at d1 d2
    have hgr : g < w'.heap.size := Nat.lt_of_lt_of_le hg hxr.le
    rw [← hxr.cell _ _ hg] at d0 d1 d2
    have hOF := fun W => of_yes q W hq
    have lb0 := blk_lt hb0
    have HGO := hid hgo
    have HMM := hid hmk
    have HXR := hid hxr
    have HS := hid hS
    have HM := hid hm
    have HQ := hid hq
    clear hgo hcl hmk hS hm hxr hq
    go_wp2_with (go_at_call 69; (with_reducible refine (hOF _).mono ?_); rintro e w2 ⟨bf, rfl, hbf, hx2, hC⟩)
    have hE5 : Ext w' ((w'.alloc (.cells #[.int .i64 m.fr, .int .i64 m.to_, .int .i64 m.be] 51)).alloc (.cells #[.bool false] 4)) := (Ext.auto)
    have h7 : blk w2 w'.heap.size = some (.cells (mvC m) 51 (0, 0)) := (hx2.blk _ (by simp; omega)).trans (by simp [go_sem]; rfl)
    have h8 : blk w2 (w'.heap.size + 1) = some (.cells #[.bool false] 4 (0, 0)) := (hx2.blk _ (by simp)).trans (blk_alloc_at _ _ _ (by simp))
    have hx5 : Ext w' w2 := hE5.trans hx2
    have hb0' := (hx5.blk _ lb0).trans hb0
    have hb1' := (hx5.blk _ (blk_lt hb1)).trans hb1
    simp only [World.size_alloc] at hbf
    have hm2 := HM.out.below hx5
    have hl5 := hx5.le
    have l8 := blk_lt h8
    have lbf := blk_lt hC
    clear hE5 hx2
    refine (wpIn_wide (n := 5)).1 ?_
    refine wpIn_rangeFunc_ownH rfl (by decide) (gf := 153) (lb := #[.pointer (some ⟨bf, 0, none⟩)]) rfl trivial (enters_of Tryz.func153 (by kernel_rfl) rfl)
     (all_stops 4 (by decide) q _ _ _ (guardsPl (w'.heap.size + 1) w.heap.size) w2 hC ⟨l8, blk_lt hb0'⟩ ⟨by omega, by omega, _, _, _, hC⟩) (fun h k => h.trans k) ?kb (Below.refl _ _) (fun _ => rfl)
     (fun pre W => (∀ x ∈ pre, x.1 ≠ m) ∧ Ext w2 W) (fun c pre W => c = .exit 2 ∧ m ∈ legalL q ∧ XPl w2 W (w'.heap.size + 1) w.heap.size (movedP q m)) ?own (fun c => ?ownx) ⟨by simp, Ext.refl _⟩
     (fun x a' W => ∃ b9 b10, w2.heap.size ≤ b9 ∧ w2.heap.size ≤ b10 ∧ blk W b9 = some (.cells (mvC x.1) 51 (0, 0)) ∧ blk W b10 = some (.cells (posCells (movedP q x.1)) 30 (0, 0)) ∧ a' = { tmps := List.toArray (Value.agg (posCells p) :: Value.slice (some ⟨g, o, none⟩) L.length c :: Value.pointer (some ⟨w.heap.size, 0, none⟩) :: undef :: Value.pointer (some ⟨w.heap.size + 1, 0, none⟩) :: Value.int .i64 0 :: undef :: Value.pointer (some ⟨w'.heap.size, 0, none⟩) :: Value.pointer (some ⟨w'.heap.size + 1, 0, none⟩) :: Value.pointer (some ⟨b9, 0, none⟩) :: Value.pointer (some ⟨b10, 0, none⟩) :: Value.agg (posCells p) :: Value.bool true :: Value.bool false :: undef :: Value.slice (some ⟨g, o, none⟩) L.length c :: Value.int .i64 (L.length : Int) :: Value.int .i64 (k : Int) :: Value.bool true :: Value.pointer (some ⟨g, o + k * 3, none⟩) :: Value.agg #[.int .i64 m.fr, .int .i64 m.to_, .int .i64 m.be] :: Value.agg (posCells q) :: Value.func (.func 153) #[] #[.pointer (some ⟨bf, 0, none⟩)] :: Value.agg (mvC x.1) :: Value.agg (posCells (movedP q x.1)) :: u25 :: u26 :: u27 :: u28 :: u29 :: u30 :: u31 :: u32 :: u33 :: u34 :: []), defers := [] })
     ?ownA ?assign ?body ?done ?stop
    case kb =>
     intro W l0 ob ob' hl ho hc hw
     have hsz := (grownBy_putObj' W l0 ob').size
     refine ⟨hsz, fun h => ⟨Nat.lt_of_lt_of_le h.1 hsz, Nat.lt_of_lt_of_le h.2 hsz⟩, ?_⟩
     rintro k' ⟨h3, h4, cs, t, fr, h5⟩
     have hkl : k' ≠ l0 := by rintro rfl; rw [ho] at h5; cases h5; cases hc
     have hk' : (W.putObj l0 ob').heap[k']? = W.heap[k']? := World.putObj_heap_other hkl
     exact ⟨hk', h3, h4, cs, t, fr, hk'.trans h5⟩
    case own =>
     rintro pre A B row ⟨hne, hE⟩ hg hr
     exact ⟨hne, Below.grown hE hg hE.size (fun r e => (hr r e).1)⟩
    case ownx =>
     rintro pre A B row ⟨hc, hml, hX⟩ hg hr
     have kp : ∀ k', k' < w2.heap.size → blk B k' = blk A k' := fun k' h => hg.block k' (Nat.lt_of_lt_of_le h hX.size) (fun e => by have := (hr _ e.symm).1; omega)
     exact ⟨hc, hml, hg.os.trans hX.os, hg.tape.trans hX.tape, hg.output.trans hX.output, Nat.le_trans hX.size hg.size, fun k' h1 h2 h3 => (kp k' h1).trans (hX.keep k' h1 h2 h3), (kp _ l8).trans hX.found, (kp _ (blk_lt hb0')).trans hX.pos⟩
    case ownA =>
     rintro x a' _ A B row ⟨b9, b10, h1, h2, h3, h4, rfl⟩ hg hr
     have kp : ∀ k' cs t fr, blk A k' = some (.cells cs t fr) → blk B k' = some (.cells cs t fr) := fun k' cs t fr h => (hg.block k' (blk_lt h) (fun e => by
      obtain ⟨_, ob, ho, hn⟩ := hr k' e.symm
      rw [show A.heap[k']? = _ from h] at ho; cases ho; cases hn)).trans h
     exact ⟨b9, b10, h1, h2, kp _ _ _ _ h3, kp _ _ _ _ h4, rfl⟩
    case assign =>
     rintro l0 pre x W K ⟨hne, hE⟩ hK
     have hA : Ext W ((W.alloc (.cells (mvC x.1) 51 (0, 0))).alloc (.cells (posCells (movedP q x.1)) 30 (0, 0))) := ((Ext.refl W).alloc _).alloc _
     have hle := hE.le
     unfold encL mvC
     gi_wp2_with (first
      | ((with_reducible refine wpListIn_store_new (q := movedP q x.1) ?_ ?_ ?_ ?_); exact rfl; exact rfl; kernel_rfl)
      | (rw [Oper.semAt_eq _ _ _ (fun c h => by cases h)]; go_simp))
     exact hK _ _ (hA.keeps _) (kpg_ext (guardsPl _ _) hA ⟨Nat.lt_of_lt_of_le l8 hle, Nat.lt_of_lt_of_le (blk_lt hb0') hle⟩ (fun k' hk' => by obtain ⟨_, _, _, _, _, h⟩ := hk'; exact (Array.getElem?_eq_some_iff.1 h).1)) ⟨hne, hE.trans hA⟩ ⟨W.heap.size, W.heap.size + 1, hle, by omega, (blk_alloc_past _ _ _ (by simp)).trans (blk_alloc_at _ _ _ rfl), blk_alloc_at _ _ _ (by simp), rfl⟩
    case body =>
     rintro l0 pre x a' W hl ⟨r, hr⟩ ⟨hne, hE⟩ ⟨b9, b10, h9, h10, hb9, hb10, rfl⟩ _
     have hW7 := (hE.blk _ (blk_lt h7)).trans h7
     have hW8 := (hE.blk _ (blk_lt h8)).trans h8
     have hWp := (hE.blk _ (blk_lt hb0')).trans hb0'
     have c70 := blk_cell hW7 0
     have c71 := blk_cell hW7 1
     have c72 := blk_cell hW7 2
     have c90 := blk_cell hb9 0
     have c91 := blk_cell hb9 1
     have c92 := blk_cell hb9 2
     have c8 := blk_cell hW8 0
     have f8 := blk_froz hW8 0
     simp only [mvC, List.getElem?_toArray, List.getElem?_cons_zero, List.getElem?_cons_succ] at c70 c71 c72 c90 c91 c92 c8
     by_cases hxm : x.1 = m
     ·subst hxm
      have HE9 := hid hE
      clear hE hne
      have hlp2 := blk_lt hWp
      have hq10 : b10 ≠ w'.heap.size + 1 := by omega
      have hqp : w.heap.size ≠ w'.heap.size + 1 := by omega
      gi_wp2_with (rw [Oper.semAt_eq _ _ _ (fun c h => by cases h)]; go_simp)
      have kp : ∀ k', k' ≠ w'.heap.size + 1 → k' ≠ w.heap.size → blk ((W.setCell ⟨w'.heap.size + 1, 0, none⟩ (.bool true)).setRow w.heap.size (posCells (movedP q x.1))) k' = blk W k' := fun k' h1 h2 => (setRow_other _ _ _ _ h2).trans (blk_setCell_past W ⟨w'.heap.size + 1, 0, none⟩ _ k' h1)
      have hE := HE9.out
      refine ⟨⟨by simp [size_set], fun k' ob hB hk' _ => (kp k' (by omega) (by omega)).trans hk'⟩, rfl, List.mem_filter.2 ⟨x.2.1, x.2.2⟩, hE.os, hE.tape, hE.output, by simpa [size_set] using hE.size, fun k' h1 h2 h3 => (kp k' h2 h3).trans (hE.blk k' h1), (setRow_other _ _ _ _ (fun e => hqp e.symm)).trans (blk_setCell_same W _ 0 _ _ (.bool true) hW8), setRow_blk ((blk_setCell_past W ⟨w'.heap.size + 1, 0, none⟩ (.bool true) w.heap.size hqp).trans hWp)⟩
     ·have hxm2 : x.1.fr ≠ m.fr ∨ (x.1.fr = m.fr ∧ x.1.to_ ≠ m.to_) ∨ (x.1.fr = m.fr ∧ x.1.to_ = m.to_ ∧ x.1.be ≠ m.be) := by
       by_cases a1 : x.1.fr = m.fr
       ·by_cases a2 : x.1.to_ = m.to_
        ·refine .inr (.inr ⟨a1, a2, fun a3 => hxm ?_⟩)
         cases m; cases hx1 : x.1; simp_all
        ·exact .inr (.inl ⟨a1, a2⟩)
       ·exact .inl a1
      have hE2 : Ext w2 (W.setCell ⟨w'.heap.size + 1, 0, none⟩ (.bool false)) := ⟨hE.os, hE.tape, hE.output, by rw [size_set]; exact hE.size, fun k' hk' => by
       by_cases e : k' = w'.heap.size + 1
       ·subst e
        exact (blk_setCell_same W _ 0 _ _ (.bool false) hW8).trans h8.symm
       ·exact (blk_setCell_past W ⟨w'.heap.size + 1, 0, none⟩ _ k' e).trans (hE.blk k' hk')⟩
      have hne2 : ∀ y ∈ pre ++ [x], y.1 ≠ m := fun y hy => by
       rcases List.mem_append.1 hy with h | h
       ·exact hne y h
       ·simp at h; rw [h]; exact hxm
      have hKG : KpG (SafePl (w'.heap.size + 1) w.heap.size) (FinePl (w'.heap.size + 1) w.heap.size) W (W.setCell ⟨w'.heap.size + 1, 0, none⟩ (.bool false)) := ⟨by rw [size_set]; exact Nat.le_refl _, fun h => ⟨by rw [size_set]; exact h.1, by rw [size_set]; exact h.2⟩, fun k' h => by
       have e1 : (W.setCell ⟨w'.heap.size + 1, 0, none⟩ (.bool false)).heap[k']? = W.heap[k']? := blk_setCell_past W ⟨w'.heap.size + 1, 0, none⟩ _ k' h.1
       obtain ⟨h3, h4, cs, t, fr, h5⟩ := h
       exact ⟨e1, h3, h4, cs, t, fr, e1.trans h5⟩⟩
      have HR := hid (And.intro hKG (And.intro hne2 hE2))
      clear hE hne hE2 hne2 hKG
      clear hxm
      rcases hxm2 with a1 | ⟨a1, a2⟩ | ⟨a1, a2, a3⟩
      all_goals gi_wp2_with (rw [Oper.semAt_eq _ _ _ (fun c h => by cases h)]; go_simp)
      all_goals exact ⟨(KeepsOthers.setCell _ _ _).from _, HR.out.1, HR.out.2.1, HR.out.2.2⟩
    case done =>
     rintro D xs W hD hxs ⟨hne, hE⟩ hKD
     have hnl : m ∉ legalL q := by
      rw [← hxs]
      intro h
      obtain ⟨y, hy, e⟩ := List.mem_map.1 h
      exact hne y hy e
     have hiB : isB q m = false := by
      unfold isB movesP
      rw [if_pos HQ.out, List.any_eq_false]
      intro y hy
      simp only [decide_eq_true_eq]
      rintro rfl
      exact hnl hy
     have HN := hid ((playGo_no HMM.out hiB).symm.trans HGO.out)
     have hW8 := (hE.blk _ l8).trans h8
     have hW1 := (hE.blk _ (blk_lt hb1')).trans hb1'
     have c8 := blk_cell hW8 0
     simp only [List.getElem?_toArray, List.getElem?_cons_zero] at c8
     have hlD : D ∉ l := fun h => by have := (Array.getElem?_eq_some_iff.1 (hm2.open_ D h)).1; omega
     have hMD : Marks w1.heap.size (D :: l) W := (hm2.below hE).cons (by omega) hlD hKD
     have hxW : Ext w W := HXR.out.trans (hx5.trans hE)
     have HMD := hid hMD
     have HXW := hid hxW
     clear hne hE hMD hxW hiB hnl hxs
     go_wp2
     refine leaves_marks (D :: l) _ (HMD.out.setRow (by omega) _) fun w'' hw'' => ?_
     have hz : blk w'' (w.heap.size + 1) = some (.cells (posCells Pos.zero) 30 (0, 0)) := (hw''.block _ hlz).trans (setRow_blk hW1)
     exact ⟨.tuple #[.agg (posCells Pos.zero), .int .i64 8], results_cell2 rfl rfl rfl (load_pos hz), by rw [HE.out, ← HN.out], Below.trans (Ext.setRow HXW.out (by omega) _) (hw''.mono (by omega))⟩
    case stop =>
     rintro D c pre W hD _ ⟨rfl, hml, hX⟩ hKD
     have hiB : isB q m = true := by
      unfold isB movesP
      rw [if_pos HQ.out, List.any_eq_true]
      exact ⟨m, hml, by simp⟩
     have HN := hid ((playGo_yes HMM.out hiB).symm.trans HGO.out)
     have hq2 := legal_keeps HQ.out hml
     have hW1 := (hX.keep _ (blk_lt hb1') (by omega) (by omega)).trans hb1'
     have c8 := blk_cell hX.found 0
     simp only [List.getElem?_toArray, List.getElem?_cons_zero] at c8
     have hlD : D ∉ l := fun h => by have := (Array.getElem?_eq_some_iff.1 (hm2.open_ D h)).1; omega
     have hMD : Marks w1.heap.size (D :: l) W := ⟨List.nodup_cons.2 ⟨hlD, hm2.nd⟩, fun E hE => (List.mem_cons.1 hE).elim (fun e => by omega) (hm2.ge E), fun E hE => (List.mem_cons.1 hE).elim (fun e => by rw [e]; exact hKD) (fun h => by
      have h1 := hm2.open_ E h
      have h2 := (Array.getElem?_eq_some_iff.1 h1).1
      refine (hX.keep E h2 ?_ ?_).trans h1
      ·rintro rfl; rw [show w2.heap[w'.heap.size + 1]? = _ from h8] at h1; cases h1
      ·rintro rfl; rw [show w2.heap[w.heap.size]? = _ from hb0'] at h1; cases h1)⟩
     have hxw2 : Ext w w2 := HXR.out.trans hx5
     have hxW : Ext w W := ⟨hX.os.trans hxw2.os, hX.tape.trans hxw2.tape, hX.output.trans hxw2.output, Nat.le_trans hxw2.le hX.size, fun k' hk' => (hX.keep k' (Nat.lt_of_lt_of_le hk' hxw2.le) (by omega) (by omega)).trans (hxw2.blk k' hk')⟩
     have HMD := hid hMD
     have HXW := hid hxW
     have HQ2 := hid hq2
     have HXP := hid hX.pos
     have hszW : w1.heap.size ≤ W.heap.size := Nat.le_trans hle1 (Nat.le_trans hl5 hX.size)
     clear hMD hxW hiB hml hX hq2 hxw2
     gi_wp2
     go_wp2
     refine ⟨⟨k + 1, D :: l, movedP q m, _, _, _, _, _, _, _, _, _, _, _, _, _, _, _, _, _, _, _, _, _, rfl, by omega, HQ2.out, HN.out, HXP.out, hW1, HXW.out, hszW, HMD.out⟩, ?_⟩
     simp [intOf]; omega
   ·obtain rfl : k = L.length := by omega
    rw [List.drop_length, playGo] at hgo
    have HGO := hid hgo
    clear hgo
    have HM := hid hm
    clear hm
    go_wp2
    refine leaves_marks l _ (HM.out.setRow (by omega) _) fun w'' hw'' => ?_
    have hz : blk w'' (w.heap.size + 1) = some (.cells (posCells q) 30 (0, 0)) := (hw''.block _ hlz).trans (setRow_blk hb1)
    exact ⟨.tuple #[.agg (posCells q), .int .i64 0], results_cell2 rfl rfl rfl (load_pos hz), by rw [HE.out, ← HGO.out], Below.trans (Ext.setRow hxr (by omega) _) (hw''.mono (by omega))⟩
def winsOf (s : Int) : Int := if s = 1 then 2 else 1
def stuckB (p : Pos) : Bool := positionB p && decide ((movesP p).length = 0)
def endR (p : Pos) : Int := if stuckB p then (if checkB p p.turn then winsOf (otherOf p.turn) else 3) else 0
def endY (p : Pos) : Int := if stuckB p then (if checkB p p.turn then 1 else 2) else 0
def beyondB (p : Pos) (l : List Int) : Bool := positionB p && !l.any fun n => decide (p.half < n)
theorem rWins_any (s : Int) (w : World) : Calls Tryz.prog 139 #[.int .i64 s] w (Ret (.int .i64 (winsOf s)) w) := by
 by_cases h : s = 1
 ·subst h
  go_enter Tryz.func139, Tryz.ntmps139
  go_wp2
  go_ret; exact Ret.mk' rfl (Ext.auto)
 ·have h2 : (s == 1) = false := by simp [h]
  have H := hid h
  clear h
  go_enter Tryz.func139, Tryz.ntmps139
  go_wp2
  go_ret; exact Ret.mk' (by simp [winsOf, H.out]) (Ext.auto)
theorem stuck_any (p : Pos) (w : World) : Calls Tryz.prog 86 #[.agg (posCells p)] w (Ret (.bool (stuckB p)) w) := by
 have hPO := fun W => Position_any p W
 have hMV := fun W => Moves_any p W
 cases hp : positionB p
 ·have HE := hid (show stuckB p = false by unfold stuckB; rw [hp]; rfl)
  rw [hp] at hPO
  clear hp hMV
  go_enter Tryz.func86, Tryz.ntmps86
  go_wp2_with (go_at_call 28; (with_reducible refine (hPO _).mono ?_); rintro e w1 ⟨rfl, hx⟩)
  go_ret
  exact Ret.mk' (vbool HE.out.symm) (Ext.trans (Ext.auto) hx)
 ·have HE := hid (show stuckB p = decide ((movesP p).length = 0) by unfold stuckB; rw [hp]; rfl)
  rw [hp] at hPO
  clear hp
  generalize movesP p = L at *
  go_enter Tryz.func86, Tryz.ntmps86
  go_wp2_with (first
   | (go_at_call 28; (with_reducible refine (hPO _).mono ?_); rintro e w1 ⟨rfl, hx⟩; (have hb1 := (hx.blk w.heap.size (by simp)).trans (blk_alloc_at w (.cells (posCells p) 145) _ rfl)))
   | (go_at_call 29; (with_reducible refine (hMV _).mono ?_); rintro e w2 ⟨v2, rfl, hown2, hx2⟩; obtain ⟨a2, c2, rfl⟩ := (Sl.of_own hown2).form))
  go_ret
  exact Ret.mk' (vbool (by rw [HE.out, Bool.eq_iff_iff]; simp)) (Ext.trans (Ext.auto) (hx.trans hx2))
theorem endsOf_any (p : Pos) (w : World) : Calls Tryz.prog 44 #[.agg (posCells p)] w (Ret (.tuple #[.int .i64 (endR p), .int .i64 (endY p)]) w) := by
 have hST := fun W => stuck_any p W
 have hCK := fun W => Check_any p p.turn W
 have hOT := fun W => Other_any p.turn W
 have hWI : ∀ W, Calls Tryz.prog 59 #[.int .i64 (otherOf p.turn)] W (Ret (.int .i64 (winsOf (otherOf p.turn))) W) := fun W => Wins_any (otherOf p.turn) W
 cases hs : stuckB p
 ·have HR := hid (show endR p = 0 by unfold endR; rw [hs]; rfl)
  have HY := hid (show endY p = 0 by unfold endY; rw [hs]; rfl)
  rw [hs] at hST
  clear hs hCK hOT hWI
  go_enter Tryz.func44, Tryz.ntmps44
  go_wp2_with (go_at_call 86; (with_reducible refine (hST _).mono ?_); rintro e w1 ⟨rfl, hx⟩)
  go_ret2
  exact Ret.mk' (by rw [HR.out, HY.out]; rfl) (Ext.trans (Ext.auto) hx)
 ·rw [hs] at hST
  cases hc : checkB p p.turn
  ·have HR := hid (show endR p = 3 by unfold endR; rw [hs, hc]; rfl)
   have HY := hid (show endY p = 2 by unfold endY; rw [hs, hc]; rfl)
   rw [hc] at hCK
   clear hs hc hOT hWI
   go_enter Tryz.func44, Tryz.ntmps44
   go_wp2_with (first
    | (go_at_call 86; (with_reducible refine (hST _).mono ?_); rintro e w1 ⟨rfl, hx⟩; (have hb0 := (hx.blk w.heap.size (by simp; omega)).trans (show blk _ w.heap.size = some (.cells (posCells p) 30 (0, 0)) from by simp [go_sem])); (have hb1 := (hx.blk (w.heap.size + 1) (by simp)).trans (show blk _ (w.heap.size + 1) = some (.cells (posCells p) 145 (0, 0)) from by simp [go_sem])); (have d1 := (blk_cell hb1 128).trans (posCells_turn p)))
    | (go_at_call 67; (with_reducible refine (hCK _).mono ?_); rintro e w2 ⟨rfl, hx2⟩))
   go_ret2
   exact Ret.mk' (by rw [HR.out, HY.out]; rfl) (Ext.trans (Ext.auto) (hx.trans hx2))
  ·have HR := hid (show endR p = winsOf (otherOf p.turn) by unfold endR; rw [hs, hc]; rfl)
   have HY := hid (show endY p = 1 by unfold endY; rw [hs, hc]; rfl)
   rw [hc] at hCK
   clear hs hc
   go_enter Tryz.func44, Tryz.ntmps44
   go_wp2_with (first
    | (go_at_call 86; (with_reducible refine (hST _).mono ?_); rintro e w1 ⟨rfl, hx⟩; (have hb0 := (hx.blk w.heap.size (by simp; omega)).trans (show blk _ w.heap.size = some (.cells (posCells p) 30 (0, 0)) from by simp [go_sem])); (have hb1 := (hx.blk (w.heap.size + 1) (by simp)).trans (show blk _ (w.heap.size + 1) = some (.cells (posCells p) 145 (0, 0)) from by simp [go_sem])); (have d1 := (blk_cell hb1 128).trans (posCells_turn p)))
    | (go_at_call 67; (with_reducible refine (hCK _).mono ?_); rintro e w2 ⟨rfl, hx2⟩; (have d2 := (hx2.cell _ 128 (blk_lt hb1)).trans d1))
    | (go_at_call 68; (with_reducible refine (hOT _).mono ?_); rintro e w3 ⟨rfl, hx3⟩)
    | (go_at_call 59; (with_reducible refine (hWI _).mono ?_); rintro e w4 ⟨rfl, hx4⟩))
   go_ret2
   exact Ret.mk' (by rw [HR.out, HY.out]; rfl) (Ext.trans (Ext.auto) (hx.trans (hx2.trans (hx3.trans hx4))))
theorem rEndsOf_any (p : Pos) (w : World) : Calls Tryz.prog 124 #[.agg (posCells p)] w (Ret (.tuple #[.int .i64 (endR p), .int .i64 (endY p)]) w) := by
 have hMV := fun W => rMoves_any p W
 have hPO := fun W => rPosition_any p W
 have hCK := fun W => rCheck_any p p.turn W
 have hOT := fun W => rOther_any p.turn W
 have hWI := fun W => rWins_any (otherOf p.turn) W
 by_cases hs : stuckB p = true
 ·obtain ⟨h1, h2⟩ : positionB p = true ∧ (movesP p).length = 0 := by unfold stuckB at hs; simpa using hs
  rw [h1] at hPO
  generalize hL : movesP p = L at *
  cases hc : checkB p p.turn
  ·have HR := hid (show endR p = 3 by unfold endR; rw [hs, hc]; rfl)
   have HY := hid (show endY p = 2 by unfold endY; rw [hs, hc]; rfl)
   rw [hc] at hCK
   clear hs hc hOT hWI h1 hL
   go_enter Tryz.func124, Tryz.ntmps124
   go_wp2_with (first
    | (go_at_call 36; (with_reducible refine (hMV _).mono ?_); rintro e w1 ⟨v1, rfl, hown1, hx⟩; obtain ⟨a1, c1, rfl⟩ := (Sl.of_own hown1).form; (have hb0 := (hx.blk w.heap.size (by simp)).trans (blk_alloc_at w (.cells (posCells p) 30) _ rfl)))
    | (go_at_call 73; (with_reducible refine (hPO _).mono ?_); rintro e w2 ⟨rfl, hx2⟩; (have hb2 := (hx2.blk _ (blk_lt hb0)).trans hb0); (have d2 := (blk_cell hb2 128).trans (posCells_turn p)))
    | (go_at_call 111; (with_reducible refine (hCK _).mono ?_); rintro e w3 ⟨rfl, hx3⟩))
   go_ret2
   exact Ret.mk' (by rw [HR.out, HY.out]; rfl) (Ext.trans (Ext.auto) (hx.trans (hx2.trans hx3)))
  ·have HR := hid (show endR p = winsOf (otherOf p.turn) by unfold endR; rw [hs, hc]; rfl)
   have HY := hid (show endY p = 1 by unfold endY; rw [hs, hc]; rfl)
   rw [hc] at hCK
   clear hs hc h1 hL
   go_enter Tryz.func124, Tryz.ntmps124
   go_wp2_with (first
    | (go_at_call 36; (with_reducible refine (hMV _).mono ?_); rintro e w1 ⟨v1, rfl, hown1, hx⟩; obtain ⟨a1, c1, rfl⟩ := (Sl.of_own hown1).form; (have hb0 := (hx.blk w.heap.size (by simp)).trans (blk_alloc_at w (.cells (posCells p) 30) _ rfl)))
    | (go_at_call 73; (with_reducible refine (hPO _).mono ?_); rintro e w2 ⟨rfl, hx2⟩; (have hb2 := (hx2.blk _ (blk_lt hb0)).trans hb0); (have d2 := (blk_cell hb2 128).trans (posCells_turn p)))
    | (go_at_call 111; (with_reducible refine (hCK _).mono ?_); rintro e w3 ⟨rfl, hx3⟩; (have d3 := (hx3.cell _ 128 (blk_lt hb2)).trans d2))
    | (go_at_call 112; (with_reducible refine (hOT _).mono ?_); rintro e w4 ⟨rfl, hx4⟩)
    | (go_at_call 139; (with_reducible refine (hWI _).mono ?_); rintro e w5 ⟨rfl, hx5⟩))
   go_ret2
   exact Ret.mk' (by rw [HR.out, HY.out]; rfl) (Ext.trans (Ext.auto) (hx.trans (hx2.trans (hx3.trans (hx4.trans hx5)))))
 ·have hs' : stuckB p = false := by simpa using hs
  have HR := hid (show endR p = 0 by unfold endR; rw [hs']; rfl)
  have HY := hid (show endY p = 0 by unfold endY; rw [hs']; rfl)
  have hor : positionB p = false ∨ 0 < (movesP p).length := by
   unfold stuckB at hs'
   cases h : positionB p
   ·exact .inl rfl
   ·rw [h] at hs'; simp at hs'; right; exact List.length_pos_iff.2 hs'
  clear hs hs' hCK hOT hWI
  generalize movesP p = L at *
  generalize positionB p = PB at *
  rcases hor with rfl | hL
  ·go_enter Tryz.func124, Tryz.ntmps124
   go_wp2_with (first
    | (go_at_call 36; (with_reducible refine (hMV _).mono ?_); rintro e w1 ⟨v1, rfl, hown1, hx⟩; obtain ⟨a1, c1, rfl⟩ := (Sl.of_own hown1).form; (have hb0 := (hx.blk w.heap.size (by simp)).trans (blk_alloc_at w (.cells (posCells p) 30) _ rfl)))
    | (go_at_call 73; (with_reducible refine (hPO _).mono ?_); rintro e w2 ⟨rfl, hx2⟩))
   go_ret2
   exact Ret.mk' (by rw [HR.out, HY.out]; rfl) (Ext.trans (Ext.auto) (hx.trans hx2))
  ·cases PB
   all_goals
    go_enter Tryz.func124, Tryz.ntmps124
    go_wp2_with (first
     | (go_at_call 36; (with_reducible refine (hMV _).mono ?_); rintro e w1 ⟨v1, rfl, hown1, hx⟩; obtain ⟨a1, c1, rfl⟩ := (Sl.of_own hown1).form; (have hb0 := (hx.blk w.heap.size (by simp)).trans (blk_alloc_at w (.cells (posCells p) 30) _ rfl)))
     | (go_at_call 73; (with_reducible refine (hPO _).mono ?_); rintro e w2 ⟨rfl, hx2⟩))
    go_ret2
    exact Ret.mk' (by rw [HR.out, HY.out]; rfl) (Ext.trans (Ext.auto) (hx.trans hx2))
theorem rBeyond (p : Pos) (n : Int) : (positionB p && decide (n ≤ p.half)) = beyondB p [n] := by
 unfold beyondB
 cases positionB p
 ·rfl
 ·rw [Bool.eq_iff_iff]; simp
theorem rFifty_any (p : Pos) (w : World) : Calls Tryz.prog 135 #[.agg (posCells p)] w (Ret (.bool (beyondB p [100])) w) := by
 rw [← rBeyond]
 have hPO := fun W => rPosition_any p W
 have d0 := (blk_cell (blk_alloc_at w (.cells (posCells p) 30) w.heap.size rfl) 131).trans (posCells_half p)
 generalize positionB p = PB at *
 cases PB
 all_goals
  go_enter Tryz.func135, Tryz.ntmps135
  go_wp2_with (go_at_call 73; (with_reducible refine (hPO _).mono ?_); rintro e w2 ⟨rfl, hx⟩; (have d2 := (hx.cell _ 131 (by simp)).trans d0))
  go_ret
  exact Ret.mk' (by first | rfl | (simp; done)) (Ext.trans (Ext.auto) hx)
theorem rSeventy_any (p : Pos) (w : World) : Calls Tryz.prog 127 #[.agg (posCells p)] w (Ret (.bool (beyondB p [150])) w) := by
 rw [← rBeyond]
 have hPO := fun W => rPosition_any p W
 have d0 := (blk_cell (blk_alloc_at w (.cells (posCells p) 30) w.heap.size rfl) 131).trans (posCells_half p)
 generalize positionB p = PB at *
 cases PB
 all_goals
  go_enter Tryz.func127, Tryz.ntmps127
  go_wp2_with (go_at_call 73; (with_reducible refine (hPO _).mono ?_); rintro e w2 ⟨rfl, hx⟩; (have d2 := (hx.cell _ 131 (by simp)).trans d0))
  go_ret
  exact Ret.mk' (by first | rfl | (simp; done)) (Ext.trans (Ext.auto) hx)
theorem beyond1_any (p : Pos) (n : Int) (g : Nat) (w : World) (hb : blk w g = some (.cells (posCells p) 145 (0, 0))) : Calls Tryz.prog 138 (#[.int .i64 n] ++ #[.pointer (some ⟨g, 0, none⟩)]) w (Ret (.bool (decide (p.half < n))) w) := by
 have d := (blk_cell hb 131).trans (posCells_half p)
 show Calls Tryz.prog 138 #[.int .i64 n, .pointer (some ⟨g, 0, none⟩)] w _
 go_enter Tryz.func138, Tryz.ntmps138
 go_wp2
 go_ret
 exact Ret.mk' rfl (Ext.refl _)
theorem beyond1_enters : ∀ args w, (callFunc 138 args).run Tryz.prog w = .ok (.enter 138 args) w := enters_of Tryz.func138 (by kernel_rfl) rfl
theorem beyond_any (p : Pos) (L : List Int) (v : Value) (w : World) (hS : Sl w 1 v L.length (ints L)) (hn : L.length ≤ 1000000) : Calls Tryz.prog 89 #[.agg (posCells p), v] w (Ret (.bool (beyondB p L)) w) := by
 have hPO := fun W => Position_any p W
 obtain ⟨a', cap, rfl⟩ := hS.form
 have hM : blk (w.alloc (.cells (posCells p) 145 (0, 0))) w.heap.size = some (.cells (posCells p) 145 (0, 0)) := blk_alloc_at _ _ _ rfl
 cases hp : positionB p
 ·have HE := hid (show beyondB p L = false by unfold beyondB; rw [hp]; rfl)
  rw [hp] at hPO
  clear hp
  go_enter Tryz.func89, Tryz.ntmps89
  go_wp2_with (go_at_call 28; (with_reducible refine (hPO _).mono ?_); rintro e w1 ⟨rfl, hx⟩)
  go_ret
  exact Ret.mk' (vbool HE.out.symm) (Ext.trans (Ext.auto) hx)
 ·have HE := hid (show beyondB p L = !L.any (fun n => decide (p.half < n)) by unfold beyondB; rw [hp]; rfl)
  rw [hp] at hPO
  clear hp
  have hQ := fun W (h : Ext (w.alloc (.cells (posCells p) 145 (0, 0))) W) => ContainsFunc_any (fun n => decide (p.half < n)) 138 #[.pointer (some ⟨w.heap.size, 0, none⟩)] L _ W (hS.ext ((Ext.alloc (Ext.refl w) (.cells (posCells p) 145 (0, 0))).trans h)) hn beyond1_enters (fun x _ w' hx => beyond1_any p x w.heap.size w' (((h.trans hx).blk _ (blk_lt hM)).trans hM))
  generalize (L.any fun n => decide (p.half < n)) = A at *
  have HS := hid hS
  clear hS
  go_enter Tryz.func89, Tryz.ntmps89
  go_wp2_with (first
   | (go_at_call 28; (with_reducible refine (hPO _).mono ?_); rintro e w1 ⟨rfl, hx⟩)
   | (go_at_call 108; (with_reducible refine (hQ _ hx).mono ?_); rintro e w2 ⟨rfl, hx2⟩))
  go_ret
  exact Ret.mk' (vbool HE.out.symm) (Ext.trans (Ext.auto) (hx.trans hx2))
theorem Fifty_any (p : Pos) (w : World) : Calls Tryz.prog 58 #[.agg (posCells p)] w (Ret (.bool (beyondB p [100])) w) := by
 have hQ := beyond_any p [100] (.slice (some ⟨w.heap.size + 1, 0, none⟩) 1 1) ((w.alloc (.cells (posCells p) 30)).alloc (.cells #[.int .i64 100] 3)) (Sl.lits [100] 1 1 rfl (blk_alloc_at _ _ _ (by simp))) (by simp)
 generalize beyondB p [100] = A at *
 go_enter Tryz.func58, Tryz.ntmps58
 go_wp2_with (go_at_call 89; (with_reducible refine hQ.mono ?_); rintro e w2 ⟨rfl, hx⟩)
 go_ret
 exact Ret.mk' rfl (Ext.trans (Ext.auto) hx)
theorem Seventy_any (p : Pos) (w : World) : Calls Tryz.prog 46 #[.agg (posCells p)] w (Ret (.bool (beyondB p [150])) w) := by
 have hQ := beyond_any p [100, 150] (.slice (some ⟨w.heap.size + 1, 0, none⟩) 2 2) ((w.alloc (.cells (posCells p) 30)).alloc (.cells #[.int .i64 100, .int .i64 150] 3)) (Sl.lits [100, 150] 2 2 rfl (blk_alloc_at _ _ _ (by simp))) (by simp)
 rw [show beyondB p [100, 150] = beyondB p [150] by
  unfold beyondB
  congr 1
  rw [Bool.eq_iff_iff]
  simp
  omega] at hQ
 generalize beyondB p [150] = A at *
 go_enter Tryz.func46, Tryz.ntmps46
 go_wp2_with (go_at_call 89; (with_reducible refine hQ.mono ?_); rintro e w2 ⟨rfl, hx⟩)
 go_ret
 exact Ret.mk' rfl (Ext.trans (Ext.auto) hx)
end Go.Proofs.YtdmgimfgoajmjaaGreatDoor
