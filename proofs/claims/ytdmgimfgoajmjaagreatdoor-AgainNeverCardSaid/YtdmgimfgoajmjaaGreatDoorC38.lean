/- The position behind a move, in the document's answer. -/
import Derived.Test.YtdmgimfgoajmjaaGreatDoorC37
import Derived.Deep.CutBlock
set_option linter.unusedVariables false
set_option linter.unusedSimpArgs false
namespace Go.Proofs.YtdmgimfgoajmjaaGreatDoor
open Go.RowKit
def MSr (p Q : Pos) (m : Mv) (k s : Int) (g6 g7 : Nat) (w W : World) : Prop :=
  Ext w W ∧ blk W w.heap.size = some (.cells (posCells p) 30 (0, 0)) ∧ blk W (w.heap.size + 1) = some (.cells #[.int .i64 m.fr, .int .i64 m.to_, .int .i64 m.be] 51 (0, 0)) ∧
  blk W (w.heap.size + 2) = some (.cells (posCells Pos.zero) 30 (0, 0)) ∧ blk W g6 = some (.cells #[.int .i64 k, .int .i64 s] 26 (0, 0)) ∧ blk W g7 = some (.cells (posCells Q) 30 (0, 0)) ∧
  w.heap.size + 2 < g6 ∧ g6 < g7 ∧ W.cell? ⟨w.heap.size + 1, 0, none⟩ = some (.int .i64 m.fr) ∧ W.cell? ⟨w.heap.size + 1, 1, none⟩ = some (.int .i64 m.to_) ∧ W.cell? ⟨w.heap.size + 1, 2, none⟩ = some (.int .i64 m.be) ∧
  W.cell? ⟨g6, 0, none⟩ = some (.int .i64 k) ∧ W.cell? ⟨g6, 1, none⟩ = some (.int .i64 s) ∧ W.cell? ⟨w.heap.size, 128, none⟩ = some (.int .i64 p.turn) ∧ W.cell? ⟨w.heap.size, 131, none⟩ = some (.int .i64 p.half) ∧ W.cell? ⟨w.heap.size, 132, none⟩ = some (.int .i64 p.full)
theorem MSr.mk' {p Q : Pos} {m : Mv} {k s : Int} {g6 g7 : Nat} {w W : World} (h : Ext w W) (h1 : blk W w.heap.size = some (.cells (posCells p) 30 (0, 0)))
    (h2 : blk W (w.heap.size + 1) = some (.cells #[.int .i64 m.fr, .int .i64 m.to_, .int .i64 m.be] 51 (0, 0))) (h3 : blk W (w.heap.size + 2) = some (.cells (posCells Pos.zero) 30 (0, 0)))
    (h4 : blk W g6 = some (.cells #[.int .i64 k, .int .i64 s] 26 (0, 0))) (h5 : blk W g7 = some (.cells (posCells Q) 30 (0, 0))) (l6 : w.heap.size + 2 < g6) (l7 : g6 < g7) : MSr p Q m k s g6 g7 w W :=
  ⟨h, h1, h2, h3, h4, h5, l6, l7, blk_cell h2 0, blk_cell h2 1, blk_cell h2 2, blk_cell h4 0, blk_cell h4 1, by rw [blk_cell h1]; simp [go_sem], by rw [blk_cell h1]; simp [go_sem], by rw [blk_cell h1]; simp [go_sem]⟩
theorem MSr.ext {p Q : Pos} {m : Mv} {k s : Int} {g6 g7 : Nat} {w W W' : World} (h : MSr p Q m k s g6 g7 w W) (hx : Ext W W') : MSr p Q m k s g6 g7 w W' := by
  obtain ⟨h0, h1, h2, h3, h4, h5, l6, l7, -⟩ := h
  exact MSr.mk' (h0.trans hx) ((hx.blk _ (blk_lt h1)).trans h1) ((hx.blk _ (blk_lt h2)).trans h2) ((hx.blk _ (blk_lt h3)).trans h3) ((hx.blk _ (blk_lt h4)).trans h4) ((hx.blk _ (blk_lt h5)).trans h5) l6 l7
theorem MSr.b7 {p Q : Pos} {m : Mv} {k s : Int} {g6 g7 : Nat} {w W : World} (h : MSr p Q m k s g6 g7 w W) : blk W g7 = some (.cells (posCells Q) 30 (0, 0)) := h.2.2.2.2.2.1
theorem MSr.lt {p Q : Pos} {m : Mv} {k s : Int} {g6 g7 : Nat} {w W : World} (h : MSr p Q m k s g6 g7 w W) : w.heap.size + 2 < g6 ∧ g6 < g7 ∧ g7 < W.heap.size := ⟨h.2.2.2.2.2.2.1, h.2.2.2.2.2.2.2.1, blk_lt h.b7⟩
theorem MSr.set {p Q Q' : Pos} {m : Mv} {k s : Int} {g6 g7 : Nat} {w W : World} (h : MSr p Q m k s g6 g7 w W) {i : Nat} {v : Value} (e : (posCells Q).setIfInBounds i v = posCells Q') : MSr p Q' m k s g6 g7 w (W.setCell ⟨g7, i, none⟩ v) := by
  obtain ⟨h0, h1, h2, h3, h4, h5, l6, l7, -⟩ := h
  refine MSr.mk' (h0.set (by show w.heap.size ≤ g7; omega) _) ?_ ?_ ?_ ?_ ?_ l6 l7
  · rw [blk_setCell_past _ _ _ _ (by show w.heap.size ≠ g7; omega)]; exact h1
  · rw [blk_setCell_past _ _ _ _ (by show w.heap.size + 1 ≠ g7; omega)]; exact h2
  · rw [blk_setCell_past _ _ _ _ (by show w.heap.size + 2 ≠ g7; omega)]; exact h3
  · rw [blk_setCell_past _ _ _ _ (by show g6 ≠ g7; omega)]; exact h4
  · rw [blk_setCell_same _ _ _ _ _ _ h5, e]
theorem MSr.put {p Q : Pos} {m : Mv} {k s x y t : Int} {g6 g7 : Nat} {w W : World} (h : MSr p Q m k s g6 g7 w W) (t0 : 0 ≤ t) (t1 : t < 64) :
    MSr p (Q.put t x y) m k s g6 g7 w ((W.setCell ⟨g7, t.toNat * 2, none⟩ (.int .i64 x)).setCell ⟨g7, t.toNat * 2 + 1, none⟩ (.int .i64 y)) := by
  refine (h.set (pos_kind Q t x t0 t1)).set ?_
  rw [← pos_kind Q t x t0 t1, pos_put Q t x y t0 t1]
theorem stood_basic {p : Pos} {m : Mv} {k s : Int} (f0 : 0 ≤ m.fr) (f1 : m.fr < 64) (t0 : 0 ≤ m.to_) (t1 : m.to_ < 64) (hs : s = 0 ∨ s = 1) :
    stood p m k s = if (rookOf p m k s).2.2 = true then ((basic p m (takesOf p m k) (beOf m k) s).put (rookOf p m k s).1 0 0).put (rookOf p m k s).2.1 4 s else basic p m (takesOf p m k) (beOf m k) s := by
  unfold stood basic
  rw [putAll_one _ _ _ t0 t1, putAll_two _ _ _ f0 f1]
  dsimp only
  split
  · rename_i hr
    have hh := home_bd s
    have hb : (rookOf p m k s).1 = homeOf s + 3 ∧ (rookOf p m k s).2.1 = homeOf s + 1 ∨ (rookOf p m k s).1 = homeOf s - 4 ∧ (rookOf p m k s).2.1 = homeOf s - 1 := by
      unfold rookOf at hr ⊢
      split at hr
      · rename_i h; rw [if_pos h]
        split at hr
        · rename_i h2; rw [if_pos h2]; exact .inl ⟨rfl, rfl⟩
        · rename_i h2; rw [if_neg h2]
          split at hr
          · rename_i h3; rw [if_pos h3]; exact .inr ⟨rfl, rfl⟩
          · cases hr
      · cases hr
    rw [putAll_one _ _ _ (by omega) (by omega), putAll_one _ _ _ (by omega) (by omega)]
  · rfl
theorem takes_bd {p : Pos} {m : Mv} {k : Int} (f0 : 0 ≤ m.fr) (f1 : m.fr < 64) (t0 : 0 ≤ m.to_) (t1 : m.to_ < 64) : -1 ≤ takesOf p m k ∧ takesOf p m k < 64 := by
  have ha : 0 ≤ takesAt p m k ∧ takesAt p m k < 64 := by unfold takesAt; split <;> omega
  unfold takesOf; split <;> omega
theorem ck_not2 : ((List.range 16).all fun (c : Nat) => (List.range 16).all fun (a : Nat) => (List.range 16).all fun (b : Nat) => notI (notI c a) b == notI c (orI (orI 0 a) b)) = true := by decide +kernel
theorem not_two {c : Int} (f t : Int) (c0 : 0 ≤ c) (c1 : c ≤ 15) : notI (notI c (lostOf f)) (lostOf t) = notI c (lostL [f, t]) := by
  obtain ⟨f0, f1⟩ := lostOf_bd2 f
  obtain ⟨t0, t1⟩ := lostOf_bd2 t
  have h1 := (List.all_eq_true.1 ck_not2) c.toNat (List.mem_range.2 (by omega))
  have h2 := (List.all_eq_true.1 h1) (lostOf f).toNat (List.mem_range.2 (by omega))
  have h3 := (List.all_eq_true.1 h2) (lostOf t).toNat (List.mem_range.2 (by omega))
  rw [Int.toNat_of_nonneg c0, Int.toNat_of_nonneg f0, Int.toNat_of_nonneg t0, beq_iff_eq] at h3
  exact h3
theorem upTo_min (a b : Int) : upTo a b = wrap64 (min b a + 1) := by
  unfold upTo
  congr 2
  split <;> omega
set_option maxRecDepth 100000 in
set_option maxHeartbeats 8000000 in
theorem rMove_any (p : Pos) (m : Mv) (w : World) (h : takenE p m = 0) (c0 : 0 ≤ p.castle) (c1 : p.castle ≤ 15) :
    Calls Tryz.prog 77 #[.agg (posCells p), .agg #[.int .i64 m.fr, .int .i64 m.to_, .int .i64 m.be]] w (Ret (.tuple #[.agg (posCells (movedP p m)), .int .i64 0]) w) := by
  have H := can_at h
  have HC := fun w => rCan_any p m w h
  have HT := fun w => rTakes_any p m w h
  have HK := fun w => rCastling_any p m w H c0 c1
  have HE := hid (show movedP p m = madeP p m (p.kind m.fr.toNat) (p.side m.fr.toNat) by
    unfold movedP moveP fixC; rw [if_pos h, if_pos ⟨c0, c1⟩])
  obtain ⟨f0, f1, t0, t1, ne, k0, k1, st, s0, be⟩ := H
  have i1 : isSq m.fr = true := by simp [isSq, f0, f1]
  have i2 : isSq m.to_ = true := by simp [isSq, t0, t1]
  have e1 : (m.fr == m.to_) = false := by simpa using ne
  have f2 : m.fr.toNat < 64 := by omega
  have t2 : m.to_.toNat < 64 := by omega
  have hs : p.side m.fr.toNat = 0 ∨ p.side m.fr.toNat = 1 := by rw [st]; exact s0
  have hbd := takes_bd (p := p) (k := p.kind m.fr.toNat) f0 f1 t0 t1
  have HB := hid (stood_basic (p := p) (k := p.kind m.fr.toNat) (s := p.side m.fr.toNat) f0 f1 t0 t1 hs)
  have HCA := hid (show castlingOf p m = if (rookOf p m (p.kind m.fr.toNat) (p.side m.fr.toNat)).2.2 = true then (if m.to_ = homeOf (p.side m.fr.toNat) + 2 then 1 else -1) else 0 from rfl)
  have HST := hid st
  have HSD := hid hs
  clear h ne k0 k1 st s0 be hs
  go_enter Tryz.func77, Tryz.ntmps77
  go_upto_if 42 with (first
    | (go_at_call 116; (with_reducible refine (rIs8_any _ _).mono ?_); rintro e w1 ⟨rfl, hx⟩; obtain ⟨hxc, hxf, hxb, hxs⟩ := hx.all; (try simp only [World.size_alloc, size_set, size_drew] at hxc hxf hxb hxs); (first | (have h4 := lt4 w.heap.size w1.heap.size (by omega)); (obtain ⟨hz00, hz01, hz02, hz03⟩ := h4) | (have h4 := lt3 w.heap.size w1.heap.size (by omega)); (obtain ⟨hz00, hz01, hz02⟩ := h4) | (have h4 := lt2 w.heap.size w1.heap.size (by omega)); (obtain ⟨hz00, hz01⟩ := h4) | have hz00 := lt1 w.heap.size w1.heap.size (by omega) | skip); (first | (have h4 := lt4 wA.heap.size w1.heap.size (by omega)); (obtain ⟨hz10, hz11, hz12, hz13⟩ := h4) | (have h4 := lt3 wA.heap.size w1.heap.size (by omega)); (obtain ⟨hz10, hz11, hz12⟩ := h4) | (have h4 := lt2 wA.heap.size w1.heap.size (by omega)); (obtain ⟨hz10, hz11⟩ := h4) | have hz10 := lt1 wA.heap.size w1.heap.size (by omega) | skip))
    | (go_at_call 117; (with_reducible refine (HC _).mono ?_); rintro e wA ⟨rfl, hxA⟩; have hxAc := Ext.cell hxA; have hxAb := Ext.blk hxA; have hxAs := Ext.le hxA; (try simp only [World.size_alloc, size_set, size_drew] at hxAc hxAb hxAs); (have hz90 : w.heap.size < wA.heap.size := by omega); (have hz91 : w.heap.size + 1 < wA.heap.size := by omega); (have hz92 : w.heap.size + 2 < wA.heap.size := by omega))
    | (go_at_call 118; (with_reducible refine (HT _).mono ?_); rintro e wB ⟨rfl, hxB⟩))
  have hE0 : Ext (((w.alloc (.cells (posCells p) 30)).alloc (.cells #[.int .i64 m.fr, .int .i64 m.to_, .int .i64 m.be] 51)).alloc (.cells (posCells Pos.zero) 30)) wA := (Ext.auto)
  have hE2 : Ext wA wB := (Ext.auto)
  have hEw : Ext w wB := (Ext.auto)
  have p1 : blk wA w.heap.size = some (.cells (posCells p) 30 (0, 0)) := (hE0.blk _ (by simp; omega)).trans (by simp [go_sem])
  have p2 : blk wA (w.heap.size + 1) = some (.cells #[.int .i64 m.fr, .int .i64 m.to_, .int .i64 m.be] 51 (0, 0)) := (hE0.blk _ (by simp)).trans (by simp [go_sem])
  have p3 : blk wA (w.heap.size + 2) = some (.cells (posCells Pos.zero) 30 (0, 0)) := (hE0.blk _ (by simp)).trans (by simp [go_sem])
  have p4 : blk wB wA.heap.size = some (.cells #[.int .i64 (p.kind m.fr.toNat), .int .i64 (p.side m.fr.toNat)] 26 (0, 0)) := (hxB.blk _ (by simp; omega)).trans (by simp [go_sem])
  have p5 : blk wB (wA.heap.size + 1) = some (.cells (posCells p) 30 (0, 0)) := (hxB.blk _ (by simp)).trans (by simp [go_sem])
  have hM : MSr p p m (p.kind m.fr.toNat) (p.side m.fr.toNat) wA.heap.size (wA.heap.size + 1) w wB := MSr.mk' hEw ((hE2.blk _ hz90).trans p1) ((hE2.blk _ hz91).trans p2) ((hE2.blk _ hz92).trans p3) p4 p5 hz92 (by omega)
  clear hE0 hE2 hEw p1 p2 p3 p4 p5 hxA hxAc hxAb hxAs hxB hx hxc hxf hxb hxs
  generalize wA.heap.size = g at *
  generalize hT : takesOf p m (p.kind m.fr.toNat) = T at *
  obtain ⟨l6, l7, l8⟩ := hM.lt
  have HTK := hid hT
  clear hT
  go_cut [43] (fun s43 wx => MSr p (if 0 ≤ T ∧ T < 64 then p.put T 0 0 else p) m (p.kind m.fr.toNat) (p.side m.fr.toNat) g (g + 1) w wx)
  case first =>
    have fz := blk_froz hM.b7
    by_cases h0 : 0 ≤ T
    · have x2 : T.toNat < 64 := by omega
      have d0 := cell_of_row wB (g + 1) (T.toNat * 2) _ _ _ hM.b7
      have d1 := cell_of_row wB (g + 1) (T.toNat * 2 + 1) _ _ _ hM.b7
      have HM := hid (hM.put (x := 0) (y := 0) h0 hbd.2)
      have HQ := hid (show (if 0 ≤ T ∧ T < 64 then p.put T 0 0 else p) = p.put T 0 0 from if_pos ⟨h0, hbd.2⟩)
      clear hM
      go_wp2
      go_meet
      case rel => rw [HQ.out]; exact HM.out
    · have HQ := hid (show (if 0 ≤ T ∧ T < 64 then p.put T 0 0 else p) = p from if_neg (fun h => h0 h.1))
      have HM := hid hM
      clear hM
      go_wp2
      go_meet
      case rel => rw [HQ.out]; exact HM.out
  case rest =>
    clear hM
    have hM := hcut
    clear hcut
    obtain ⟨Q1, hQ1⟩ : ∃ Q1, Q1 = (if 0 ≤ T ∧ T < 64 then p.put T 0 0 else p) := ⟨_, rfl⟩
    rw [← hQ1] at hM
    have HQ1 := hid hQ1
    clear hQ1
    have hne6 : g ≠ g + 1 := by omega
    have hneq : m.fr.toNat ≠ m.to_.toNat := by intro e; simp at e1; omega
    have HNQ := hid hneq
    clear hneq
    obtain ⟨x0, x1, x2, x3, x4, x5, -, -, x8, x9, x10, x11, x12, x13, x14, x15⟩ := id hM
    have fz := blk_froz x5
    have d0 := cell_of_row wc (g + 1) (m.fr.toNat * 2) _ _ _ x5
    have d1 := cell_of_row wc (g + 1) (m.fr.toNat * 2 + 1) _ _ _ x5
    have lw := blk_lt x5
    have hM2 := hid (hM.put (x := 0) (y := 0) f0 f1)
    clear hM
    go_upto_region 11 with (fail)
    refine world_cut (fun W => MSr p (Q1.put m.fr 0 0) m (p.kind m.fr.toNat) (p.side m.fr.toNat) g (g + 1) w W) hM2.out ?_
    intro W2 hM
    clear x0 x1 x2 x3 x4 x5 x8 x9 x10 x11 x12 x13 x14 x15 fz d0 d1 lw hM2
    obtain ⟨x0, x1, x2, x3, x4, x5, -, -, x8, x9, x10, x11, x12, x13, x14, x15⟩ := id hM
    have fz := blk_froz x5
    have d0 := cell_of_row W2 (g + 1) (m.to_.toNat * 2) _ _ _ x5
    have d1 := cell_of_row W2 (g + 1) (m.to_.toNat * 2 + 1) _ _ _ x5
    have lw := blk_lt x5
    have hM2 := hid (hM.put (x := p.kind m.fr.toNat) (y := p.side m.fr.toNat) t0 t1)
    clear hM
    go_upto_region 12 with (fail)
    refine world_cut (fun W => MSr p ((Q1.put m.fr 0 0).put m.to_ (p.kind m.fr.toNat) (p.side m.fr.toNat)) m (p.kind m.fr.toNat) (p.side m.fr.toNat) g (g + 1) w W) hM2.out ?_
    intro W3 hM
    clear x0 x1 x2 x3 x4 x5 x8 x9 x10 x11 x12 x13 x14 x15 fz d0 d1 lw hM2
    have HBA := hid (show basic p m T (beOf m (p.kind m.fr.toNat)) (p.side m.fr.toNat) = (Q1.put m.fr 0 0).put m.to_ (beOf m (p.kind m.fr.toNat)) (p.side m.fr.toNat) by unfold basic; rw [← HQ1.out])
    obtain ⟨x0, x1, x2, x3, x4, x5, -, -, x8, x9, x10, x11, x12, x13, x14, x15⟩ := id hM
    go_upto_if 59 with (fail)
    clear x0 x1 x2 x3 x4 x5 x8 x9 x10 x11 x12 x13 x14 x15
    go_cut [60] (fun s60 wx => MSr p (basic p m T (beOf m (p.kind m.fr.toNat)) (p.side m.fr.toNat)) m (p.kind m.fr.toNat) (p.side m.fr.toNat) g (g + 1) w wx)
    case first =>
      obtain ⟨x0, x1, x2, x3, x4, x5, -, -, x8, x9, x10, x11, x12, x13, x14, x15⟩ := id hM
      have fz := blk_froz x5
      have d0 := cell_of_row W3 (g + 1) (m.to_.toNat * 2) _ _ _ x5
      have lw := blk_lt x5
      by_cases hbe : m.be = 0
      · have HO := hid (show beOf m (p.kind m.fr.toNat) = p.kind m.fr.toNat by unfold beOf; rw [if_neg (by simp [hbe])])
        have g1 : (m.be != 0) = false := by simp [hbe]
        have HM := hid hM
        clear hbe hM
        go_wp2
        go_meet
        case rel => rw [HBA.out, HO.out]; exact HM.out
      · have HO := hid (show beOf m (p.kind m.fr.toNat) = m.be by unfold beOf; rw [if_pos hbe])
        have g1 : (m.be != 0) = true := by simp [hbe]
        have HM := hid (hM.set (pos_kind _ m.to_ m.be t0 t1))
        have HX := hid (show ({ ((Q1.put m.fr 0 0).put m.to_ (p.kind m.fr.toNat) (p.side m.fr.toNat)) with kind := fun i => if i = m.to_.toNat then m.be else ((Q1.put m.fr 0 0).put m.to_ (p.kind m.fr.toNat) (p.side m.fr.toNat)).kind i } : Pos) = (Q1.put m.fr 0 0).put m.to_ m.be (p.side m.fr.toNat) by
          unfold Pos.put
          simp only [Pos.mk.injEq, and_self, and_true, true_and]
          funext i; split <;> rfl)
        clear hM
        go_wp2
        go_meet
        case rel => rw [HBA.out, HO.out, ← HX.out]; exact HM.out
    case rest =>
      clear hM
      have hM := hcut
      clear hcut
      generalize hk : p.kind m.fr.toNat = k at *
      generalize hsd : p.side m.fr.toNat = sd at *
      have HKK := hid hk
      have HSS := hid hsd
      clear hk hsd
      obtain ⟨Q2, hQ2⟩ : ∃ Q2, Q2 = basic p m T (beOf m k) sd := ⟨_, rfl⟩
      rw [← hQ2] at hM HB
      have HQ2 := hid hQ2
      clear hQ2 HBA HQ1
      obtain ⟨x0, x1, x2, x3, x4, x5, -, -, x8, x9, x10, x11, x12, x13, x14, x15⟩ := id hM
      go_upto_block 0 with (first | (go_at_call 119; (with_reducible refine (HK _).mono ?_); rintro e wD ⟨rfl, hxD⟩))
      have hM := hM.ext hxD
      clear x0 x1 x2 x3 x4 x5 x8 x9 x10 x11 x12 x13 x14 x15
      go_cut [70] (fun s70 wx => MSr p (stood p m k sd) m k sd g (g + 1) w wx)
      case first =>
        have HRK := hid (show (rookOf p m k sd).2.2 = true → k = 6 ∧ m.fr = homeOf sd ∧ ((m.to_ = homeOf sd + 2 ∧ (rookOf p m k sd).1 = m.fr + 3 ∧ (rookOf p m k sd).2.1 = m.fr + 1) ∨ (m.to_ ≠ homeOf sd + 2 ∧ (rookOf p m k sd).1 = m.fr - 4 ∧ (rookOf p m k sd).2.1 = m.fr - 1)) by
          intro hr
          unfold rookOf at hr ⊢
          split at hr
          · rename_i h; rw [if_pos h]
            refine ⟨h.1, h.2, ?_⟩
            split at hr
            · rename_i h2; rw [if_pos h2]; exact .inl ⟨h2, by rw [h.2], by rw [h.2]⟩
            · rename_i h2; rw [if_neg h2]
              split at hr
              · rename_i h3; rw [if_pos h3]; exact .inr ⟨h2, by rw [h.2], by rw [h.2]⟩
              · cases hr
          · cases hr)
        cases hr : (rookOf p m k sd).2.2
        · have hca : castlingOf p m = 0 := by rw [HCA.out, hr, if_neg (by decide)]
          have HS := hid (show stood p m k sd = Q2 by rw [HB.out, hr, if_neg (by decide)])
          obtain ⟨x0, x1, x2, x3, x4, x5, -, -, x8, x9, x10, x11, x12, x13, x14, x15⟩ := id hM
          have HM := hid hM
          clear hM
          go_wp2
          go_meet
          case rel => rw [HS.out]; exact HM.out
        · obtain ⟨hk6, hfr, hcs⟩ := HRK.out hr
          have hh := home_bd sd
          rcases hcs with ⟨q1, q2, q3⟩ | ⟨q1, q2, q3⟩
          · have hca : castlingOf p m = 1 := by rw [HCA.out, hr, if_pos rfl, if_pos q1]
            have HS := hid (show stood p m k sd = (Q2.put (m.fr + 3) 0 0).put (m.fr + 1) 4 sd by rw [HB.out, hr, if_pos rfl, q2, q3])
            have r0 : 0 ≤ m.fr + 3 := by omega
            have r1 : m.fr + 3 < 64 := by omega
            have r2 : (m.fr + 3).toNat < 64 := by omega
            have r3 : 0 ≤ m.fr + 1 := by omega
            have r4 : m.fr + 1 < 64 := by omega
            have r5 : (m.fr + 1).toNat < 64 := by omega
            have HRR := hid (And.intro hr (And.intro q1 hfr))
            clear q1 q2 q3 hr hfr hh hk6
            obtain ⟨x0, x1, x2, x3, x4, x5, -, -, x8, x9, x10, x11, x12, x13, x14, x15⟩ := id hM
            have fz := blk_froz x5
            have d0 := cell_of_row wD (g + 1) ((m.fr + 3).toNat * 2) _ _ _ x5
            have d1 := cell_of_row wD (g + 1) ((m.fr + 3).toNat * 2 + 1) _ _ _ x5
            have lw := blk_lt x5
            have hM2 := hid (hM.put (x := 0) (y := 0) r0 r1)
            clear hM
            go_upto_region 17 with (fail)
            refine world_cut (fun W => MSr p (Q2.put (m.fr + 3) 0 0) m k sd g (g + 1) w W) hM2.out ?_
            intro W5 hM
            clear x0 x1 x2 x3 x4 x5 x8 x9 x10 x11 x12 x13 x14 x15 fz d0 d1 lw hM2
            obtain ⟨x0, x1, x2, x3, x4, x5, -, -, x8, x9, x10, x11, x12, x13, x14, x15⟩ := id hM
            have fz := blk_froz x5
            have d0 := cell_of_row W5 (g + 1) ((m.fr + 1).toNat * 2) _ _ _ x5
            have d1 := cell_of_row W5 (g + 1) ((m.fr + 1).toNat * 2 + 1) _ _ _ x5
            have lw := blk_lt x5
            have hM2 := hid (hM.put (x := 4) (y := sd) r3 r4)
            clear hM
            go_wp2
            go_meet
            case rel => rw [HS.out]; exact hM2.out
          · have hca : castlingOf p m = -1 := by rw [HCA.out, hr, if_pos rfl, if_neg q1]
            have HS := hid (show stood p m k sd = (Q2.put (m.fr - 4) 0 0).put (m.fr - 1) 4 sd by rw [HB.out, hr, if_pos rfl, q2, q3])
            have r0 : 0 ≤ m.fr - 4 := by omega
            have r1 : m.fr - 4 < 64 := by omega
            have r2 : (m.fr - 4).toNat < 64 := by omega
            have r3 : 0 ≤ m.fr - 1 := by omega
            have r4 : m.fr - 1 < 64 := by omega
            have r5 : (m.fr - 1).toNat < 64 := by omega
            have HRR := hid (And.intro hr (And.intro q1 hfr))
            clear q1 q2 q3 hr hfr hh hk6
            obtain ⟨x0, x1, x2, x3, x4, x5, -, -, x8, x9, x10, x11, x12, x13, x14, x15⟩ := id hM
            have fz := blk_froz x5
            have d0 := cell_of_row wD (g + 1) ((m.fr - 4).toNat * 2) _ _ _ x5
            have d1 := cell_of_row wD (g + 1) ((m.fr - 4).toNat * 2 + 1) _ _ _ x5
            have lw := blk_lt x5
            have hM2 := hid (hM.put (x := 0) (y := 0) r0 r1)
            clear hM
            go_upto_region 20 with (fail)
            refine world_cut (fun W => MSr p (Q2.put (m.fr - 4) 0 0) m k sd g (g + 1) w W) hM2.out ?_
            intro W5 hM
            clear x0 x1 x2 x3 x4 x5 x8 x9 x10 x11 x12 x13 x14 x15 fz d0 d1 lw hM2
            obtain ⟨x0, x1, x2, x3, x4, x5, -, -, x8, x9, x10, x11, x12, x13, x14, x15⟩ := id hM
            have fz := blk_froz x5
            have er : (m.fr - 1).toNat = m.fr.toNat - 1 := by omega
            have d0 := cell_of_row W5 (g + 1) ((m.fr.toNat - 1) * 2) _ _ _ x5
            have d1 := cell_of_row W5 (g + 1) ((m.fr.toNat - 1) * 2 + 1) _ _ _ x5
            have lw := blk_lt x5
            have hM3 := hM.put (x := 4) (y := sd) r3 r4
            rw [er] at hM3 r5
            have hM2 := hid hM3
            clear hM3 er
            clear hM
            go_wp2
            go_meet
            case rel => rw [HS.out]; exact hM2.out
      case rest =>
        clear hM
        have hM := hcut
        clear hcut
        clear HQ2 HB
        obtain ⟨Q3, hQ3⟩ : ∃ Q3, Q3 = stood p m k sd := ⟨_, rfl⟩
        rw [← hQ3] at hM
        have HQ3 := hid hQ3
        clear hQ3
        obtain ⟨x0, x1, x2, x3, x4, x5, -, -, x8, x9, x10, x11, x12, x13, x14, x15⟩ := id hM
        have lw := blk_lt x5
        go_upto_region 22 with (first | (go_at_call 112; (with_reducible refine (rOther_any _ _).mono ?_); rintro e wE ⟨rfl, hxE⟩; have y5 := (hxE.blk _ lw).trans x5; have fzE := blk_froz y5; have dE := cell_of_row wE (g + 1) 128 _ _ _ y5; have lwE := blk_lt y5))
        have hM2 := hid ((hM.ext hxE).set (pos_turn Q3 (otherOf p.turn)))
        clear y5 fzE dE lwE hM lw
        clear x0 x1 x2 x3 x4 x5 x8 x9 x10 x11 x12 x13 x14 x15
        refine world_cut (fun W => MSr p { Q3 with turn := otherOf p.turn } m k sd g (g + 1) w W) hM2.out ?_
        clear hM2 hxE
        intro W6 hM
        obtain ⟨a0, a1⟩ := lostOf_bd2 m.fr
        obtain ⟨a2, a3⟩ := lostOf_bd2 m.to_
        obtain ⟨n0, n1, -⟩ := not_at c0 c1 a0 a1
        refine wp_region_split 10 (MSr p { Q3 with turn := otherOf p.turn } m k sd g (g + 1) w) (by kernel_rfl) (by kernel_rfl) (hM.ext (Ext.drew (Ext.refl _))) (fun hH => ?_)
        simp only [List.take_succ_cons, List.take_zero, List.drop_succ_cons, List.drop_zero]
        refine hTk (i := 0) (v := ?_) (hy := Or.inl ⟨by rfl, ?_⟩) (h := ?_); rotate_left 1; (intro w0 hS; (try dsimp only at hS); unfold MSr at hS; go_simp; try with_reducible rfl); (try go_frame)
        refine hTk (i := 2) (v := ?_) (hy := Or.inl ⟨by rfl, ?_⟩) (h := ?_); rotate_left 1; (intro w0 hS; (try dsimp only at hS); unfold MSr at hS; go_simp; try with_reducible rfl); (try go_frame)
        refine hTk (i := 3) (v := ?_) (hy := Or.inl ⟨by rfl, ?_⟩) (h := ?_); rotate_left 1; (intro w0 hS; (try dsimp only at hS); unfold MSr at hS; go_simp; try with_reducible rfl); (try go_frame)
        refine hTk (i := 6) (v := ?_) (hy := Or.inl ⟨by rfl, ?_⟩) (h := ?_); rotate_left 1; (intro w0 hS; (try dsimp only at hS); unfold MSr at hS; go_simp; try with_reducible rfl); (try go_frame)
        refine hTk (i := 7) (v := ?_) (hy := Or.inl ⟨by rfl, ?_⟩) (h := ?_); rotate_left 1; (intro w0 hS; (try dsimp only at hS); unfold MSr at hS; go_simp; try with_reducible rfl); (try go_frame)
        refine wpAnyH_ready (rs := [1]) (by kernel_rfl) (by simp) ?_; refine hCo (h := fun K hK => ?_) (hs := AllReadyH.nil); go_simp
        refine (rCas8_any p _ c0 c1).mono ?_
        rintro e w8 ⟨rfl, hx8⟩
        refine hK.out _ _ (hH.ext (by first | assumption | exact Ext.alloc (Ext.refl _) _)) (fun hH => ?_); clear hK; (try go_frame)
        refine wpAnyH_ready (rs := [4]) (by kernel_rfl) (by simp) ?_; refine hCo (h := fun K hK => ?_) (hs := AllReadyH.nil); go_simp
        refine (rLost_any m.fr _).mono ?_
        rintro e w9 ⟨rfl, hx9⟩
        refine hK.out _ _ (hH.ext (by first | assumption | exact Ext.alloc (Ext.refl _) _)) (fun hH => ?_); clear hK; (try go_frame)
        refine wpAnyH_ready (rs := [5]) (by kernel_rfl) (by simp) ?_; refine hCo (h := fun K hK => ?_) (hs := AllReadyH.nil); go_simp
        refine (rWithout_any p.castle (lostOf m.fr) _ c0 c1 a0 a1).mono ?_
        rintro e w10 ⟨rfl, hx10⟩
        refine hK.out _ _ (hH.ext (by first | assumption | exact Ext.alloc (Ext.refl _) _)) (fun hH => ?_); clear hK; (try go_frame)
        refine wpAnyH_ready (rs := [8]) (by kernel_rfl) (by simp) ?_; refine hCo (h := fun K hK => ?_) (hs := AllReadyH.nil); go_simp
        refine (rLost_any m.to_ _).mono ?_
        rintro e w11 ⟨rfl, hx11⟩
        refine hK.out _ _ (hH.ext (by first | assumption | exact Ext.alloc (Ext.refl _) _)) (fun hH => ?_); clear hK; (try go_frame)
        refine wpAnyH_ready (rs := [9]) (by kernel_rfl) (by simp) ?_; refine hCo (h := fun K hK => ?_) (hs := AllReadyH.nil); go_simp
        refine (rWithout_any (notI p.castle (lostOf m.fr)) (lostOf m.to_) _ n0 n1 a2 a3).mono ?_
        rintro e w12 ⟨rfl, hx12⟩
        refine hK.out _ _ (hH.ext (by first | assumption | exact Ext.alloc (Ext.refl _) _)) (fun hH => ?_); clear hK; (try go_frame)
        refine wpAnyH_done (by kernel_rfl) ?_ _
        simp only [splitQ]
        obtain ⟨x0, x1, x2, x3, x4, x5, -, -, x8, x9, x10, x11, x12, x13, x14, x15⟩ := id hH
        have fz := blk_froz x5
        have d0 := cell_of_row _ (g + 1) 129 _ _ _ x5
        have lw := blk_lt x5
        have hM2 := hid (hH.set (pos_castle { Q3 with turn := otherOf p.turn } (notI (notI p.castle (lostOf m.fr)) (lostOf m.to_))))
        clear hH hM
        go_upto_region 23 with (fail)
        clear x0 x1 x2 x3 x4 x5 x8 x9 x10 x11 x12 x13 x14 x15
        refine world_cut (fun W => MSr p { Q3 with turn := otherOf p.turn, castle := notI p.castle (lostL [m.fr, m.to_]) } m k sd g (g + 1) w W) (by rw [← not_two m.fr m.to_ c0 c1]; exact hM2.out) ?_
        clear hM2 fz d0 lw
        intro W7 hM
        obtain ⟨x0, x1, x2, x3, x4, x5, -, -, x8, x9, x10, x11, x12, x13, x14, x15⟩ := id hM
        have fz := blk_froz x5
        have d0 := cell_of_row _ (g + 1) 130 _ _ _ x5
        have lw := blk_lt x5
        have hM2 := hid (hM.set (pos_over { Q3 with turn := otherOf p.turn, castle := notI p.castle (lostL [m.fr, m.to_]) } (-1)))
        clear hM
        go_upto_region 24 with (fail)
        clear x0 x1 x2 x3 x4 x5 x8 x9 x10 x11 x12 x13 x14 x15
        refine world_cut (fun W => MSr p { Q3 with turn := otherOf p.turn, castle := notI p.castle (lostL [m.fr, m.to_]), over := -1 } m k sd g (g + 1) w W) hM2.out ?_
        clear hM2 fz d0 lw
        intro W8 hM
        obtain ⟨x0, x1, x2, x3, x4, x5, -, -, x8, x9, x10, x11, x12, x13, x14, x15⟩ := id hM
        go_upto_if 120 with (first | (go_at_call 123; (with_reducible refine (rLong_any m k sd _ f0 f1 t0 t1 HSD.out).mono ?_); rintro e wF ⟨rfl, hxF⟩))
        have hM := hM.ext hxF
        clear x0 x1 x2 x3 x4 x5 x8 x9 x10 x11 x12 x13 x14 x15
        go_cut [121] (fun s121 wx => MSr p { Q3 with turn := otherOf p.turn, castle := notI p.castle (lostL [m.fr, m.to_]), over := overOf m k sd } m k sd g (g + 1) w wx)
        case first =>
          have hq : (m.fr + m.to_).tdiv 2 = (m.fr + m.to_) / 2 := by rw [Int.tdiv_eq_ediv_of_nonneg (by omega)]
          cases hl : longB m k sd
          · have HO := hid (show overOf m k sd = -1 by unfold overOf; rw [hl]; rfl)
            have HM := hid hM
            clear hM
            go_wp2
            go_meet
            case rel => rw [HO.out]; exact HM.out
          · have HO := hid (show overOf m k sd = (m.fr + m.to_) / 2 by unfold overOf; rw [hl]; rfl)
            obtain ⟨x0, x1, x2, x3, x4, x5, -, -, x8, x9, x10, x11, x12, x13, x14, x15⟩ := id hM
            have fz := blk_froz x5
            have d0 := cell_of_row _ (g + 1) 130 _ _ _ x5
            have lw := blk_lt x5
            have HM := hid (hM.set (pos_over { Q3 with turn := otherOf p.turn, castle := notI p.castle (lostL [m.fr, m.to_]), over := -1 } ((m.fr + m.to_) / 2)))
            clear hM
            go_wp2
            go_meet
            case rel => rw [HO.out]; exact HM.out
        case rest =>
          clear hM
          have hM := hcut
          clear hcut
          go_upto_region 26 with (fail)
          go_cut [132] (fun s132 wx => MSr p { Q3 with turn := otherOf p.turn, castle := notI p.castle (lostL [m.fr, m.to_]), over := overOf m k sd, half := upTo 1023 p.half } m k sd g (g + 1) w wx)
          case first =>
            have HU := hid (upTo_min 1023 p.half)
            obtain ⟨x0, x1, x2, x3, x4, x5, -, -, x8, x9, x10, x11, x12, x13, x14, x15⟩ := id hM
            have fz := blk_froz x5
            have d0 := cell_of_row _ (g + 1) 131 _ _ _ x5
            have lw := blk_lt x5
            have HM := hid (hM.set (pos_half { Q3 with turn := otherOf p.turn, castle := notI p.castle (lostL [m.fr, m.to_]), over := overOf m k sd } (wrap64 (min p.half 1023 + 1))))
            clear hM
            go_wp2
            go_meet
            case rel => rw [HU.out]; exact HM.out
          case rest =>
            clear hM
            have hM := hcut
            clear hcut
            go_upto_region 27 with (fail)
            go_cut [139] (fun s139 wx => s139 = .bool (!(T == -1 && k != 1)) ∧ MSr p { Q3 with turn := otherOf p.turn, castle := notI p.castle (lostL [m.fr, m.to_]), over := overOf m k sd, half := upTo 1023 p.half } m k sd g (g + 1) w wx)
            case first =>
              obtain ⟨x0, x1, x2, x3, x4, x5, -, -, x8, x9, x10, x11, x12, x13, x14, x15⟩ := id hM
              have HM := hid hM
              clear hM
              by_cases hk1 : k = 1
              · have HV := hid (show (!(T == -1 && k != 1)) = true by simp [hk1])
                have q1 : (k == 1) = true := by simp [hk1]
                clear hk1
                go_wp2
                go_meet
                case rel => exact ⟨by rw [HV.out], HM.out⟩
              · have q1 : (k == 1) = false := by simpa using hk1
                by_cases ht : 0 ≤ T
                · have HV := hid (show (!(T == -1 && k != 1)) = true by simp; omega)
                  clear hk1
                  go_wp2
                  go_meet
                  case rel => exact ⟨by rw [HV.out], HM.out⟩
                · have HV := hid (show (!(T == -1 && k != 1)) = false by simp; omega)
                  clear hk1
                  go_wp2
                  go_meet
                  case rel => exact ⟨by rw [HV.out], HM.out⟩
            case rest =>
              clear hM
              obtain ⟨rfl, hM⟩ := hcut
              have HHF := hid (show halfOf p m k = if (T == -1 && k != 1) = true then upTo 1023 p.half else 0 by unfold halfOf quietB; rw [HTK.out])
              go_upto_if 139 with (fail)
              go_cut [140] (fun s140 wx => MSr p { Q3 with turn := otherOf p.turn, castle := notI p.castle (lostL [m.fr, m.to_]), over := overOf m k sd, half := halfOf p m k } m k sd g (g + 1) w wx)
              case first =>
                obtain ⟨x0, x1, x2, x3, x4, x5, -, -, x8, x9, x10, x11, x12, x13, x14, x15⟩ := id hM
                have fz := blk_froz x5
                have d0 := cell_of_row _ (g + 1) 131 _ _ _ x5
                have lw := blk_lt x5
                cases hq : (T == -1 && k != 1)
                · have HO := hid (show halfOf p m k = 0 by rw [HHF.out, hq]; rfl)
                  have HM := hid (hM.set (pos_half { Q3 with turn := otherOf p.turn, castle := notI p.castle (lostL [m.fr, m.to_]), over := overOf m k sd, half := upTo 1023 p.half } 0))
                  clear hM hq
                  go_wp2
                  go_meet
                  case rel => rw [HO.out]; exact HM.out
                · have HO := hid (show halfOf p m k = upTo 1023 p.half by rw [HHF.out, hq]; rfl)
                  have HM := hid hM
                  clear hM hq
                  go_wp2
                  go_meet
                  case rel => rw [HO.out]; exact HM.out
              case rest =>
                clear hM
                have hM := hcut
                clear hcut
                obtain ⟨x0, x1, x2, x3, x4, x5, -, -, x8, x9, x10, x11, x12, x13, x14, x15⟩ := id hM
                go_upto_if 143 with (fail)
                clear x0 x1 x2 x3 x4 x5 x8 x9 x10 x11 x12 x13 x14 x15
                go_cut [144] (fun s144 wx => MSr p { Q3 with turn := otherOf p.turn, castle := notI p.castle (lostL [m.fr, m.to_]), over := overOf m k sd, half := halfOf p m k, full := fullOf p } m k sd g (g + 1) w wx)
                case first =>
                  obtain ⟨x0, x1, x2, x3, x4, x5, -, -, x8, x9, x10, x11, x12, x13, x14, x15⟩ := id hM
                  have fz := blk_froz x5
                  have d0 := cell_of_row _ (g + 1) 132 _ _ _ x5
                  have lw := blk_lt x5
                  by_cases ht : p.turn = 1
                  · have HO := hid (show fullOf p = wrap64 (min p.full 16383 + 1) by unfold fullOf; rw [if_pos ht, upTo_min])
                    have HM := hid (hM.set (pos_full { Q3 with turn := otherOf p.turn, castle := notI p.castle (lostL [m.fr, m.to_]), over := overOf m k sd, half := halfOf p m k } (wrap64 (min p.full 16383 + 1))))
                    have q1 : (p.turn == 1) = true := by simp [ht]
                    clear hM ht
                    go_wp2
                    go_meet
                    case rel => rw [HO.out]; exact HM.out
                  · have HO := hid (show fullOf p = Q3.full by unfold fullOf; rw [if_neg ht, HQ3.out, (stood_rest p m k sd).2.2])
                    have HM := hid hM
                    have q1 : (p.turn == 1) = false := by simp [ht]
                    clear hM ht
                    go_wp2
                    go_meet
                    case rel => rw [HO.out]; exact HM.out
                case rest =>
                  clear hM
                  have hM := hcut
                  clear hcut
                  have HF := hid (show movedP p m = { Q3 with turn := otherOf p.turn, castle := notI p.castle (lostL [m.fr, m.to_]), over := overOf m k sd, half := halfOf p m k, full := fullOf p } by rw [HE.out, HQ3.out]; rfl)
                  obtain ⟨x0, x1, x2, x3, x4, x5, -, -, x8, x9, x10, x11, x12, x13, x14, x15⟩ := id hM
                  have x3' : blk _ (w.heap.size + 1 + 1) = some (.cells (posCells Pos.zero) 30 (0, 0)) := x3
                  go_wp2
                  exact bodyPost_ret (v := .tuple #[.agg (posCells (movedP p m)), .int .i64 0]) (results_cell2 rfl rfl rfl (by rw [HF.out]; exact load_pos (setRow_blk x3'))) rfl ⟨rfl, x0.setRow (by omega) _⟩
end Go.Proofs.YtdmgimfgoajmjaaGreatDoor
