/- The squares to which a king castles. -/
import Derived.Test.YtdmgimfgoajmjaaGreatDoorC22
set_option linter.unusedVariables false
set_option linter.unusedSimpArgs false
namespace Go.Proofs.YtdmgimfgoajmjaaGreatDoor
open Go.RowKit
def shortB (p : Pos) (s : Int) : Bool := p.castle / (if s = 1 then 4 else 1) % 2 == 1 && standsB p 4 s (homeOf s + 3) && freeB p [homeOf s + 1, homeOf s + 2]
def farB (p : Pos) (s : Int) : Bool := p.castle / (if s = 1 then 8 else 2) % 2 == 1 && standsB p 4 s (homeOf s - 4) && freeB p [homeOf s - 1, homeOf s - 2, homeOf s - 3]
def castlingsL (p : Pos) (a k s : Int) : List Int :=
  if k = 6 ∧ a = homeOf s ∧ 0 ≤ p.castle ∧ p.castle ≤ 15 then (if shortB p s = true then [homeOf s + 2] else []) ++ (if farB p s = true then [homeOf s - 2] else []) else []
def MSc (p : Pos) (a k s : Int) (b g i j : Nat) (w W : World) : Prop :=
  blk W b = some (.cells (moverCells p a k s) 219 (0, 0)) ∧ blk W g = some (.cells #[.int .i64 4, .int .i64 s] 26 (0, 0)) ∧ Ext w W ∧
  W.cell? ⟨g, 0, none⟩ = some (.int .i64 4) ∧ W.cell? ⟨g, 1, none⟩ = some (.int .i64 s) ∧
  W.cell? ⟨b, i * 2, none⟩ = some (.int .i64 (p.kind i)) ∧ W.cell? ⟨b, i * 2 + 1, none⟩ = some (.int .i64 (p.side i)) ∧ W.cell? ⟨b, j * 2, none⟩ = some (.int .i64 (p.kind j)) ∧ W.cell? ⟨b, j * 2 + 1, none⟩ = some (.int .i64 (p.side j))
theorem MSc.mk' {p : Pos} {a k s : Int} {b g i j : Nat} {w W : World} (hi : i < 64) (hj : j < 64) (h1 : blk W b = some (.cells (moverCells p a k s) 219 (0, 0))) (h2 : blk W g = some (.cells #[.int .i64 4, .int .i64 s] 26 (0, 0))) (h3 : Ext w W) : MSc p a k s b g i j w W :=
  ⟨h1, h2, h3, blk_cell h2 0, blk_cell h2 1, mc_kind h1 _ hi, mc_side h1 _ hi, mc_kind h1 _ hj, mc_side h1 _ hj⟩
theorem MSc.ext {p : Pos} {a k s : Int} {b g i j : Nat} {w W W' : World} (hi : i < 64) (hj : j < 64) (h : MSc p a k s b g i j w W) (hx : Ext W W') : MSc p a k s b g i j w W' :=
  MSc.mk' hi hj ((hx.blk _ (blk_lt h.1)).trans h.1) ((hx.blk _ (blk_lt h.2.1)).trans h.2.1) (h.2.2.1.trans hx)
theorem MSc.x {p : Pos} {a k s : Int} {b g i j : Nat} {w W : World} (h : MSc p a k s b g i j w W) : Ext w W := h.2.2.1
theorem MSc.chg {p : Pos} {a k s : Int} {b g i j : Nat} {w W W' : World} (hi : i < 64) (hj : j < 64) (h : MSc p a k s b g i j w W) (hb : b < w.heap.size + 2) (hg : g < w.heap.size + 2) {r : Option Nat} (hx : W.grownBy W' r) (hr : ∀ x, r = some x → w.heap.size + 2 ≤ x) : MSc p a k s b g i j w W' :=
  MSc.mk' hi hj ((hx.block _ (blk_lt h.1) (fun e => by have := hr b e.symm; omega)).trans h.1) ((hx.block _ (blk_lt h.2.1) (fun e => by have := hr g e.symm; omega)).trans h.2.1) (Below.grown h.2.2.1 hx h.2.2.1.le fun x hx' => by have := hr x hx'; omega)
theorem alloc_ints3 (w : World) (x y z : Int) (t : TypeId) : blk (w.alloc (.cells #[.int .i64 x, .int .i64 y, .int .i64 z] t (0, 0))) w.heap.size = some (.cells (ints [x, y, z]).toArray t (0, 0)) := blk_alloc_at _ _ _ rfl
theorem alloc_ints3d (w : World) (x y z : Int) (t : TypeId) : blk (w.alloc (.cells #[.int .i64 x, .int .i64 y, .int .i64 z] t (0, 0))).drew w.heap.size = some (.cells (ints [x, y, z]).toArray t (0, 0)) := blk_alloc_at _ _ _ rfl
set_option maxRecDepth 100000 in
set_option maxHeartbeats 4000000 in
theorem castlings_no (p : Pos) (a k s : Int) (w : World) (hs : s = 0 ∨ s = 1) (h : ¬ (k = 6 ∧ a = homeOf s ∧ 0 ≤ p.castle ∧ p.castle ≤ 15)) : Calls Tryz.prog 204 #[.agg (moverCells p a k s)] w (RetInts (castlingsL p a k s) w) := by
  have E := hid (show castlingsL p a k s = [] by unfold castlingsL; rw [if_neg h])
  have hd : (k != 6) = true ∨ ((k != 6) = false ∧ (a != homeOf s) = true) ∨ ((k != 6) = false ∧ (a != homeOf s) = false ∧ p.castle < 0) ∨ ((k != 6) = false ∧ (a != homeOf s) = false ∧ ¬ p.castle < 0 ∧ 15 < p.castle) := by
    by_cases h1 : k = 6
    · by_cases h2 : a = homeOf s
      · by_cases h3 : p.castle < 0
        · exact .inr (.inr (.inl ⟨by simp [h1], by simp [h2], h3⟩))
        · exact .inr (.inr (.inr ⟨by simp [h1], by simp [h2], h3, by omega⟩))
      · exact .inr (.inl ⟨by simp [h1], by simp [h2]⟩)
    · exact .inl (by simp [h1])
  clear h
  rcases hs with rfl | rfl
  all_goals
    simp only [homeOf, if_true, if_false, reduceIte, Int.reduceEq] at hd
    rcases hd with g1 | ⟨g1, g2⟩ | ⟨g1, g2, g3⟩ | ⟨g1, g2, g3, g4⟩
    all_goals
      go_enter Tryz.func204, Tryz.ntmps204
      go_wp2
      go_ret
      rw [E.out]
      exact RetInts.nil _ _ (Ext.auto)
def MSc0 (p : Pos) (w W : World) : Prop :=
  blk W w.heap.size = some (.cells (moverCells p 4 6 0) 219 (0, 0)) ∧ blk W (w.heap.size + 1) = some (.cells #[.int .i64 4, .int .i64 0] 26 (0, 0)) ∧ Ext w W ∧
  W.cell? ⟨w.heap.size + 1, 0, none⟩ = some (.int .i64 4) ∧ W.cell? ⟨w.heap.size + 1, 1, none⟩ = some (.int .i64 0) ∧
  W.cell? ⟨w.heap.size, 14, none⟩ = some (.int .i64 (p.kind 7)) ∧ W.cell? ⟨w.heap.size, 14 + 1, none⟩ = some (.int .i64 (p.side 7)) ∧ W.cell? ⟨w.heap.size, 0, none⟩ = some (.int .i64 (p.kind 0)) ∧ W.cell? ⟨w.heap.size, 0 + 1, none⟩ = some (.int .i64 (p.side 0)) ∧
  W.cell? ⟨w.heap.size, 14 + 1, none⟩ = some (.int .i64 (p.side 7)) ∧ W.cell? ⟨w.heap.size, 15, none⟩ = some (.int .i64 (p.side 7)) ∧ W.cell? ⟨w.heap.size, 1, none⟩ = some (.int .i64 (p.side 0))
theorem MSc0.mk' {p : Pos} {w W : World} (h1 : blk W w.heap.size = some (.cells (moverCells p 4 6 0) 219 (0, 0))) (h2 : blk W (w.heap.size + 1) = some (.cells #[.int .i64 4, .int .i64 0] 26 (0, 0))) (h3 : Ext w W) : MSc0 p w W :=
  ⟨h1, h2, h3, blk_cell h2 0, blk_cell h2 1, mc_kind h1 7 (by decide), mc_side h1 7 (by decide), mc_kind h1 0 (by decide), mc_side h1 0 (by decide), mc_side h1 7 (by decide), mc_side h1 7 (by decide), mc_side h1 0 (by decide)⟩
theorem MSc0.ext {p : Pos} {w W W' : World} (h : MSc0 p w W) (hx : Ext W W') : MSc0 p w W' :=
  MSc0.mk' ((hx.blk _ (blk_lt h.1)).trans h.1) ((hx.blk _ (blk_lt h.2.1)).trans h.2.1) (h.2.2.1.trans hx)
theorem MSc0.x {p : Pos} {w W : World} (h : MSc0 p w W) : Ext w W := h.2.2.1
theorem MSc0.sz {p : Pos} {w W : World} (h : MSc0 p w W) : w.heap.size + 2 ≤ W.heap.size := blk_lt h.2.1
theorem MSc0.grown {p : Pos} {w W W' : World} (h : MSc0 p w W) {v : Value} {n : Nat} {xs : List Value} (ho : W.ownsRow (w.heap.size + 2) 3 1 v n xs) (hx : W.grownBy W' v.ownBlock) : MSc0 p w W' :=
  have hr : ∀ x, v.ownBlock = some x → w.heap.size + 2 ≤ x := fun x hx => (ho.lt x hx).1
  MSc0.mk' ((hx.block _ (blk_lt h.1) (fun e => by have := hr _ e.symm; omega)).trans h.1) ((hx.block _ (blk_lt h.2.1) (fun e => by have := hr _ e.symm; omega)).trans h.2.1) (Below.grown h.2.2.1 hx h.2.2.1.le fun x hx' => by have := hr x hx'; omega)
set_option maxRecDepth 100000 in
set_option maxHeartbeats 4000000 in
theorem castlings_yes0 (p : Pos) (w : World) (p0 : 0 ≤ p.castle) (p1 : p.castle ≤ 15) : Calls Tryz.prog 204 #[.agg (moverCells p 4 6 0)] w (RetInts ((if shortB p 0 = true then [4 + 2] else []) ++ (if farB p 0 = true then [4 - 2] else [])) w) := by
  have HS := hid (show shortB p 0 = (p.castle / 1 % 2 == 1 && (p.kind 7 == 4 && p.side 7 == 0) && freeB p [4 + 1, 4 + 2]) from rfl)
  have HF := hid (show farB p 0 = (p.castle / 2 % 2 == 1 && (p.kind 0 == 4 && p.side 0 == 0) && freeB p [4 - 1, 4 - 2, 4 - 3]) from rfl)
  have z0 : IntKind.i64.wrap 0 = 0 := by decide
  have z1 : IntKind.i64.wrap 1 = 1 := by decide
  have z2 : IntKind.i64.wrap 2 = 2 := by decide
  have z3 : IntKind.i64.wrap 3 = 3 := by decide
  have z5 : IntKind.i64.wrap 5 = 5 := by decide
  have z6 : IntKind.i64.wrap 6 = 6 := by decide
  have z7 : IntKind.i64.wrap 7 = 7 := by decide
  generalize hL1 : (if shortB p 0 = true then [(4 : Int) + 2] else []) = L1 at *
  generalize hL2 : (if farB p 0 = true then [(4 : Int) - 2] else []) = L2 at *
  generalize hB1 : shortB p 0 = B1 at *
  generalize hB2 : farB p 0 = B2 at *
  have HL1 := hid hL1
  have HL2 := hid hL2
  have hlen : L1.length ≤ 1 := by rw [← hL1]; split <;> simp
  clear hB1 hB2 hL1 hL2
  have y0 : 0 ≤ p.castle / 4 := by omega
  have y1 : p.castle / 4 ≤ 15 := by omega
  go_enter Tryz.func204, Tryz.ntmps204
  go_upto_region 6 with (fail)
  have hM0 : MSc0 p w ((w.alloc (.cells (moverCells p 4 6 0) 219 (0, 0))).alloc (.cells #[.int .i64 4, .int .i64 0] 26 (0, 0))) := MSc0.mk' (by simp [go_sem]) (blk_alloc_at _ _ _ (by simp)) (Ext.auto)
  refine world_cut (fun W => MSc0 p w W) hM0 ?_
  clear hM0
  intro W hM
  go_cut [66] (fun s66 wx => s66 = .bool B1 ∧ MSc0 p w wx)
  case first =>
    cases hb : (p.castle % 2 != 0)
    · have HO := hid (show B1 = false by rw [HS.out, show (p.castle / 1 % 2 == 1) = false by simp at hb ⊢; omega]; rfl)
      clear HS
      refine wp_region_held_drew (S := MSc0 p w) (by kernel_rfl) (hM.ext (Ext.drew (Ext.refl _))) (fun hH => ?_)
      refine hTk (i := 0) (v := ?_) (hy := Or.inl ⟨by rfl, ?_⟩) (h := ?_); rotate_left 1; (intro w0 hS; (try dsimp only at hS); unfold MSc0 at hS; go_simp; try with_reducible rfl); (try go_frame)
      refine hTk (i := 1) (v := ?_) (hy := Or.inl ⟨by rfl, ?_⟩) (h := ?_); rotate_left 1; (intro w0 hS; (try dsimp only at hS); unfold MSc0 at hS; go_simp; try with_reducible rfl); (try go_frame)
      refine hTk (i := 2) (v := ?_) (hy := Or.inl ⟨by rfl, ?_⟩) (h := ?_); rotate_left 1; (intro w0 hS; (try dsimp only at hS); unfold MSc0 at hS; go_simp; try with_reducible rfl); (try go_frame)
      refine hTk (i := 3) (v := ?_) (hy := Or.inl ⟨by rfl, ?_⟩) (h := ?_); rotate_left 1; (intro w0 hS; (try dsimp only at hS); unfold MSc0 at hS; go_simp; try with_reducible rfl); (try go_frame)
      refine hTk (i := 4) (v := undef) (hy := Or.inr ⟨by rfl, rfl⟩) (h := ?_); (try go_frame)
      refine hTk (i := 5) (v := undef) (hy := Or.inr ⟨by rfl, rfl⟩) (h := ?_); (try go_frame)
      refine hTk (i := 6) (v := undef) (hy := Or.inr ⟨by rfl, rfl⟩) (h := ?_); (try go_frame)
      refine hTk (i := 7) (v := undef) (hy := Or.inr ⟨by rfl, rfl⟩) (h := ?_); (try go_frame)
      refine hTk (i := 8) (v := undef) (hy := Or.inr ⟨by rfl, rfl⟩) (h := ?_); (try go_frame)
      refine hTk (i := 9) (v := undef) (hy := Or.inr ⟨by rfl, rfl⟩) (h := ?_); (try go_frame)
      refine hTk (i := 10) (v := undef) (hy := Or.inr ⟨by rfl, rfl⟩) (h := ?_); (try go_frame)
      refine hTk (i := 11) (v := undef) (hy := Or.inr ⟨by rfl, rfl⟩) (h := ?_); (try go_frame)
      refine hTk (i := 12) (v := ?_) (hy := Or.inl ⟨by rfl, ?_⟩) (h := ?_); rotate_left 1; (intro w0 hS; (try dsimp only at hS); unfold MSc0 at hS; go_simp; try with_reducible rfl); (try go_frame)
      refine hTk (i := 13) (v := ?_) (hy := Or.inl ⟨by rfl, ?_⟩) (h := ?_); rotate_left 1; (intro w0 hS; (try dsimp only at hS); unfold MSc0 at hS; go_simp; try with_reducible rfl); (try go_frame)
      refine hTk (i := 14) (v := undef) (hy := Or.inr ⟨by rfl, rfl⟩) (h := ?_); (try go_frame)
      refine hTk (i := 15) (v := undef) (hy := Or.inr ⟨by rfl, rfl⟩) (h := ?_); (try go_frame)
      refine hTk (i := 16) (v := undef) (hy := Or.inr ⟨by rfl, rfl⟩) (h := ?_); (try go_frame)
      refine hTk (i := 17) (v := undef) (hy := Or.inr ⟨by rfl, rfl⟩) (h := ?_); (try go_frame)
      refine hTk (i := 18) (v := undef) (hy := Or.inr ⟨by rfl, rfl⟩) (h := ?_); (try go_frame)
      refine hTk (i := 19) (v := undef) (hy := Or.inr ⟨by rfl, rfl⟩) (h := ?_); (try go_frame)
      refine hTk (i := 20) (v := undef) (hy := Or.inr ⟨by rfl, rfl⟩) (h := ?_); (try go_frame)
      refine hTk (i := 21) (v := ?_) (hy := Or.inl ⟨by rfl, ?_⟩) (h := ?_); rotate_left 1; (intro w0 hS; (try dsimp only at hS); unfold MSc0 at hS; go_simp; try with_reducible rfl); (try go_frame)
      refine wpAnyH_done (by kernel_rfl) ?_ _
      go_wp2
      go_meet
      case rel => exact ⟨by rw [HO.out], hH⟩
    · cases hq : (p.kind 7 == 4 && p.side 7 == 0)
      · have HO := hid (show B1 = false by rw [HS.out, hq]; simp)
        clear HS
        refine wp_region_held_drew (S := MSc0 p w) (by kernel_rfl) (hM.ext (Ext.drew (Ext.refl _))) (fun hH => ?_)
        refine hTk (i := 0) (v := ?_) (hy := Or.inl ⟨by rfl, ?_⟩) (h := ?_); rotate_left 1; (intro w0 hS; (try dsimp only at hS); unfold MSc0 at hS; go_simp; try with_reducible rfl); (try go_frame)
        refine hTk (i := 1) (v := ?_) (hy := Or.inl ⟨by rfl, ?_⟩) (h := ?_); rotate_left 1; (intro w0 hS; (try dsimp only at hS); unfold MSc0 at hS; go_simp; try with_reducible rfl); (try go_frame)
        refine hTk (i := 2) (v := ?_) (hy := Or.inl ⟨by rfl, ?_⟩) (h := ?_); rotate_left 1; (intro w0 hS; (try dsimp only at hS); unfold MSc0 at hS; go_simp; try with_reducible rfl); (try go_frame)
        refine hTk (i := 3) (v := ?_) (hy := Or.inl ⟨by rfl, ?_⟩) (h := ?_); rotate_left 1; (intro w0 hS; (try dsimp only at hS); unfold MSc0 at hS; go_simp; try with_reducible rfl); (try go_frame)
        refine hTk (i := 4) (v := ?_) (hy := Or.inl ⟨by rfl, ?_⟩) (h := ?_); rotate_left 1; (intro w0 hS; (try dsimp only at hS); unfold MSc0 at hS; go_simp; try with_reducible rfl); (try go_frame)
        refine hTk (i := 5) (v := ?_) (hy := Or.inl ⟨by rfl, ?_⟩) (h := ?_); rotate_left 1; (intro w0 hS; (try dsimp only at hS); unfold MSc0 at hS; go_simp; try with_reducible rfl); (try go_frame)
        refine hTk (i := 6) (v := ?_) (hy := Or.inl ⟨by rfl, ?_⟩) (h := ?_); rotate_left 1; (intro w0 hS; (try dsimp only at hS); unfold MSc0 at hS; go_simp; try with_reducible rfl); (try go_frame)
        refine hTk (i := 7) (v := ?_) (hy := Or.inl ⟨by rfl, ?_⟩) (h := ?_); rotate_left 1; (intro w0 hS; (try dsimp only at hS); unfold MSc0 at hS; go_simp; try with_reducible rfl); (try go_frame)
        refine hTk (i := 8) (v := ?_) (hy := Or.inl ⟨by rfl, ?_⟩) (h := ?_); rotate_left 1; (intro w0 hS; (try dsimp only at hS); unfold MSc0 at hS; go_simp; try with_reducible rfl); (try go_frame)
        refine hTk (i := 9) (v := ?_) (hy := Or.inl ⟨by rfl, ?_⟩) (h := ?_); rotate_left 1; (intro w0 hS; (try dsimp only at hS); unfold MSc0 at hS; go_simp; try with_reducible rfl); (try go_frame)
        refine hTk (i := 10) (v := ?_) (hy := Or.inl ⟨by rfl, ?_⟩) (h := ?_); rotate_left 1; (intro w0 hS; (try dsimp only at hS); unfold MSc0 at hS; go_simp; try with_reducible rfl); (try go_frame)
        refine hTk (i := 11) (v := ?_) (hy := Or.inl ⟨by rfl, ?_⟩) (h := ?_); rotate_left 1; (intro w0 hS; (try dsimp only at hS); unfold MSc0 at hS; go_simp; try with_reducible rfl); (try go_frame)
        refine hTk (i := 12) (v := ?_) (hy := Or.inl ⟨by rfl, ?_⟩) (h := ?_); rotate_left 1; (intro w0 hS; (try dsimp only at hS); unfold MSc0 at hS; go_simp; try with_reducible rfl); (try go_frame)
        refine hTk (i := 13) (v := ?_) (hy := Or.inl ⟨by rfl, ?_⟩) (h := ?_); rotate_left 1; (intro w0 hS; (try dsimp only at hS); unfold MSc0 at hS; go_simp; try with_reducible rfl); (try go_frame)
        refine hTk (i := 14) (v := undef) (hy := Or.inr ⟨by rfl, rfl⟩) (h := ?_); (try go_frame)
        refine hTk (i := 15) (v := undef) (hy := Or.inr ⟨by rfl, rfl⟩) (h := ?_); (try go_frame)
        refine hTk (i := 16) (v := undef) (hy := Or.inr ⟨by rfl, rfl⟩) (h := ?_); (try go_frame)
        refine hTk (i := 17) (v := undef) (hy := Or.inr ⟨by rfl, rfl⟩) (h := ?_); (try go_frame)
        refine hTk (i := 18) (v := undef) (hy := Or.inr ⟨by rfl, rfl⟩) (h := ?_); (try go_frame)
        refine hTk (i := 19) (v := undef) (hy := Or.inr ⟨by rfl, rfl⟩) (h := ?_); (try go_frame)
        refine hTk (i := 20) (v := undef) (hy := Or.inr ⟨by rfl, rfl⟩) (h := ?_); (try go_frame)
        refine hTk (i := 21) (v := ?_) (hy := Or.inl ⟨by rfl, ?_⟩) (h := ?_); rotate_left 1; (intro w0 hS; (try dsimp only at hS); unfold MSc0 at hS; go_simp; try with_reducible rfl); (try go_frame)
        refine wpAnyH_done (by kernel_rfl) ?_ _
        go_wp2
        go_meet
        case rel => exact ⟨by rw [HO.out], hH⟩
      · have HO := hid (show B1 = freeB p [5, 6] by rw [HS.out, hq, show (p.castle / 1 % 2 == 1) = true by simp at hb ⊢; omega]; rfl)
        clear HS
        refine wp_region_held_drew (S := MSc0 p w) (by kernel_rfl) (hM.ext (Ext.drew (Ext.refl _))) (fun hH => ?_)
        refine hTk (i := 0) (v := ?_) (hy := Or.inl ⟨by rfl, ?_⟩) (h := ?_); rotate_left 1; (intro w0 hS; (try dsimp only at hS); unfold MSc0 at hS; go_simp; try with_reducible rfl); (try go_frame)
        refine hTk (i := 1) (v := ?_) (hy := Or.inl ⟨by rfl, ?_⟩) (h := ?_); rotate_left 1; (intro w0 hS; (try dsimp only at hS); unfold MSc0 at hS; go_simp; try with_reducible rfl); (try go_frame)
        refine hTk (i := 2) (v := ?_) (hy := Or.inl ⟨by rfl, ?_⟩) (h := ?_); rotate_left 1; (intro w0 hS; (try dsimp only at hS); unfold MSc0 at hS; go_simp; try with_reducible rfl); (try go_frame)
        refine hTk (i := 3) (v := ?_) (hy := Or.inl ⟨by rfl, ?_⟩) (h := ?_); rotate_left 1; (intro w0 hS; (try dsimp only at hS); unfold MSc0 at hS; go_simp; try with_reducible rfl); (try go_frame)
        refine hTk (i := 4) (v := ?_) (hy := Or.inl ⟨by rfl, ?_⟩) (h := ?_); rotate_left 1; (intro w0 hS; (try dsimp only at hS); unfold MSc0 at hS; go_simp; try with_reducible rfl); (try go_frame)
        refine hTk (i := 5) (v := ?_) (hy := Or.inl ⟨by rfl, ?_⟩) (h := ?_); rotate_left 1; (intro w0 hS; (try dsimp only at hS); unfold MSc0 at hS; go_simp; try with_reducible rfl); (try go_frame)
        refine hTk (i := 6) (v := ?_) (hy := Or.inl ⟨by rfl, ?_⟩) (h := ?_); rotate_left 1; (intro w0 hS; (try dsimp only at hS); unfold MSc0 at hS; go_simp; try with_reducible rfl); (try go_frame)
        refine hTk (i := 7) (v := ?_) (hy := Or.inl ⟨by rfl, ?_⟩) (h := ?_); rotate_left 1; (intro w0 hS; (try dsimp only at hS); unfold MSc0 at hS; go_simp; try with_reducible rfl); (try go_frame)
        refine hTk (i := 8) (v := ?_) (hy := Or.inl ⟨by rfl, ?_⟩) (h := ?_); rotate_left 1; (intro w0 hS; (try dsimp only at hS); unfold MSc0 at hS; go_simp; try with_reducible rfl); (try go_frame)
        refine hTk (i := 9) (v := ?_) (hy := Or.inl ⟨by rfl, ?_⟩) (h := ?_); rotate_left 1; (intro w0 hS; (try dsimp only at hS); unfold MSc0 at hS; go_simp; try with_reducible rfl); (try go_frame)
        refine hTk (i := 10) (v := ?_) (hy := Or.inl ⟨by rfl, ?_⟩) (h := ?_); rotate_left 1; (intro w0 hS; (try dsimp only at hS); unfold MSc0 at hS; go_simp; try with_reducible rfl); (try go_frame)
        refine hTk (i := 11) (v := ?_) (hy := Or.inl ⟨by rfl, ?_⟩) (h := ?_); rotate_left 1; (intro w0 hS; (try dsimp only at hS); unfold MSc0 at hS; go_simp; try with_reducible rfl); (try go_frame)
        refine hTk (i := 12) (v := ?_) (hy := Or.inl ⟨by rfl, ?_⟩) (h := ?_); rotate_left 1; (intro w0 hS; (try dsimp only at hS); unfold MSc0 at hS; go_simp; try with_reducible rfl); (try go_frame)
        refine hTk (i := 13) (v := ?_) (hy := Or.inl ⟨by rfl, ?_⟩) (h := ?_); rotate_left 1; (intro w0 hS; (try dsimp only at hS); unfold MSc0 at hS; go_simp; try with_reducible rfl); (try go_frame)
        refine hTk (i := 14) (v := ?_) (hy := Or.inl ⟨by rfl, ?_⟩) (h := ?_); rotate_left 1; (intro w0 hS; (try dsimp only at hS); unfold MSc0 at hS; go_simp; try with_reducible rfl); (try go_frame)
        refine hTk (i := 15) (v := ?_) (hy := Or.inl ⟨by rfl, ?_⟩) (h := ?_); rotate_left 1; (intro w0 hS; (try dsimp only at hS); unfold MSc0 at hS; go_simp; try with_reducible rfl); (try go_frame)
        refine hTk (i := 16) (v := ?_) (hy := Or.inl ⟨by rfl, ?_⟩) (h := ?_); rotate_left 1; (intro w0 hS; (try dsimp only at hS); unfold MSc0 at hS; go_simp; try with_reducible rfl); (try go_frame)
        refine hTk (i := 17) (v := ?_) (hy := Or.inl ⟨by rfl, ?_⟩) (h := ?_); rotate_left 1; (intro w0 hS; (try dsimp only at hS); unfold MSc0 at hS; go_simp; try with_reducible rfl); (try go_frame)
        refine hTk (i := 18) (v := ?_) (hy := Or.inl ⟨by rfl, ?_⟩) (h := ?_); rotate_left 1; (intro w0 hS; (try dsimp only at hS); unfold MSc0 at hS; go_simp; try with_reducible rfl); (try go_frame)
        refine wpAnyH_ready (rs := [19]) (by kernel_rfl) (by simp) ?_; refine hCo (h := fun K hK => ?_) (hs := AllReadyH.nil); go_simp
        refine hK.out _ _ (hH.ext (by first | assumption | exact Ext.alloc (Ext.refl _) _)) (fun hH => ?_); clear hK; (try go_frame)
        refine wpAnyH_ready (rs := [20]) (by kernel_rfl) (by simp) ?_; refine hCo (h := fun K hK => ?_) (hs := AllReadyH.nil); go_simp
        refine (free_any2 p _ _ _ [5, 6] _ _ (Sl.lits [5, 6] _ _ rfl (alloc_ints2d _ _ _ _)) (by simp)).mono ?_
        rintro e w8 ⟨rfl, hx8⟩
        refine hK.out _ _ (hH.ext (by first | assumption | exact Ext.alloc (Ext.refl _) _)) (fun hH => ?_); clear hK; (try go_frame)
        refine hTk (i := 21) (v := ?_) (hy := Or.inl ⟨by rfl, ?_⟩) (h := ?_); rotate_left 1; (intro w0 hS; (try dsimp only at hS); unfold MSc0 at hS; go_simp; try with_reducible rfl); (try go_frame)
        refine wpAnyH_done (by kernel_rfl) ?_ _
        go_wp2
        go_meet
        case rel => exact ⟨by rw [HO.out], hH⟩
  case rest =>
    obtain ⟨rfl, hM2⟩ := hcut
    clear hM
    go_upto_if 66 with (fail)
    go_cut [2] (fun s2 wx => wx.ownsRow (w.heap.size + 2) 3 1 s2 L1.length (ints L1) ∧ MSc0 p w wx)
    case first =>
      have HM := hid hM2
      have hsz := hM2.sz
      clear hM2
      cases B1
      · go_wp2
        go_meet
        case rel => exact ⟨by rw [← HL1.out]; exact World.ownsRow_nil _ _ _ _, HM.out⟩
      · go_wp2_with (at_builtin; refine wpList_append_int rfl _ _ rfl (w.heap.size + 2) (.slice none 0 0) 0 [] rfl (World.ownsRow_nil _ _ _ _) _ (.int .i64 (4 + 2)) rfl rfl ?c1 (by decide) ?c3 (fun v' w1 hown1 hg1 => ?_))
        case c3 => first | omega | (simp; omega)
        go_meet
        case rel => exact ⟨by rw [← HL1.out]; simpa [ints] using hown1, (HM.out.ext (Ext.alloc (Ext.refl _) _)).grown (World.ownsRow_nil _ _ _ _) hg1⟩
    case rest =>
      obtain ⟨ho, hM3⟩ := hcut
      clear hM2
      go_upto_region 8 with (fail)
      have hM := And.intro hM3 ho
      clear hM3 ho
      go_cut [2, 95] (fun s2 s95 wx => s95 = .bool B2 ∧ (MSc0 p w wx ∧ wx.ownsRow (w.heap.size + 2) 3 1 s2 L1.length (ints L1)))
      case first =>
        cases hb : (p.castle / 2 % 2 * 2 != 0)
        · have HO := hid (show B2 = false by rw [HF.out, show (p.castle / 2 % 2 == 1) = false by simp at hb ⊢; omega]; rfl)
          clear HF
          refine wp_region_held_drew (S := (fun W => MSc0 p w W ∧ W.ownsRow (w.heap.size + 2) 3 1 u2 L1.length (ints L1))) (by kernel_rfl) (⟨hM.1.ext (Ext.drew (Ext.refl _)), own_ext hM.2 (Ext.drew (Ext.refl _))⟩) (fun hH => ?_)
          refine hTk (i := 0) (v := ?_) (hy := Or.inl ⟨by rfl, ?_⟩) (h := ?_); rotate_left 1; (intro w0 hS; (try dsimp only at hS); unfold MSc0 at hS; go_simp; try with_reducible rfl); (try go_frame)
          refine hTk (i := 1) (v := ?_) (hy := Or.inl ⟨by rfl, ?_⟩) (h := ?_); rotate_left 1; (intro w0 hS; (try dsimp only at hS); unfold MSc0 at hS; go_simp; try with_reducible rfl); (try go_frame)
          refine hTk (i := 2) (v := ?_) (hy := Or.inl ⟨by rfl, ?_⟩) (h := ?_); rotate_left 1; (intro w0 hS; (try dsimp only at hS); unfold MSc0 at hS; go_simp; try with_reducible rfl); (try go_frame)
          refine hTk (i := 3) (v := ?_) (hy := Or.inl ⟨by rfl, ?_⟩) (h := ?_); rotate_left 1; (intro w0 hS; (try dsimp only at hS); unfold MSc0 at hS; go_simp; try with_reducible rfl); (try go_frame)
          refine hTk (i := 4) (v := undef) (hy := Or.inr ⟨by rfl, rfl⟩) (h := ?_); (try go_frame)
          refine hTk (i := 5) (v := undef) (hy := Or.inr ⟨by rfl, rfl⟩) (h := ?_); (try go_frame)
          refine hTk (i := 6) (v := undef) (hy := Or.inr ⟨by rfl, rfl⟩) (h := ?_); (try go_frame)
          refine hTk (i := 7) (v := undef) (hy := Or.inr ⟨by rfl, rfl⟩) (h := ?_); (try go_frame)
          refine hTk (i := 8) (v := undef) (hy := Or.inr ⟨by rfl, rfl⟩) (h := ?_); (try go_frame)
          refine hTk (i := 9) (v := undef) (hy := Or.inr ⟨by rfl, rfl⟩) (h := ?_); (try go_frame)
          refine hTk (i := 10) (v := undef) (hy := Or.inr ⟨by rfl, rfl⟩) (h := ?_); (try go_frame)
          refine hTk (i := 11) (v := undef) (hy := Or.inr ⟨by rfl, rfl⟩) (h := ?_); (try go_frame)
          refine hTk (i := 12) (v := ?_) (hy := Or.inl ⟨by rfl, ?_⟩) (h := ?_); rotate_left 1; (intro w0 hS; (try dsimp only at hS); unfold MSc0 at hS; go_simp; try with_reducible rfl); (try go_frame)
          refine hTk (i := 13) (v := ?_) (hy := Or.inl ⟨by rfl, ?_⟩) (h := ?_); rotate_left 1; (intro w0 hS; (try dsimp only at hS); unfold MSc0 at hS; go_simp; try with_reducible rfl); (try go_frame)
          refine hTk (i := 14) (v := undef) (hy := Or.inr ⟨by rfl, rfl⟩) (h := ?_); (try go_frame)
          refine hTk (i := 15) (v := undef) (hy := Or.inr ⟨by rfl, rfl⟩) (h := ?_); (try go_frame)
          refine hTk (i := 16) (v := undef) (hy := Or.inr ⟨by rfl, rfl⟩) (h := ?_); (try go_frame)
          refine hTk (i := 17) (v := undef) (hy := Or.inr ⟨by rfl, rfl⟩) (h := ?_); (try go_frame)
          refine hTk (i := 18) (v := undef) (hy := Or.inr ⟨by rfl, rfl⟩) (h := ?_); (try go_frame)
          refine hTk (i := 19) (v := undef) (hy := Or.inr ⟨by rfl, rfl⟩) (h := ?_); (try go_frame)
          refine hTk (i := 20) (v := undef) (hy := Or.inr ⟨by rfl, rfl⟩) (h := ?_); (try go_frame)
          refine hTk (i := 21) (v := undef) (hy := Or.inr ⟨by rfl, rfl⟩) (h := ?_); (try go_frame)
          refine hTk (i := 22) (v := undef) (hy := Or.inr ⟨by rfl, rfl⟩) (h := ?_); (try go_frame)
          refine hTk (i := 23) (v := ?_) (hy := Or.inl ⟨by rfl, ?_⟩) (h := ?_); rotate_left 1; (intro w0 hS; (try dsimp only at hS); unfold MSc0 at hS; go_simp; try with_reducible rfl); (try go_frame)
          refine wpAnyH_done (by kernel_rfl) ?_ _
          go_wp2
          go_meet
          case rel => exact ⟨by rw [HO.out], hH⟩
        · cases hq : (p.kind 0 == 4 && p.side 0 == 0)
          · have HO := hid (show B2 = false by rw [HF.out, hq]; simp)
            clear HF
            refine wp_region_held_drew (S := (fun W => MSc0 p w W ∧ W.ownsRow (w.heap.size + 2) 3 1 u2 L1.length (ints L1))) (by kernel_rfl) (⟨hM.1.ext (Ext.drew (Ext.refl _)), own_ext hM.2 (Ext.drew (Ext.refl _))⟩) (fun hH => ?_)
            refine hTk (i := 0) (v := ?_) (hy := Or.inl ⟨by rfl, ?_⟩) (h := ?_); rotate_left 1; (intro w0 hS; (try dsimp only at hS); unfold MSc0 at hS; go_simp; try with_reducible rfl); (try go_frame)
            refine hTk (i := 1) (v := ?_) (hy := Or.inl ⟨by rfl, ?_⟩) (h := ?_); rotate_left 1; (intro w0 hS; (try dsimp only at hS); unfold MSc0 at hS; go_simp; try with_reducible rfl); (try go_frame)
            refine hTk (i := 2) (v := ?_) (hy := Or.inl ⟨by rfl, ?_⟩) (h := ?_); rotate_left 1; (intro w0 hS; (try dsimp only at hS); unfold MSc0 at hS; go_simp; try with_reducible rfl); (try go_frame)
            refine hTk (i := 3) (v := ?_) (hy := Or.inl ⟨by rfl, ?_⟩) (h := ?_); rotate_left 1; (intro w0 hS; (try dsimp only at hS); unfold MSc0 at hS; go_simp; try with_reducible rfl); (try go_frame)
            refine hTk (i := 4) (v := ?_) (hy := Or.inl ⟨by rfl, ?_⟩) (h := ?_); rotate_left 1; (intro w0 hS; (try dsimp only at hS); unfold MSc0 at hS; go_simp; try with_reducible rfl); (try go_frame)
            refine hTk (i := 5) (v := ?_) (hy := Or.inl ⟨by rfl, ?_⟩) (h := ?_); rotate_left 1; (intro w0 hS; (try dsimp only at hS); unfold MSc0 at hS; go_simp; try with_reducible rfl); (try go_frame)
            refine hTk (i := 6) (v := ?_) (hy := Or.inl ⟨by rfl, ?_⟩) (h := ?_); rotate_left 1; (intro w0 hS; (try dsimp only at hS); unfold MSc0 at hS; go_simp; try with_reducible rfl); (try go_frame)
            refine hTk (i := 7) (v := ?_) (hy := Or.inl ⟨by rfl, ?_⟩) (h := ?_); rotate_left 1; (intro w0 hS; (try dsimp only at hS); unfold MSc0 at hS; go_simp; try with_reducible rfl); (try go_frame)
            refine hTk (i := 8) (v := ?_) (hy := Or.inl ⟨by rfl, ?_⟩) (h := ?_); rotate_left 1; (intro w0 hS; (try dsimp only at hS); unfold MSc0 at hS; go_simp; try with_reducible rfl); (try go_frame)
            refine hTk (i := 9) (v := ?_) (hy := Or.inl ⟨by rfl, ?_⟩) (h := ?_); rotate_left 1; (intro w0 hS; (try dsimp only at hS); unfold MSc0 at hS; go_simp; try with_reducible rfl); (try go_frame)
            refine hTk (i := 10) (v := ?_) (hy := Or.inl ⟨by rfl, ?_⟩) (h := ?_); rotate_left 1; (intro w0 hS; (try dsimp only at hS); unfold MSc0 at hS; go_simp; try with_reducible rfl); (try go_frame)
            refine hTk (i := 11) (v := ?_) (hy := Or.inl ⟨by rfl, ?_⟩) (h := ?_); rotate_left 1; (intro w0 hS; (try dsimp only at hS); unfold MSc0 at hS; go_simp; try with_reducible rfl); (try go_frame)
            refine hTk (i := 12) (v := ?_) (hy := Or.inl ⟨by rfl, ?_⟩) (h := ?_); rotate_left 1; (intro w0 hS; (try dsimp only at hS); unfold MSc0 at hS; go_simp; try with_reducible rfl); (try go_frame)
            refine hTk (i := 13) (v := ?_) (hy := Or.inl ⟨by rfl, ?_⟩) (h := ?_); rotate_left 1; (intro w0 hS; (try dsimp only at hS); unfold MSc0 at hS; go_simp; try with_reducible rfl); (try go_frame)
            refine hTk (i := 14) (v := undef) (hy := Or.inr ⟨by rfl, rfl⟩) (h := ?_); (try go_frame)
            refine hTk (i := 15) (v := undef) (hy := Or.inr ⟨by rfl, rfl⟩) (h := ?_); (try go_frame)
            refine hTk (i := 16) (v := undef) (hy := Or.inr ⟨by rfl, rfl⟩) (h := ?_); (try go_frame)
            refine hTk (i := 17) (v := undef) (hy := Or.inr ⟨by rfl, rfl⟩) (h := ?_); (try go_frame)
            refine hTk (i := 18) (v := undef) (hy := Or.inr ⟨by rfl, rfl⟩) (h := ?_); (try go_frame)
            refine hTk (i := 19) (v := undef) (hy := Or.inr ⟨by rfl, rfl⟩) (h := ?_); (try go_frame)
            refine hTk (i := 20) (v := undef) (hy := Or.inr ⟨by rfl, rfl⟩) (h := ?_); (try go_frame)
            refine hTk (i := 21) (v := undef) (hy := Or.inr ⟨by rfl, rfl⟩) (h := ?_); (try go_frame)
            refine hTk (i := 22) (v := undef) (hy := Or.inr ⟨by rfl, rfl⟩) (h := ?_); (try go_frame)
            refine hTk (i := 23) (v := ?_) (hy := Or.inl ⟨by rfl, ?_⟩) (h := ?_); rotate_left 1; (intro w0 hS; (try dsimp only at hS); unfold MSc0 at hS; go_simp; try with_reducible rfl); (try go_frame)
            refine wpAnyH_done (by kernel_rfl) ?_ _
            go_wp2
            go_meet
            case rel => exact ⟨by rw [HO.out], hH⟩
          · have HO := hid (show B2 = freeB p [3, 2, 1] by rw [HF.out, hq, show (p.castle / 2 % 2 == 1) = true by simp at hb ⊢; omega]; rfl)
            clear HF
            refine wp_region_held_drew (S := (fun W => MSc0 p w W ∧ W.ownsRow (w.heap.size + 2) 3 1 u2 L1.length (ints L1))) (by kernel_rfl) (⟨hM.1.ext (Ext.drew (Ext.refl _)), own_ext hM.2 (Ext.drew (Ext.refl _))⟩) (fun hH => ?_)
            refine hTk (i := 0) (v := ?_) (hy := Or.inl ⟨by rfl, ?_⟩) (h := ?_); rotate_left 1; (intro w0 hS; (try dsimp only at hS); unfold MSc0 at hS; go_simp; try with_reducible rfl); (try go_frame)
            refine hTk (i := 1) (v := ?_) (hy := Or.inl ⟨by rfl, ?_⟩) (h := ?_); rotate_left 1; (intro w0 hS; (try dsimp only at hS); unfold MSc0 at hS; go_simp; try with_reducible rfl); (try go_frame)
            refine hTk (i := 2) (v := ?_) (hy := Or.inl ⟨by rfl, ?_⟩) (h := ?_); rotate_left 1; (intro w0 hS; (try dsimp only at hS); unfold MSc0 at hS; go_simp; try with_reducible rfl); (try go_frame)
            refine hTk (i := 3) (v := ?_) (hy := Or.inl ⟨by rfl, ?_⟩) (h := ?_); rotate_left 1; (intro w0 hS; (try dsimp only at hS); unfold MSc0 at hS; go_simp; try with_reducible rfl); (try go_frame)
            refine hTk (i := 4) (v := ?_) (hy := Or.inl ⟨by rfl, ?_⟩) (h := ?_); rotate_left 1; (intro w0 hS; (try dsimp only at hS); unfold MSc0 at hS; go_simp; try with_reducible rfl); (try go_frame)
            refine hTk (i := 5) (v := ?_) (hy := Or.inl ⟨by rfl, ?_⟩) (h := ?_); rotate_left 1; (intro w0 hS; (try dsimp only at hS); unfold MSc0 at hS; go_simp; try with_reducible rfl); (try go_frame)
            refine hTk (i := 6) (v := ?_) (hy := Or.inl ⟨by rfl, ?_⟩) (h := ?_); rotate_left 1; (intro w0 hS; (try dsimp only at hS); unfold MSc0 at hS; go_simp; try with_reducible rfl); (try go_frame)
            refine hTk (i := 7) (v := ?_) (hy := Or.inl ⟨by rfl, ?_⟩) (h := ?_); rotate_left 1; (intro w0 hS; (try dsimp only at hS); unfold MSc0 at hS; go_simp; try with_reducible rfl); (try go_frame)
            refine hTk (i := 8) (v := ?_) (hy := Or.inl ⟨by rfl, ?_⟩) (h := ?_); rotate_left 1; (intro w0 hS; (try dsimp only at hS); unfold MSc0 at hS; go_simp; try with_reducible rfl); (try go_frame)
            refine hTk (i := 9) (v := ?_) (hy := Or.inl ⟨by rfl, ?_⟩) (h := ?_); rotate_left 1; (intro w0 hS; (try dsimp only at hS); unfold MSc0 at hS; go_simp; try with_reducible rfl); (try go_frame)
            refine hTk (i := 10) (v := ?_) (hy := Or.inl ⟨by rfl, ?_⟩) (h := ?_); rotate_left 1; (intro w0 hS; (try dsimp only at hS); unfold MSc0 at hS; go_simp; try with_reducible rfl); (try go_frame)
            refine hTk (i := 11) (v := ?_) (hy := Or.inl ⟨by rfl, ?_⟩) (h := ?_); rotate_left 1; (intro w0 hS; (try dsimp only at hS); unfold MSc0 at hS; go_simp; try with_reducible rfl); (try go_frame)
            refine hTk (i := 12) (v := ?_) (hy := Or.inl ⟨by rfl, ?_⟩) (h := ?_); rotate_left 1; (intro w0 hS; (try dsimp only at hS); unfold MSc0 at hS; go_simp; try with_reducible rfl); (try go_frame)
            refine hTk (i := 13) (v := ?_) (hy := Or.inl ⟨by rfl, ?_⟩) (h := ?_); rotate_left 1; (intro w0 hS; (try dsimp only at hS); unfold MSc0 at hS; go_simp; try with_reducible rfl); (try go_frame)
            refine hTk (i := 14) (v := ?_) (hy := Or.inl ⟨by rfl, ?_⟩) (h := ?_); rotate_left 1; (intro w0 hS; (try dsimp only at hS); unfold MSc0 at hS; go_simp; try with_reducible rfl); (try go_frame)
            refine hTk (i := 15) (v := ?_) (hy := Or.inl ⟨by rfl, ?_⟩) (h := ?_); rotate_left 1; (intro w0 hS; (try dsimp only at hS); unfold MSc0 at hS; go_simp; try with_reducible rfl); (try go_frame)
            refine hTk (i := 16) (v := ?_) (hy := Or.inl ⟨by rfl, ?_⟩) (h := ?_); rotate_left 1; (intro w0 hS; (try dsimp only at hS); unfold MSc0 at hS; go_simp; try with_reducible rfl); (try go_frame)
            refine hTk (i := 17) (v := ?_) (hy := Or.inl ⟨by rfl, ?_⟩) (h := ?_); rotate_left 1; (intro w0 hS; (try dsimp only at hS); unfold MSc0 at hS; go_simp; try with_reducible rfl); (try go_frame)
            refine hTk (i := 18) (v := ?_) (hy := Or.inl ⟨by rfl, ?_⟩) (h := ?_); rotate_left 1; (intro w0 hS; (try dsimp only at hS); unfold MSc0 at hS; go_simp; try with_reducible rfl); (try go_frame)
            refine hTk (i := 19) (v := ?_) (hy := Or.inl ⟨by rfl, ?_⟩) (h := ?_); rotate_left 1; (intro w0 hS; (try dsimp only at hS); unfold MSc0 at hS; go_simp; try with_reducible rfl); (try go_frame)
            refine hTk (i := 20) (v := ?_) (hy := Or.inl ⟨by rfl, ?_⟩) (h := ?_); rotate_left 1; (intro w0 hS; (try dsimp only at hS); unfold MSc0 at hS; go_simp; try with_reducible rfl); (try go_frame)
            refine wpAnyH_ready (rs := [21]) (by kernel_rfl) (by simp) ?_; refine hCo (h := fun K hK => ?_) (hs := AllReadyH.nil); go_simp
            refine hK.out _ _ (⟨hH.1.ext (by first | assumption | exact Ext.alloc (Ext.refl _) _), own_ext hH.2 (by first | assumption | exact Ext.alloc (Ext.refl _) _)⟩) (fun hH => ?_); clear hK; (try go_frame)
            refine wpAnyH_ready (rs := [22]) (by kernel_rfl) (by simp) ?_; refine hCo (h := fun K hK => ?_) (hs := AllReadyH.nil); go_simp
            refine (free_any2 p _ _ _ [3, 2, 1] _ _ (Sl.lits [3, 2, 1] _ _ rfl (alloc_ints3d _ _ _ _ _)) (by simp)).mono ?_
            rintro e w8 ⟨rfl, hx8⟩
            refine hK.out _ _ (⟨hH.1.ext (by first | assumption | exact Ext.alloc (Ext.refl _) _), own_ext hH.2 (by first | assumption | exact Ext.alloc (Ext.refl _) _)⟩) (fun hH => ?_); clear hK; (try go_frame)
            refine hTk (i := 23) (v := ?_) (hy := Or.inl ⟨by rfl, ?_⟩) (h := ?_); rotate_left 1; (intro w0 hS; (try dsimp only at hS); unfold MSc0 at hS; go_simp; try with_reducible rfl); (try go_frame)
            refine wpAnyH_done (by kernel_rfl) ?_ _
            go_wp2
            go_meet
            case rel => exact ⟨by rw [HO.out], hH⟩
      case rest =>
        obtain ⟨rfl, hM4⟩ := hcut
        clear hM
        go_upto_if 95 with (fail)
        have hsz := hM4.1.sz
        have HM := hid hM4
        clear hM4
        cases B2
        · go_wp2
          go_ret
          exact RetInts.mk' HM.out.2 (by rw [← HL2.out]; simp) (by rw [← HL2.out]; simp) (by omega) HM.out.1.x
        · go_wp2_with (at_builtin; refine wpList_append_int rfl _ _ rfl (w.heap.size + 2) _ L1.length (ints L1) rfl (own_ext HM.out.2 (Ext.alloc (Ext.refl _) _)) _ (.int .i64 (4 - 2)) rfl rfl ?d1 (by omega) ?d3 (fun v' w1 hown1 hg1 => ?_))
          case d3 => first | omega | (simp; omega)
          go_ret
          exact RetInts.mk' hown1 (by rw [← HL2.out]; simp) (by rw [← HL2.out]; simp [ints]) (by omega) ((HM.out.1.ext (Ext.alloc (Ext.refl _) _)).grown (own_ext HM.out.2 (Ext.alloc (Ext.refl _) _)) hg1).x
def MSc1 (p : Pos) (w W : World) : Prop :=
  blk W w.heap.size = some (.cells (moverCells p 60 6 1) 219 (0, 0)) ∧ blk W (w.heap.size + 1) = some (.cells #[.int .i64 4, .int .i64 1] 26 (0, 0)) ∧ Ext w W ∧
  W.cell? ⟨w.heap.size + 1, 0, none⟩ = some (.int .i64 4) ∧ W.cell? ⟨w.heap.size + 1, 1, none⟩ = some (.int .i64 1) ∧
  W.cell? ⟨w.heap.size, 126, none⟩ = some (.int .i64 (p.kind 63)) ∧ W.cell? ⟨w.heap.size, 126 + 1, none⟩ = some (.int .i64 (p.side 63)) ∧ W.cell? ⟨w.heap.size, 112, none⟩ = some (.int .i64 (p.kind 56)) ∧ W.cell? ⟨w.heap.size, 112 + 1, none⟩ = some (.int .i64 (p.side 56)) ∧
  W.cell? ⟨w.heap.size, 126 + 1, none⟩ = some (.int .i64 (p.side 63)) ∧ W.cell? ⟨w.heap.size, 127, none⟩ = some (.int .i64 (p.side 63)) ∧ W.cell? ⟨w.heap.size, 113, none⟩ = some (.int .i64 (p.side 56))
theorem MSc1.mk' {p : Pos} {w W : World} (h1 : blk W w.heap.size = some (.cells (moverCells p 60 6 1) 219 (0, 0))) (h2 : blk W (w.heap.size + 1) = some (.cells #[.int .i64 4, .int .i64 1] 26 (0, 0))) (h3 : Ext w W) : MSc1 p w W :=
  ⟨h1, h2, h3, blk_cell h2 0, blk_cell h2 1, mc_kind h1 63 (by decide), mc_side h1 63 (by decide), mc_kind h1 56 (by decide), mc_side h1 56 (by decide), mc_side h1 63 (by decide), mc_side h1 63 (by decide), mc_side h1 56 (by decide)⟩
theorem MSc1.ext {p : Pos} {w W W' : World} (h : MSc1 p w W) (hx : Ext W W') : MSc1 p w W' :=
  MSc1.mk' ((hx.blk _ (blk_lt h.1)).trans h.1) ((hx.blk _ (blk_lt h.2.1)).trans h.2.1) (h.2.2.1.trans hx)
theorem MSc1.x {p : Pos} {w W : World} (h : MSc1 p w W) : Ext w W := h.2.2.1
theorem MSc1.sz {p : Pos} {w W : World} (h : MSc1 p w W) : w.heap.size + 2 ≤ W.heap.size := blk_lt h.2.1
theorem MSc1.grown {p : Pos} {w W W' : World} (h : MSc1 p w W) {v : Value} {n : Nat} {xs : List Value} (ho : W.ownsRow (w.heap.size + 2) 3 1 v n xs) (hx : W.grownBy W' v.ownBlock) : MSc1 p w W' :=
  have hr : ∀ x, v.ownBlock = some x → w.heap.size + 2 ≤ x := fun x hx => (ho.lt x hx).1
  MSc1.mk' ((hx.block _ (blk_lt h.1) (fun e => by have := hr _ e.symm; omega)).trans h.1) ((hx.block _ (blk_lt h.2.1) (fun e => by have := hr _ e.symm; omega)).trans h.2.1) (Below.grown h.2.2.1 hx h.2.2.1.le fun x hx' => by have := hr x hx'; omega)
set_option maxRecDepth 100000 in
set_option maxHeartbeats 4000000 in
theorem castlings_yes1 (p : Pos) (w : World) (p0 : 0 ≤ p.castle) (p1 : p.castle ≤ 15) : Calls Tryz.prog 204 #[.agg (moverCells p 60 6 1)] w (RetInts ((if shortB p 1 = true then [60 + 2] else []) ++ (if farB p 1 = true then [60 - 2] else [])) w) := by
  have HS := hid (show shortB p 1 = (p.castle / 4 % 2 == 1 && (p.kind 63 == 4 && p.side 63 == 1) && freeB p [60 + 1, 60 + 2]) from rfl)
  have HF := hid (show farB p 1 = (p.castle / 8 % 2 == 1 && (p.kind 56 == 4 && p.side 56 == 1) && freeB p [60 - 1, 60 - 2, 60 - 3]) from rfl)
  have z56 : IntKind.i64.wrap 56 = 56 := by decide
  have z57 : IntKind.i64.wrap 57 = 57 := by decide
  have z58 : IntKind.i64.wrap 58 = 58 := by decide
  have z59 : IntKind.i64.wrap 59 = 59 := by decide
  have z61 : IntKind.i64.wrap 61 = 61 := by decide
  have z62 : IntKind.i64.wrap 62 = 62 := by decide
  have z63 : IntKind.i64.wrap 63 = 63 := by decide
  generalize hL1 : (if shortB p 1 = true then [(60 : Int) + 2] else []) = L1 at *
  generalize hL2 : (if farB p 1 = true then [(60 : Int) - 2] else []) = L2 at *
  generalize hB1 : shortB p 1 = B1 at *
  generalize hB2 : farB p 1 = B2 at *
  have HL1 := hid hL1
  have HL2 := hid hL2
  have hlen : L1.length ≤ 1 := by rw [← hL1]; split <;> simp
  clear hB1 hB2 hL1 hL2
  have y0 : 0 ≤ p.castle / 4 := by omega
  have y1 : p.castle / 4 ≤ 15 := by omega
  go_enter Tryz.func204, Tryz.ntmps204
  go_upto_region 6 with (fail)
  have hM0 : MSc1 p w ((w.alloc (.cells (moverCells p 60 6 1) 219 (0, 0))).alloc (.cells #[.int .i64 4, .int .i64 1] 26 (0, 0))) := MSc1.mk' (by simp [go_sem]) (blk_alloc_at _ _ _ (by simp)) (Ext.auto)
  refine world_cut (fun W => MSc1 p w W) hM0 ?_
  clear hM0
  intro W hM
  go_cut [66] (fun s66 wx => s66 = .bool B1 ∧ MSc1 p w wx)
  case first =>
    cases hb : (p.castle / 4 % 2 != 0)
    · have HO := hid (show B1 = false by rw [HS.out, show (p.castle / 4 % 2 == 1) = false by simp at hb ⊢; omega]; rfl)
      clear HS
      refine wp_region_held_drew (S := MSc1 p w) (by kernel_rfl) (hM.ext (Ext.drew (Ext.refl _))) (fun hH => ?_)
      refine hTk (i := 0) (v := ?_) (hy := Or.inl ⟨by rfl, ?_⟩) (h := ?_); rotate_left 1; (intro w0 hS; (try dsimp only at hS); unfold MSc1 at hS; go_simp; try with_reducible rfl); (try go_frame)
      refine hTk (i := 1) (v := ?_) (hy := Or.inl ⟨by rfl, ?_⟩) (h := ?_); rotate_left 1; (intro w0 hS; (try dsimp only at hS); unfold MSc1 at hS; go_simp; try with_reducible rfl); (try go_frame)
      refine hTk (i := 2) (v := ?_) (hy := Or.inl ⟨by rfl, ?_⟩) (h := ?_); rotate_left 1; (intro w0 hS; (try dsimp only at hS); unfold MSc1 at hS; go_simp; try with_reducible rfl); (try go_frame)
      refine hTk (i := 3) (v := ?_) (hy := Or.inl ⟨by rfl, ?_⟩) (h := ?_); rotate_left 1; (intro w0 hS; (try dsimp only at hS); unfold MSc1 at hS; go_simp; try with_reducible rfl); (try go_frame)
      refine hTk (i := 4) (v := undef) (hy := Or.inr ⟨by rfl, rfl⟩) (h := ?_); (try go_frame)
      refine hTk (i := 5) (v := undef) (hy := Or.inr ⟨by rfl, rfl⟩) (h := ?_); (try go_frame)
      refine hTk (i := 6) (v := undef) (hy := Or.inr ⟨by rfl, rfl⟩) (h := ?_); (try go_frame)
      refine hTk (i := 7) (v := undef) (hy := Or.inr ⟨by rfl, rfl⟩) (h := ?_); (try go_frame)
      refine hTk (i := 8) (v := undef) (hy := Or.inr ⟨by rfl, rfl⟩) (h := ?_); (try go_frame)
      refine hTk (i := 9) (v := undef) (hy := Or.inr ⟨by rfl, rfl⟩) (h := ?_); (try go_frame)
      refine hTk (i := 10) (v := undef) (hy := Or.inr ⟨by rfl, rfl⟩) (h := ?_); (try go_frame)
      refine hTk (i := 11) (v := undef) (hy := Or.inr ⟨by rfl, rfl⟩) (h := ?_); (try go_frame)
      refine hTk (i := 12) (v := ?_) (hy := Or.inl ⟨by rfl, ?_⟩) (h := ?_); rotate_left 1; (intro w0 hS; (try dsimp only at hS); unfold MSc1 at hS; go_simp; try with_reducible rfl); (try go_frame)
      refine hTk (i := 13) (v := ?_) (hy := Or.inl ⟨by rfl, ?_⟩) (h := ?_); rotate_left 1; (intro w0 hS; (try dsimp only at hS); unfold MSc1 at hS; go_simp; try with_reducible rfl); (try go_frame)
      refine hTk (i := 14) (v := undef) (hy := Or.inr ⟨by rfl, rfl⟩) (h := ?_); (try go_frame)
      refine hTk (i := 15) (v := undef) (hy := Or.inr ⟨by rfl, rfl⟩) (h := ?_); (try go_frame)
      refine hTk (i := 16) (v := undef) (hy := Or.inr ⟨by rfl, rfl⟩) (h := ?_); (try go_frame)
      refine hTk (i := 17) (v := undef) (hy := Or.inr ⟨by rfl, rfl⟩) (h := ?_); (try go_frame)
      refine hTk (i := 18) (v := undef) (hy := Or.inr ⟨by rfl, rfl⟩) (h := ?_); (try go_frame)
      refine hTk (i := 19) (v := undef) (hy := Or.inr ⟨by rfl, rfl⟩) (h := ?_); (try go_frame)
      refine hTk (i := 20) (v := undef) (hy := Or.inr ⟨by rfl, rfl⟩) (h := ?_); (try go_frame)
      refine hTk (i := 21) (v := ?_) (hy := Or.inl ⟨by rfl, ?_⟩) (h := ?_); rotate_left 1; (intro w0 hS; (try dsimp only at hS); unfold MSc1 at hS; go_simp; try with_reducible rfl); (try go_frame)
      refine wpAnyH_done (by kernel_rfl) ?_ _
      go_wp2
      go_meet
      case rel => exact ⟨by rw [HO.out], hH⟩
    · cases hq : (p.kind 63 == 4 && p.side 63 == 1)
      · have HO := hid (show B1 = false by rw [HS.out, hq]; simp)
        clear HS
        refine wp_region_held_drew (S := MSc1 p w) (by kernel_rfl) (hM.ext (Ext.drew (Ext.refl _))) (fun hH => ?_)
        refine hTk (i := 0) (v := ?_) (hy := Or.inl ⟨by rfl, ?_⟩) (h := ?_); rotate_left 1; (intro w0 hS; (try dsimp only at hS); unfold MSc1 at hS; go_simp; try with_reducible rfl); (try go_frame)
        refine hTk (i := 1) (v := ?_) (hy := Or.inl ⟨by rfl, ?_⟩) (h := ?_); rotate_left 1; (intro w0 hS; (try dsimp only at hS); unfold MSc1 at hS; go_simp; try with_reducible rfl); (try go_frame)
        refine hTk (i := 2) (v := ?_) (hy := Or.inl ⟨by rfl, ?_⟩) (h := ?_); rotate_left 1; (intro w0 hS; (try dsimp only at hS); unfold MSc1 at hS; go_simp; try with_reducible rfl); (try go_frame)
        refine hTk (i := 3) (v := ?_) (hy := Or.inl ⟨by rfl, ?_⟩) (h := ?_); rotate_left 1; (intro w0 hS; (try dsimp only at hS); unfold MSc1 at hS; go_simp; try with_reducible rfl); (try go_frame)
        refine hTk (i := 4) (v := ?_) (hy := Or.inl ⟨by rfl, ?_⟩) (h := ?_); rotate_left 1; (intro w0 hS; (try dsimp only at hS); unfold MSc1 at hS; go_simp; try with_reducible rfl); (try go_frame)
        refine hTk (i := 5) (v := ?_) (hy := Or.inl ⟨by rfl, ?_⟩) (h := ?_); rotate_left 1; (intro w0 hS; (try dsimp only at hS); unfold MSc1 at hS; go_simp; try with_reducible rfl); (try go_frame)
        refine hTk (i := 6) (v := ?_) (hy := Or.inl ⟨by rfl, ?_⟩) (h := ?_); rotate_left 1; (intro w0 hS; (try dsimp only at hS); unfold MSc1 at hS; go_simp; try with_reducible rfl); (try go_frame)
        refine hTk (i := 7) (v := ?_) (hy := Or.inl ⟨by rfl, ?_⟩) (h := ?_); rotate_left 1; (intro w0 hS; (try dsimp only at hS); unfold MSc1 at hS; go_simp; try with_reducible rfl); (try go_frame)
        refine hTk (i := 8) (v := ?_) (hy := Or.inl ⟨by rfl, ?_⟩) (h := ?_); rotate_left 1; (intro w0 hS; (try dsimp only at hS); unfold MSc1 at hS; go_simp; try with_reducible rfl); (try go_frame)
        refine hTk (i := 9) (v := ?_) (hy := Or.inl ⟨by rfl, ?_⟩) (h := ?_); rotate_left 1; (intro w0 hS; (try dsimp only at hS); unfold MSc1 at hS; go_simp; try with_reducible rfl); (try go_frame)
        refine hTk (i := 10) (v := ?_) (hy := Or.inl ⟨by rfl, ?_⟩) (h := ?_); rotate_left 1; (intro w0 hS; (try dsimp only at hS); unfold MSc1 at hS; go_simp; try with_reducible rfl); (try go_frame)
        refine hTk (i := 11) (v := ?_) (hy := Or.inl ⟨by rfl, ?_⟩) (h := ?_); rotate_left 1; (intro w0 hS; (try dsimp only at hS); unfold MSc1 at hS; go_simp; try with_reducible rfl); (try go_frame)
        refine hTk (i := 12) (v := ?_) (hy := Or.inl ⟨by rfl, ?_⟩) (h := ?_); rotate_left 1; (intro w0 hS; (try dsimp only at hS); unfold MSc1 at hS; go_simp; try with_reducible rfl); (try go_frame)
        refine hTk (i := 13) (v := ?_) (hy := Or.inl ⟨by rfl, ?_⟩) (h := ?_); rotate_left 1; (intro w0 hS; (try dsimp only at hS); unfold MSc1 at hS; go_simp; try with_reducible rfl); (try go_frame)
        refine hTk (i := 14) (v := undef) (hy := Or.inr ⟨by rfl, rfl⟩) (h := ?_); (try go_frame)
        refine hTk (i := 15) (v := undef) (hy := Or.inr ⟨by rfl, rfl⟩) (h := ?_); (try go_frame)
        refine hTk (i := 16) (v := undef) (hy := Or.inr ⟨by rfl, rfl⟩) (h := ?_); (try go_frame)
        refine hTk (i := 17) (v := undef) (hy := Or.inr ⟨by rfl, rfl⟩) (h := ?_); (try go_frame)
        refine hTk (i := 18) (v := undef) (hy := Or.inr ⟨by rfl, rfl⟩) (h := ?_); (try go_frame)
        refine hTk (i := 19) (v := undef) (hy := Or.inr ⟨by rfl, rfl⟩) (h := ?_); (try go_frame)
        refine hTk (i := 20) (v := undef) (hy := Or.inr ⟨by rfl, rfl⟩) (h := ?_); (try go_frame)
        refine hTk (i := 21) (v := ?_) (hy := Or.inl ⟨by rfl, ?_⟩) (h := ?_); rotate_left 1; (intro w0 hS; (try dsimp only at hS); unfold MSc1 at hS; go_simp; try with_reducible rfl); (try go_frame)
        refine wpAnyH_done (by kernel_rfl) ?_ _
        go_wp2
        go_meet
        case rel => exact ⟨by rw [HO.out], hH⟩
      · have HO := hid (show B1 = freeB p [61, 62] by rw [HS.out, hq, show (p.castle / 4 % 2 == 1) = true by simp at hb ⊢; omega]; rfl)
        clear HS
        refine wp_region_held_drew (S := MSc1 p w) (by kernel_rfl) (hM.ext (Ext.drew (Ext.refl _))) (fun hH => ?_)
        refine hTk (i := 0) (v := ?_) (hy := Or.inl ⟨by rfl, ?_⟩) (h := ?_); rotate_left 1; (intro w0 hS; (try dsimp only at hS); unfold MSc1 at hS; go_simp; try with_reducible rfl); (try go_frame)
        refine hTk (i := 1) (v := ?_) (hy := Or.inl ⟨by rfl, ?_⟩) (h := ?_); rotate_left 1; (intro w0 hS; (try dsimp only at hS); unfold MSc1 at hS; go_simp; try with_reducible rfl); (try go_frame)
        refine hTk (i := 2) (v := ?_) (hy := Or.inl ⟨by rfl, ?_⟩) (h := ?_); rotate_left 1; (intro w0 hS; (try dsimp only at hS); unfold MSc1 at hS; go_simp; try with_reducible rfl); (try go_frame)
        refine hTk (i := 3) (v := ?_) (hy := Or.inl ⟨by rfl, ?_⟩) (h := ?_); rotate_left 1; (intro w0 hS; (try dsimp only at hS); unfold MSc1 at hS; go_simp; try with_reducible rfl); (try go_frame)
        refine hTk (i := 4) (v := ?_) (hy := Or.inl ⟨by rfl, ?_⟩) (h := ?_); rotate_left 1; (intro w0 hS; (try dsimp only at hS); unfold MSc1 at hS; go_simp; try with_reducible rfl); (try go_frame)
        refine hTk (i := 5) (v := ?_) (hy := Or.inl ⟨by rfl, ?_⟩) (h := ?_); rotate_left 1; (intro w0 hS; (try dsimp only at hS); unfold MSc1 at hS; go_simp; try with_reducible rfl); (try go_frame)
        refine hTk (i := 6) (v := ?_) (hy := Or.inl ⟨by rfl, ?_⟩) (h := ?_); rotate_left 1; (intro w0 hS; (try dsimp only at hS); unfold MSc1 at hS; go_simp; try with_reducible rfl); (try go_frame)
        refine hTk (i := 7) (v := ?_) (hy := Or.inl ⟨by rfl, ?_⟩) (h := ?_); rotate_left 1; (intro w0 hS; (try dsimp only at hS); unfold MSc1 at hS; go_simp; try with_reducible rfl); (try go_frame)
        refine hTk (i := 8) (v := ?_) (hy := Or.inl ⟨by rfl, ?_⟩) (h := ?_); rotate_left 1; (intro w0 hS; (try dsimp only at hS); unfold MSc1 at hS; go_simp; try with_reducible rfl); (try go_frame)
        refine hTk (i := 9) (v := ?_) (hy := Or.inl ⟨by rfl, ?_⟩) (h := ?_); rotate_left 1; (intro w0 hS; (try dsimp only at hS); unfold MSc1 at hS; go_simp; try with_reducible rfl); (try go_frame)
        refine hTk (i := 10) (v := ?_) (hy := Or.inl ⟨by rfl, ?_⟩) (h := ?_); rotate_left 1; (intro w0 hS; (try dsimp only at hS); unfold MSc1 at hS; go_simp; try with_reducible rfl); (try go_frame)
        refine hTk (i := 11) (v := ?_) (hy := Or.inl ⟨by rfl, ?_⟩) (h := ?_); rotate_left 1; (intro w0 hS; (try dsimp only at hS); unfold MSc1 at hS; go_simp; try with_reducible rfl); (try go_frame)
        refine hTk (i := 12) (v := ?_) (hy := Or.inl ⟨by rfl, ?_⟩) (h := ?_); rotate_left 1; (intro w0 hS; (try dsimp only at hS); unfold MSc1 at hS; go_simp; try with_reducible rfl); (try go_frame)
        refine hTk (i := 13) (v := ?_) (hy := Or.inl ⟨by rfl, ?_⟩) (h := ?_); rotate_left 1; (intro w0 hS; (try dsimp only at hS); unfold MSc1 at hS; go_simp; try with_reducible rfl); (try go_frame)
        refine hTk (i := 14) (v := ?_) (hy := Or.inl ⟨by rfl, ?_⟩) (h := ?_); rotate_left 1; (intro w0 hS; (try dsimp only at hS); unfold MSc1 at hS; go_simp; try with_reducible rfl); (try go_frame)
        refine hTk (i := 15) (v := ?_) (hy := Or.inl ⟨by rfl, ?_⟩) (h := ?_); rotate_left 1; (intro w0 hS; (try dsimp only at hS); unfold MSc1 at hS; go_simp; try with_reducible rfl); (try go_frame)
        refine hTk (i := 16) (v := ?_) (hy := Or.inl ⟨by rfl, ?_⟩) (h := ?_); rotate_left 1; (intro w0 hS; (try dsimp only at hS); unfold MSc1 at hS; go_simp; try with_reducible rfl); (try go_frame)
        refine hTk (i := 17) (v := ?_) (hy := Or.inl ⟨by rfl, ?_⟩) (h := ?_); rotate_left 1; (intro w0 hS; (try dsimp only at hS); unfold MSc1 at hS; go_simp; try with_reducible rfl); (try go_frame)
        refine hTk (i := 18) (v := ?_) (hy := Or.inl ⟨by rfl, ?_⟩) (h := ?_); rotate_left 1; (intro w0 hS; (try dsimp only at hS); unfold MSc1 at hS; go_simp; try with_reducible rfl); (try go_frame)
        refine wpAnyH_ready (rs := [19]) (by kernel_rfl) (by simp) ?_; refine hCo (h := fun K hK => ?_) (hs := AllReadyH.nil); go_simp
        refine hK.out _ _ (hH.ext (by first | assumption | exact Ext.alloc (Ext.refl _) _)) (fun hH => ?_); clear hK; (try go_frame)
        refine wpAnyH_ready (rs := [20]) (by kernel_rfl) (by simp) ?_; refine hCo (h := fun K hK => ?_) (hs := AllReadyH.nil); go_simp
        refine (free_any2 p _ _ _ [61, 62] _ _ (Sl.lits [61, 62] _ _ rfl (alloc_ints2d _ _ _ _)) (by simp)).mono ?_
        rintro e w8 ⟨rfl, hx8⟩
        refine hK.out _ _ (hH.ext (by first | assumption | exact Ext.alloc (Ext.refl _) _)) (fun hH => ?_); clear hK; (try go_frame)
        refine hTk (i := 21) (v := ?_) (hy := Or.inl ⟨by rfl, ?_⟩) (h := ?_); rotate_left 1; (intro w0 hS; (try dsimp only at hS); unfold MSc1 at hS; go_simp; try with_reducible rfl); (try go_frame)
        refine wpAnyH_done (by kernel_rfl) ?_ _
        go_wp2
        go_meet
        case rel => exact ⟨by rw [HO.out], hH⟩
  case rest =>
    obtain ⟨rfl, hM2⟩ := hcut
    clear hM
    go_upto_if 66 with (fail)
    go_cut [2] (fun s2 wx => wx.ownsRow (w.heap.size + 2) 3 1 s2 L1.length (ints L1) ∧ MSc1 p w wx)
    case first =>
      have HM := hid hM2
      have hsz := hM2.sz
      clear hM2
      cases B1
      · go_wp2
        go_meet
        case rel => exact ⟨by rw [← HL1.out]; exact World.ownsRow_nil _ _ _ _, HM.out⟩
      · go_wp2_with (at_builtin; refine wpList_append_int rfl _ _ rfl (w.heap.size + 2) (.slice none 0 0) 0 [] rfl (World.ownsRow_nil _ _ _ _) _ (.int .i64 (60 + 2)) rfl rfl ?c1 (by decide) ?c3 (fun v' w1 hown1 hg1 => ?_))
        case c3 => first | omega | (simp; omega)
        go_meet
        case rel => exact ⟨by rw [← HL1.out]; simpa [ints] using hown1, (HM.out.ext (Ext.alloc (Ext.refl _) _)).grown (World.ownsRow_nil _ _ _ _) hg1⟩
    case rest =>
      obtain ⟨ho, hM3⟩ := hcut
      clear hM2
      go_upto_region 8 with (fail)
      have hM := And.intro hM3 ho
      clear hM3 ho
      go_cut [2, 95] (fun s2 s95 wx => s95 = .bool B2 ∧ (MSc1 p w wx ∧ wx.ownsRow (w.heap.size + 2) 3 1 s2 L1.length (ints L1)))
      case first =>
        cases hb : (p.castle / 4 / 2 % 2 * 2 != 0)
        · have HO := hid (show B2 = false by rw [HF.out, show (p.castle / 8 % 2 == 1) = false by simp at hb ⊢; omega]; rfl)
          clear HF
          refine wp_region_held_drew (S := (fun W => MSc1 p w W ∧ W.ownsRow (w.heap.size + 2) 3 1 u2 L1.length (ints L1))) (by kernel_rfl) (⟨hM.1.ext (Ext.drew (Ext.refl _)), own_ext hM.2 (Ext.drew (Ext.refl _))⟩) (fun hH => ?_)
          refine hTk (i := 0) (v := ?_) (hy := Or.inl ⟨by rfl, ?_⟩) (h := ?_); rotate_left 1; (intro w0 hS; (try dsimp only at hS); unfold MSc1 at hS; go_simp; try with_reducible rfl); (try go_frame)
          refine hTk (i := 1) (v := ?_) (hy := Or.inl ⟨by rfl, ?_⟩) (h := ?_); rotate_left 1; (intro w0 hS; (try dsimp only at hS); unfold MSc1 at hS; go_simp; try with_reducible rfl); (try go_frame)
          refine hTk (i := 2) (v := ?_) (hy := Or.inl ⟨by rfl, ?_⟩) (h := ?_); rotate_left 1; (intro w0 hS; (try dsimp only at hS); unfold MSc1 at hS; go_simp; try with_reducible rfl); (try go_frame)
          refine hTk (i := 3) (v := ?_) (hy := Or.inl ⟨by rfl, ?_⟩) (h := ?_); rotate_left 1; (intro w0 hS; (try dsimp only at hS); unfold MSc1 at hS; go_simp; try with_reducible rfl); (try go_frame)
          refine hTk (i := 4) (v := undef) (hy := Or.inr ⟨by rfl, rfl⟩) (h := ?_); (try go_frame)
          refine hTk (i := 5) (v := undef) (hy := Or.inr ⟨by rfl, rfl⟩) (h := ?_); (try go_frame)
          refine hTk (i := 6) (v := undef) (hy := Or.inr ⟨by rfl, rfl⟩) (h := ?_); (try go_frame)
          refine hTk (i := 7) (v := undef) (hy := Or.inr ⟨by rfl, rfl⟩) (h := ?_); (try go_frame)
          refine hTk (i := 8) (v := undef) (hy := Or.inr ⟨by rfl, rfl⟩) (h := ?_); (try go_frame)
          refine hTk (i := 9) (v := undef) (hy := Or.inr ⟨by rfl, rfl⟩) (h := ?_); (try go_frame)
          refine hTk (i := 10) (v := undef) (hy := Or.inr ⟨by rfl, rfl⟩) (h := ?_); (try go_frame)
          refine hTk (i := 11) (v := undef) (hy := Or.inr ⟨by rfl, rfl⟩) (h := ?_); (try go_frame)
          refine hTk (i := 12) (v := ?_) (hy := Or.inl ⟨by rfl, ?_⟩) (h := ?_); rotate_left 1; (intro w0 hS; (try dsimp only at hS); unfold MSc1 at hS; go_simp; try with_reducible rfl); (try go_frame)
          refine hTk (i := 13) (v := ?_) (hy := Or.inl ⟨by rfl, ?_⟩) (h := ?_); rotate_left 1; (intro w0 hS; (try dsimp only at hS); unfold MSc1 at hS; go_simp; try with_reducible rfl); (try go_frame)
          refine hTk (i := 14) (v := undef) (hy := Or.inr ⟨by rfl, rfl⟩) (h := ?_); (try go_frame)
          refine hTk (i := 15) (v := undef) (hy := Or.inr ⟨by rfl, rfl⟩) (h := ?_); (try go_frame)
          refine hTk (i := 16) (v := undef) (hy := Or.inr ⟨by rfl, rfl⟩) (h := ?_); (try go_frame)
          refine hTk (i := 17) (v := undef) (hy := Or.inr ⟨by rfl, rfl⟩) (h := ?_); (try go_frame)
          refine hTk (i := 18) (v := undef) (hy := Or.inr ⟨by rfl, rfl⟩) (h := ?_); (try go_frame)
          refine hTk (i := 19) (v := undef) (hy := Or.inr ⟨by rfl, rfl⟩) (h := ?_); (try go_frame)
          refine hTk (i := 20) (v := undef) (hy := Or.inr ⟨by rfl, rfl⟩) (h := ?_); (try go_frame)
          refine hTk (i := 21) (v := undef) (hy := Or.inr ⟨by rfl, rfl⟩) (h := ?_); (try go_frame)
          refine hTk (i := 22) (v := undef) (hy := Or.inr ⟨by rfl, rfl⟩) (h := ?_); (try go_frame)
          refine hTk (i := 23) (v := ?_) (hy := Or.inl ⟨by rfl, ?_⟩) (h := ?_); rotate_left 1; (intro w0 hS; (try dsimp only at hS); unfold MSc1 at hS; go_simp; try with_reducible rfl); (try go_frame)
          refine wpAnyH_done (by kernel_rfl) ?_ _
          go_wp2
          go_meet
          case rel => exact ⟨by rw [HO.out], hH⟩
        · cases hq : (p.kind 56 == 4 && p.side 56 == 1)
          · have HO := hid (show B2 = false by rw [HF.out, hq]; simp)
            clear HF
            refine wp_region_held_drew (S := (fun W => MSc1 p w W ∧ W.ownsRow (w.heap.size + 2) 3 1 u2 L1.length (ints L1))) (by kernel_rfl) (⟨hM.1.ext (Ext.drew (Ext.refl _)), own_ext hM.2 (Ext.drew (Ext.refl _))⟩) (fun hH => ?_)
            refine hTk (i := 0) (v := ?_) (hy := Or.inl ⟨by rfl, ?_⟩) (h := ?_); rotate_left 1; (intro w0 hS; (try dsimp only at hS); unfold MSc1 at hS; go_simp; try with_reducible rfl); (try go_frame)
            refine hTk (i := 1) (v := ?_) (hy := Or.inl ⟨by rfl, ?_⟩) (h := ?_); rotate_left 1; (intro w0 hS; (try dsimp only at hS); unfold MSc1 at hS; go_simp; try with_reducible rfl); (try go_frame)
            refine hTk (i := 2) (v := ?_) (hy := Or.inl ⟨by rfl, ?_⟩) (h := ?_); rotate_left 1; (intro w0 hS; (try dsimp only at hS); unfold MSc1 at hS; go_simp; try with_reducible rfl); (try go_frame)
            refine hTk (i := 3) (v := ?_) (hy := Or.inl ⟨by rfl, ?_⟩) (h := ?_); rotate_left 1; (intro w0 hS; (try dsimp only at hS); unfold MSc1 at hS; go_simp; try with_reducible rfl); (try go_frame)
            refine hTk (i := 4) (v := ?_) (hy := Or.inl ⟨by rfl, ?_⟩) (h := ?_); rotate_left 1; (intro w0 hS; (try dsimp only at hS); unfold MSc1 at hS; go_simp; try with_reducible rfl); (try go_frame)
            refine hTk (i := 5) (v := ?_) (hy := Or.inl ⟨by rfl, ?_⟩) (h := ?_); rotate_left 1; (intro w0 hS; (try dsimp only at hS); unfold MSc1 at hS; go_simp; try with_reducible rfl); (try go_frame)
            refine hTk (i := 6) (v := ?_) (hy := Or.inl ⟨by rfl, ?_⟩) (h := ?_); rotate_left 1; (intro w0 hS; (try dsimp only at hS); unfold MSc1 at hS; go_simp; try with_reducible rfl); (try go_frame)
            refine hTk (i := 7) (v := ?_) (hy := Or.inl ⟨by rfl, ?_⟩) (h := ?_); rotate_left 1; (intro w0 hS; (try dsimp only at hS); unfold MSc1 at hS; go_simp; try with_reducible rfl); (try go_frame)
            refine hTk (i := 8) (v := ?_) (hy := Or.inl ⟨by rfl, ?_⟩) (h := ?_); rotate_left 1; (intro w0 hS; (try dsimp only at hS); unfold MSc1 at hS; go_simp; try with_reducible rfl); (try go_frame)
            refine hTk (i := 9) (v := ?_) (hy := Or.inl ⟨by rfl, ?_⟩) (h := ?_); rotate_left 1; (intro w0 hS; (try dsimp only at hS); unfold MSc1 at hS; go_simp; try with_reducible rfl); (try go_frame)
            refine hTk (i := 10) (v := ?_) (hy := Or.inl ⟨by rfl, ?_⟩) (h := ?_); rotate_left 1; (intro w0 hS; (try dsimp only at hS); unfold MSc1 at hS; go_simp; try with_reducible rfl); (try go_frame)
            refine hTk (i := 11) (v := ?_) (hy := Or.inl ⟨by rfl, ?_⟩) (h := ?_); rotate_left 1; (intro w0 hS; (try dsimp only at hS); unfold MSc1 at hS; go_simp; try with_reducible rfl); (try go_frame)
            refine hTk (i := 12) (v := ?_) (hy := Or.inl ⟨by rfl, ?_⟩) (h := ?_); rotate_left 1; (intro w0 hS; (try dsimp only at hS); unfold MSc1 at hS; go_simp; try with_reducible rfl); (try go_frame)
            refine hTk (i := 13) (v := ?_) (hy := Or.inl ⟨by rfl, ?_⟩) (h := ?_); rotate_left 1; (intro w0 hS; (try dsimp only at hS); unfold MSc1 at hS; go_simp; try with_reducible rfl); (try go_frame)
            refine hTk (i := 14) (v := undef) (hy := Or.inr ⟨by rfl, rfl⟩) (h := ?_); (try go_frame)
            refine hTk (i := 15) (v := undef) (hy := Or.inr ⟨by rfl, rfl⟩) (h := ?_); (try go_frame)
            refine hTk (i := 16) (v := undef) (hy := Or.inr ⟨by rfl, rfl⟩) (h := ?_); (try go_frame)
            refine hTk (i := 17) (v := undef) (hy := Or.inr ⟨by rfl, rfl⟩) (h := ?_); (try go_frame)
            refine hTk (i := 18) (v := undef) (hy := Or.inr ⟨by rfl, rfl⟩) (h := ?_); (try go_frame)
            refine hTk (i := 19) (v := undef) (hy := Or.inr ⟨by rfl, rfl⟩) (h := ?_); (try go_frame)
            refine hTk (i := 20) (v := undef) (hy := Or.inr ⟨by rfl, rfl⟩) (h := ?_); (try go_frame)
            refine hTk (i := 21) (v := undef) (hy := Or.inr ⟨by rfl, rfl⟩) (h := ?_); (try go_frame)
            refine hTk (i := 22) (v := undef) (hy := Or.inr ⟨by rfl, rfl⟩) (h := ?_); (try go_frame)
            refine hTk (i := 23) (v := ?_) (hy := Or.inl ⟨by rfl, ?_⟩) (h := ?_); rotate_left 1; (intro w0 hS; (try dsimp only at hS); unfold MSc1 at hS; go_simp; try with_reducible rfl); (try go_frame)
            refine wpAnyH_done (by kernel_rfl) ?_ _
            go_wp2
            go_meet
            case rel => exact ⟨by rw [HO.out], hH⟩
          · have HO := hid (show B2 = freeB p [59, 58, 57] by rw [HF.out, hq, show (p.castle / 8 % 2 == 1) = true by simp at hb ⊢; omega]; rfl)
            clear HF
            refine wp_region_held_drew (S := (fun W => MSc1 p w W ∧ W.ownsRow (w.heap.size + 2) 3 1 u2 L1.length (ints L1))) (by kernel_rfl) (⟨hM.1.ext (Ext.drew (Ext.refl _)), own_ext hM.2 (Ext.drew (Ext.refl _))⟩) (fun hH => ?_)
            refine hTk (i := 0) (v := ?_) (hy := Or.inl ⟨by rfl, ?_⟩) (h := ?_); rotate_left 1; (intro w0 hS; (try dsimp only at hS); unfold MSc1 at hS; go_simp; try with_reducible rfl); (try go_frame)
            refine hTk (i := 1) (v := ?_) (hy := Or.inl ⟨by rfl, ?_⟩) (h := ?_); rotate_left 1; (intro w0 hS; (try dsimp only at hS); unfold MSc1 at hS; go_simp; try with_reducible rfl); (try go_frame)
            refine hTk (i := 2) (v := ?_) (hy := Or.inl ⟨by rfl, ?_⟩) (h := ?_); rotate_left 1; (intro w0 hS; (try dsimp only at hS); unfold MSc1 at hS; go_simp; try with_reducible rfl); (try go_frame)
            refine hTk (i := 3) (v := ?_) (hy := Or.inl ⟨by rfl, ?_⟩) (h := ?_); rotate_left 1; (intro w0 hS; (try dsimp only at hS); unfold MSc1 at hS; go_simp; try with_reducible rfl); (try go_frame)
            refine hTk (i := 4) (v := ?_) (hy := Or.inl ⟨by rfl, ?_⟩) (h := ?_); rotate_left 1; (intro w0 hS; (try dsimp only at hS); unfold MSc1 at hS; go_simp; try with_reducible rfl); (try go_frame)
            refine hTk (i := 5) (v := ?_) (hy := Or.inl ⟨by rfl, ?_⟩) (h := ?_); rotate_left 1; (intro w0 hS; (try dsimp only at hS); unfold MSc1 at hS; go_simp; try with_reducible rfl); (try go_frame)
            refine hTk (i := 6) (v := ?_) (hy := Or.inl ⟨by rfl, ?_⟩) (h := ?_); rotate_left 1; (intro w0 hS; (try dsimp only at hS); unfold MSc1 at hS; go_simp; try with_reducible rfl); (try go_frame)
            refine hTk (i := 7) (v := ?_) (hy := Or.inl ⟨by rfl, ?_⟩) (h := ?_); rotate_left 1; (intro w0 hS; (try dsimp only at hS); unfold MSc1 at hS; go_simp; try with_reducible rfl); (try go_frame)
            refine hTk (i := 8) (v := ?_) (hy := Or.inl ⟨by rfl, ?_⟩) (h := ?_); rotate_left 1; (intro w0 hS; (try dsimp only at hS); unfold MSc1 at hS; go_simp; try with_reducible rfl); (try go_frame)
            refine hTk (i := 9) (v := ?_) (hy := Or.inl ⟨by rfl, ?_⟩) (h := ?_); rotate_left 1; (intro w0 hS; (try dsimp only at hS); unfold MSc1 at hS; go_simp; try with_reducible rfl); (try go_frame)
            refine hTk (i := 10) (v := ?_) (hy := Or.inl ⟨by rfl, ?_⟩) (h := ?_); rotate_left 1; (intro w0 hS; (try dsimp only at hS); unfold MSc1 at hS; go_simp; try with_reducible rfl); (try go_frame)
            refine hTk (i := 11) (v := ?_) (hy := Or.inl ⟨by rfl, ?_⟩) (h := ?_); rotate_left 1; (intro w0 hS; (try dsimp only at hS); unfold MSc1 at hS; go_simp; try with_reducible rfl); (try go_frame)
            refine hTk (i := 12) (v := ?_) (hy := Or.inl ⟨by rfl, ?_⟩) (h := ?_); rotate_left 1; (intro w0 hS; (try dsimp only at hS); unfold MSc1 at hS; go_simp; try with_reducible rfl); (try go_frame)
            refine hTk (i := 13) (v := ?_) (hy := Or.inl ⟨by rfl, ?_⟩) (h := ?_); rotate_left 1; (intro w0 hS; (try dsimp only at hS); unfold MSc1 at hS; go_simp; try with_reducible rfl); (try go_frame)
            refine hTk (i := 14) (v := ?_) (hy := Or.inl ⟨by rfl, ?_⟩) (h := ?_); rotate_left 1; (intro w0 hS; (try dsimp only at hS); unfold MSc1 at hS; go_simp; try with_reducible rfl); (try go_frame)
            refine hTk (i := 15) (v := ?_) (hy := Or.inl ⟨by rfl, ?_⟩) (h := ?_); rotate_left 1; (intro w0 hS; (try dsimp only at hS); unfold MSc1 at hS; go_simp; try with_reducible rfl); (try go_frame)
            refine hTk (i := 16) (v := ?_) (hy := Or.inl ⟨by rfl, ?_⟩) (h := ?_); rotate_left 1; (intro w0 hS; (try dsimp only at hS); unfold MSc1 at hS; go_simp; try with_reducible rfl); (try go_frame)
            refine hTk (i := 17) (v := ?_) (hy := Or.inl ⟨by rfl, ?_⟩) (h := ?_); rotate_left 1; (intro w0 hS; (try dsimp only at hS); unfold MSc1 at hS; go_simp; try with_reducible rfl); (try go_frame)
            refine hTk (i := 18) (v := ?_) (hy := Or.inl ⟨by rfl, ?_⟩) (h := ?_); rotate_left 1; (intro w0 hS; (try dsimp only at hS); unfold MSc1 at hS; go_simp; try with_reducible rfl); (try go_frame)
            refine hTk (i := 19) (v := ?_) (hy := Or.inl ⟨by rfl, ?_⟩) (h := ?_); rotate_left 1; (intro w0 hS; (try dsimp only at hS); unfold MSc1 at hS; go_simp; try with_reducible rfl); (try go_frame)
            refine hTk (i := 20) (v := ?_) (hy := Or.inl ⟨by rfl, ?_⟩) (h := ?_); rotate_left 1; (intro w0 hS; (try dsimp only at hS); unfold MSc1 at hS; go_simp; try with_reducible rfl); (try go_frame)
            refine wpAnyH_ready (rs := [21]) (by kernel_rfl) (by simp) ?_; refine hCo (h := fun K hK => ?_) (hs := AllReadyH.nil); go_simp
            refine hK.out _ _ (⟨hH.1.ext (by first | assumption | exact Ext.alloc (Ext.refl _) _), own_ext hH.2 (by first | assumption | exact Ext.alloc (Ext.refl _) _)⟩) (fun hH => ?_); clear hK; (try go_frame)
            refine wpAnyH_ready (rs := [22]) (by kernel_rfl) (by simp) ?_; refine hCo (h := fun K hK => ?_) (hs := AllReadyH.nil); go_simp
            refine (free_any2 p _ _ _ [59, 58, 57] _ _ (Sl.lits [59, 58, 57] _ _ rfl (alloc_ints3d _ _ _ _ _)) (by simp)).mono ?_
            rintro e w8 ⟨rfl, hx8⟩
            refine hK.out _ _ (⟨hH.1.ext (by first | assumption | exact Ext.alloc (Ext.refl _) _), own_ext hH.2 (by first | assumption | exact Ext.alloc (Ext.refl _) _)⟩) (fun hH => ?_); clear hK; (try go_frame)
            refine hTk (i := 23) (v := ?_) (hy := Or.inl ⟨by rfl, ?_⟩) (h := ?_); rotate_left 1; (intro w0 hS; (try dsimp only at hS); unfold MSc1 at hS; go_simp; try with_reducible rfl); (try go_frame)
            refine wpAnyH_done (by kernel_rfl) ?_ _
            go_wp2
            go_meet
            case rel => exact ⟨by rw [HO.out], hH⟩
      case rest =>
        obtain ⟨rfl, hM4⟩ := hcut
        clear hM
        go_upto_if 95 with (fail)
        have hsz := hM4.1.sz
        have HM := hid hM4
        clear hM4
        cases B2
        · go_wp2
          go_ret
          exact RetInts.mk' HM.out.2 (by rw [← HL2.out]; simp) (by rw [← HL2.out]; simp) (by omega) HM.out.1.x
        · go_wp2_with (at_builtin; refine wpList_append_int rfl _ _ rfl (w.heap.size + 2) _ L1.length (ints L1) rfl (own_ext HM.out.2 (Ext.alloc (Ext.refl _) _)) _ (.int .i64 (60 - 2)) rfl rfl ?d1 (by omega) ?d3 (fun v' w1 hown1 hg1 => ?_))
          case d3 => first | omega | (simp; omega)
          go_ret
          exact RetInts.mk' hown1 (by rw [← HL2.out]; simp) (by rw [← HL2.out]; simp [ints]) (by omega) ((HM.out.1.ext (Ext.alloc (Ext.refl _) _)).grown (own_ext HM.out.2 (Ext.alloc (Ext.refl _) _)) hg1).x
theorem castlings_any (p : Pos) (a k s : Int) (w : World) (hs : s = 0 ∨ s = 1) : Calls Tryz.prog 204 #[.agg (moverCells p a k s)] w (RetInts (castlingsL p a k s) w) := by
  by_cases h : k = 6 ∧ a = homeOf s ∧ 0 ≤ p.castle ∧ p.castle ≤ 15
  · have E : castlingsL p a k s = (if shortB p s = true then [homeOf s + 2] else []) ++ (if farB p s = true then [homeOf s - 2] else []) := if_pos h
    obtain ⟨rfl, rfl, c0, c1⟩ := h
    rw [E]
    rcases hs with rfl | rfl
    · exact castlings_yes0 p w c0 c1
    · exact castlings_yes1 p w c0 c1
  · exact castlings_no p a k s w hs h
end Go.Proofs.YtdmgimfgoajmjaaGreatDoor
