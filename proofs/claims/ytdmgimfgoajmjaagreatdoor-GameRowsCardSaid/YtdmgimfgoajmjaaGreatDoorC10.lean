/- What a piece attacks. -/
import Derived.Test.YtdmgimfgoajmjaaGreatDoorC09
import Derived.Deep.RegionHeld3
set_option linter.unusedVariables false
set_option linter.unusedSimpArgs false
set_option maxRecDepth 100000
set_option maxHeartbeats 2000000
namespace Go.Proofs.YtdmgimfgoajmjaaGreatDoor
open Go.RowKit
def fromL (p : Pos) (s : Int) : List Int :=
 let k := p.kind s.toNat
 let on : Int := if p.side s.toNat = 1 then -1 else 1
 if p.side s.toNat = 1 ∨ p.side s.toNat = 0 then
  if k = 1 then ringL s [(-1, on), (1, on)]
  else if k = 2 then ringL s jumpsW
  else if k = 6 then ringL s (straightW ++ slantW)
  else if k = 4 then alongL p s straightW
  else if k = 3 then alongL p s slantW
  else if k = 5 then alongL p s (straightW ++ slantW)
  else []
 else []
def straightA : Array Value := #[.int .i64 1, .int .i64 0, .int .i64 (-1), .int .i64 0, .int .i64 0, .int .i64 1, .int .i64 0, .int .i64 (-1)]
@[go_sem] theorem pairs_straight : (pairs straightW).toArray = #[.int .i64 1, .int .i64 0, .int .i64 (-1), .int .i64 0, .int .i64 0, .int .i64 1, .int .i64 0, .int .i64 (-1)] := rfl
def slantA : Array Value := #[.int .i64 1, .int .i64 1, .int .i64 1, .int .i64 (-1), .int .i64 (-1), .int .i64 1, .int .i64 (-1), .int .i64 (-1)]
@[go_sem] theorem pairs_slant : (pairs slantW).toArray = #[.int .i64 1, .int .i64 1, .int .i64 1, .int .i64 (-1), .int .i64 (-1), .int .i64 1, .int .i64 (-1), .int .i64 (-1)] := rfl
def jumpsA : Array Value := #[.int .i64 1, .int .i64 2, .int .i64 2, .int .i64 1, .int .i64 2, .int .i64 (-1), .int .i64 1, .int .i64 (-2), .int .i64 (-1), .int .i64 (-2), .int .i64 (-2), .int .i64 (-1), .int .i64 (-2), .int .i64 1, .int .i64 (-1), .int .i64 2]
@[go_sem] theorem pairs_jumps : (pairs jumpsW).toArray = #[.int .i64 1, .int .i64 2, .int .i64 2, .int .i64 1, .int .i64 2, .int .i64 (-1), .int .i64 1, .int .i64 (-2), .int .i64 (-1), .int .i64 (-2), .int .i64 (-2), .int .i64 (-1), .int .i64 (-2), .int .i64 1, .int .i64 (-1), .int .i64 2] := rfl
theorem waysB_straight : waysB straightW := by constructor <;> (intro x hx; simp [straightW] at hx; rcases hx with rfl | rfl | rfl | rfl <;> decide)
theorem waysB_slant : waysB slantW := by constructor <;> (intro x hx; simp [slantW] at hx; rcases hx with rfl | rfl | rfl | rfl <;> decide)
theorem stepsB_jumps : stepsB jumpsW := by intro x hx; simp [jumpsW] at hx; rcases hx with rfl | rfl | rfl | rfl | rfl | rfl | rfl | rfl <;> decide
theorem waysB_all : waysB (straightW ++ slantW) := by constructor <;> (intro x hx; simp [straightW, slantW] at hx; rcases hx with rfl | rfl | rfl | rfl | rfl | rfl | rfl | rfl <;> decide)
theorem stepsB_all : stepsB (straightW ++ slantW) := waysB_all.1
theorem RetInts.nil (w w' : World) (hx : Ext w w') : RetInts [] w (.returned (.slice none 0 0)) w' := ⟨_, rfl, World.ownsRow_nil _ _ _ _, hx⟩
theorem Sl.lit {w : World} {b : Nat} {t : TypeId} {fr : Nat × Nat} (l : List (Int × Int)) (cap : Nat) (h : blk w b = some (.cells (pairs l).toArray t fr)) : Sl w 2 (.slice (some ⟨b, 0, none⟩) l.length cap) l.length (pairs l) := by
 have := Sl.of_blk h 2 l.length (by simp [pairs_length]) cap
 simpa using this
theorem Ring_at (s : Int) (l : List (Int × Int)) (w : World) (b cap n : Nat) (hl : l.length = n) (hB : stepsB l) (hn : l.length ≤ 1000) (h : ∃ t fr, blk w b = some (.cells (pairs l).toArray t fr)) : Calls Tryz.prog 195 #[.int .i64 s, (.slice (some ⟨b, 0, none⟩) n cap)] w (RetInts (ringL s l) w) :=
 let ⟨_, _, h⟩ := h; hl ▸ Ring_any s l _ w hB hn (Sl.lit l cap h)
theorem along_at (p : Pos) (s : Int) (l : List (Int × Int)) (w : World) (b cap n : Nat) (hl : l.length = n) (hB : waysB l) (hn : l.length ≤ 100) (h : ∃ t fr, blk w b = some (.cells (pairs l).toArray t fr)) : Calls Tryz.prog 198 #[.agg (posCells p), .int .i64 s, (.slice (some ⟨b, 0, none⟩) n cap)] w (RetInts (alongL p s l) w) :=
 let ⟨_, _, h⟩ := h; hl ▸ along_any p s l _ w hB hn (Sl.lit l cap h)
theorem straightA_eq : straightA = (pairs straightW).toArray := rfl
theorem slantA_eq : slantA = (pairs slantW).toArray := rfl
theorem len4 (x y z u : Int × Int) : [x, y, z, u].length ≤ 100 := by simp
theorem along_arr (p : Pos) (s : Int) (l : List (Int × Int)) (cs : Array Value) (w : World) (b cap n : Nat) (hcs : cs = (pairs l).toArray) (hl : l.length = n) (hB : waysB l) (hn : l.length ≤ 100) (h : ∃ t fr, blk w b = some (.cells cs t fr)) : Calls Tryz.prog 198 #[.agg (posCells p), .int .i64 s, (.slice (some ⟨b, 0, none⟩) n cap)] w (RetInts (alongL p s l) w) :=
 along_at p s l w b cap n hl hB hn (hcs ▸ h)
theorem Concat_ways (b : Nat) (W : World) (t : TypeId) (h1 : blk W b = some (.cells straightA 232 (0, 0))) (h2 : blk W (b + 1) = some (.cells slantA 232 (0, 0))) :
 Calls Tryz.prog 197 #[.slice (some ⟨W.heap.size, 0, none⟩) 2 2] (W.alloc (.cells #[.slice (some ⟨b, 0, none⟩) 4 4, .slice (some ⟨b + 1, 0, none⟩) 4 4] t)).drew (RetPairs (straightW ++ slantW) (W.alloc (.cells #[.slice (some ⟨b, 0, none⟩) 4 4, .slice (some ⟨b + 1, 0, none⟩) 4 4] t)).drew) := by
 have hx : Ext W (W.alloc (.cells #[.slice (some ⟨b, 0, none⟩) 4 4, .slice (some ⟨b + 1, 0, none⟩) 4 4] t)).drew := Ext.drew (Ext.alloc (Ext.refl _) _)
 have hb : blk (W.alloc (.cells #[.slice (some ⟨b, 0, none⟩) 4 4, .slice (some ⟨b + 1, 0, none⟩) 4 4] t)).drew W.heap.size = _ := blk_alloc_at W _ _ rfl
 exact Concat_two _ _ _ straightW slantW _ (Sl.lit straightW 4 ((hx.blk _ (blk_lt h1)).trans h1)) (Sl.lit slantW 4 ((hx.blk _ (blk_lt h2)).trans h2)) (by decide) (by decide) (by decide) (by decide) (blk_lt hb) (blk_cell hb 0) (blk_cell hb 1)
theorem stepsB_pawn (on : Int) (h : -7 ≤ on) (h' : on ≤ 7) : stepsB [(-1, on), (1, on)] := by intro x hx; simp at hx; rcases hx with rfl | rfl <;> (simp; omega)
theorem from_pawn (p : Pos) (s on : Int) (w : World) (h0 : 0 ≤ s) (h1 : s < 64) (hk : p.kind s.toNat = 1) (hs : p.side s.toNat = 1 ∧ on = -1 ∨ p.side s.toNat = 0 ∧ on = 1) : Calls Tryz.prog 175 #[.agg (posCells p), .int .i64 s] w (RetInts (ringL s [(-1, on), (1, on)]) w) := by
 have h2 : s.toNat < 64 := by omega
 rcases hs with ⟨hs, rfl⟩ | ⟨hs, rfl⟩
 ·go_enter Tryz.func175, Tryz.ntmps175
  go_wp2_with (first | (go_at_call 193; with_reducible refine arm (straight_any _) fun w1 hx hxc hxf hxb hxs => ?_; (try have := sW w w1)) | (go_at_call 194; with_reducible refine arm (slant_any _) fun w1 hx hxc hxf hxb hxs => ?_; (try have := sW w w1)) | (go_at_call 195; (with_reducible refine (Ring_at _ [(-1, (-1)), (1, (-1))] _ _ _ 2 rfl (stepsB_pawn _ (by decide) (by decide)) (Nat.le_of_ble_eq_true rfl) ?s3).mono ?_); rotate_left 1; rintro e w1 ⟨v2, rfl, hown2, hx⟩; obtain ⟨a2, cap2, rfl⟩ := (Sl.of_own hown2).form; obtain ⟨hxc, hxf, hxb, hxs⟩ := hx.als; (try have := sW w w1)))
  case s3 => exact ⟨_, _, by simp [go_sem, pairs]; exact ⟨rfl, rfl⟩⟩
  go_ret
  exact RetInts.mk' hown2 rfl rfl (by simp; omega) (Ext.auto)
 ·go_enter Tryz.func175, Tryz.ntmps175
  go_wp2_with (first | (go_at_call 193; with_reducible refine arm (straight_any _) fun w1 hx hxc hxf hxb hxs => ?_; (try have := sW w w1)) | (go_at_call 194; with_reducible refine arm (slant_any _) fun w1 hx hxc hxf hxb hxs => ?_; (try have := sW w w1)) | (go_at_call 195; (with_reducible refine (Ring_at _ [(-1, (1)), (1, (1))] _ _ _ 2 rfl (stepsB_pawn _ (by decide) (by decide)) (Nat.le_of_ble_eq_true rfl) ?s3).mono ?_); rotate_left 1; rintro e w1 ⟨v2, rfl, hown2, hx⟩; obtain ⟨a2, cap2, rfl⟩ := (Sl.of_own hown2).form; obtain ⟨hxc, hxf, hxb, hxs⟩ := hx.als; (try have := sW w w1)))
  case s3 => exact ⟨_, _, by simp [go_sem, pairs]; exact ⟨rfl, rfl⟩⟩
  go_ret
  exact RetInts.mk' hown2 rfl rfl (by simp; omega) (Ext.auto)
theorem from_knight (p : Pos) (s : Int) (w : World) (h0 : 0 ≤ s) (h1 : s < 64) (hk : p.kind s.toNat = 2) (hs : p.side s.toNat = 1 ∨ p.side s.toNat = 0) : Calls Tryz.prog 175 #[.agg (posCells p), .int .i64 s] w (RetInts (ringL s jumpsW) w) := by
 have h2 : s.toNat < 64 := by omega
 rcases hs with hs | hs
 ·go_enter Tryz.func175, Tryz.ntmps175
  go_wp2_with (first | (go_at_call 193; with_reducible refine arm (straight_any _) fun w1 hx hxc hxf hxb hxs => ?_; (try have := sW w w1)) | (go_at_call 194; with_reducible refine arm (slant_any _) fun w1 hx hxc hxf hxb hxs => ?_; (try have := sW w w1)) | (go_at_call 196; with_reducible refine arm (jumps_any _) fun w1 hx hxc hxf hxb hxs => ?_; (try have := sW w w1)) | (go_at_call 195; (with_reducible refine (Ring_at _ jumpsW _ _ _ 8 rfl stepsB_jumps (Nat.le_of_ble_eq_true rfl) ?s3).mono ?_); rotate_left 1; rintro e w1 ⟨v2, rfl, hown2, hx⟩; obtain ⟨a2, cap2, rfl⟩ := (Sl.of_own hown2).form; obtain ⟨hxc, hxf, hxb, hxs⟩ := hx.als; (try have := sW w w1)))
  case s3 => exact ⟨_, _, by simp [go_sem]; exact ⟨rfl, rfl⟩⟩
  go_ret
  exact RetInts.mk' hown2 rfl rfl (by simp; omega) (Ext.auto)
 ·go_enter Tryz.func175, Tryz.ntmps175
  go_wp2_with (first | (go_at_call 193; with_reducible refine arm (straight_any _) fun w1 hx hxc hxf hxb hxs => ?_; (try have := sW w w1)) | (go_at_call 194; with_reducible refine arm (slant_any _) fun w1 hx hxc hxf hxb hxs => ?_; (try have := sW w w1)) | (go_at_call 196; with_reducible refine arm (jumps_any _) fun w1 hx hxc hxf hxb hxs => ?_; (try have := sW w w1)) | (go_at_call 195; (with_reducible refine (Ring_at _ jumpsW _ _ _ 8 rfl stepsB_jumps (Nat.le_of_ble_eq_true rfl) ?s3).mono ?_); rotate_left 1; rintro e w1 ⟨v2, rfl, hown2, hx⟩; obtain ⟨a2, cap2, rfl⟩ := (Sl.of_own hown2).form; obtain ⟨hxc, hxf, hxb, hxs⟩ := hx.als; (try have := sW w w1)))
  case s3 => exact ⟨_, _, by simp [go_sem]; exact ⟨rfl, rfl⟩⟩
  go_ret
  exact RetInts.mk' hown2 rfl rfl (by simp; omega) (Ext.auto)
theorem world_cut {P : Program} {c : Code} {Q : Exit → Act → World → Prop} {a : Act} {W : World} (S : World → Prop) (h0 : S W) (h : ∀ W', S W' → c.wp P Q a W') : c.wp P Q a W := h W h0
theorem heldF_keep {w W w1 : World} {p : Pos} {b c : Nat} (h : blk W b = some (.cells (posCells p) 195 (0, 0)) ∧ (∀ o, W.cell? ⟨b, o, none⟩ = (posCells p)[o]?) ∧ blk W c = some (.cells straightA 232 (0, 0)) ∧ blk W (c + 1) = some (.cells slantA 232 (0, 0)) ∧ Ext w W) (hx : Ext W w1) : blk w1 b = some (.cells (posCells p) 195 (0, 0)) ∧ (∀ o, w1.cell? ⟨b, o, none⟩ = (posCells p)[o]?) ∧ blk w1 c = some (.cells straightA 232 (0, 0)) ∧ blk w1 (c + 1) = some (.cells slantA 232 (0, 0)) ∧ Ext w w1 :=
 ⟨(hx.blk _ (blk_lt h.1)).trans h.1, blk_cell ((hx.blk _ (blk_lt h.1)).trans h.1), (hx.blk _ (blk_lt h.2.2.1)).trans h.2.2.1, (hx.blk _ (blk_lt h.2.2.2.1)).trans h.2.2.2.1, h.2.2.2.2.trans hx⟩
theorem from_rook (p : Pos) (s : Int) (w : World) (h0 : 0 ≤ s) (h1 : s < 64) (hk : p.kind s.toNat = 4) (hs : p.side s.toNat = 1 ∨ p.side s.toNat = 0) : Calls Tryz.prog 175 #[.agg (posCells p), .int .i64 s] w (RetInts (alongL p s straightW) w) := by
 have h2 : s.toNat < 64 := by omega
 rcases hs with hs | hs
 ·go_enter Tryz.func175, Tryz.ntmps175
  go_wp2_with (first | (go_at_call 193; with_reducible refine arm (straight_any _) fun w1 hx hxc hxf hxb hxs => ?_; (try have := sW w w1)) | (go_at_call 194; with_reducible refine arm (slant_any _) fun w1 hx hxc hxf hxb hxs => ?_; (try have := sW w w1)))
  refine world_cut (fun w' => blk w' w.heap.size = some (.cells (posCells p) 195 (0, 0)) ∧ (∀ o, w'.cell? ⟨w.heap.size, o, none⟩ = (posCells p)[o]?) ∧ blk w' w1.heap.size = some (.cells straightA 232 (0, 0)) ∧ blk w' (w1.heap.size + 1) = some (.cells slantA 232 (0, 0)) ∧ Ext w w') ?_ (fun W HS => ?_)
  ·refine ⟨?_, blk_cell (t := 195) (fr := (0, 0)) ?_, ?_, ?_, (Ext.auto)⟩ <;> first | (go_simp; done) | (simp [go_sem, straightA, slantA]; done)
  have HD := heldF_keep HS (Ext.drew (Ext.refl _))
  have HD1 := HD.2.2.1
  have HD2 := HD.2.2.2.1
  go_region_held3 (fun w' => blk w' w.heap.size = some (.cells (posCells p) 195 (0, 0)) ∧ (∀ o, w'.cell? ⟨w.heap.size, o, none⟩ = (posCells p)[o]?) ∧ blk w' w1.heap.size = some (.cells straightA 232 (0, 0)) ∧ blk w' (w1.heap.size + 1) = some (.cells slantA 232 (0, 0)) ∧ Ext w w') (first | exact HD | exact heldF_keep (by assumption) (by assumption) | exact heldF_keep HS (Ext.trans (Ext.drew (Ext.alloc (Ext.refl _) _)) (by assumption)) | exact heldF_keep (by assumption) (Ext.alloc (Ext.refl _) _) | assumption) (first | (go_at_call 198; (with_reducible refine (along_arr _ _ straightW straightA _ _ _ 4 straightA_eq rfl waysB_straight (Nat.le_of_ble_eq_true rfl) ⟨_, _, HD1⟩).mono ?_); rintro e w1 ⟨v2, rfl, hown2, hx⟩; obtain ⟨a2, cap2, rfl⟩ := (Sl.of_own hown2).form))
  go_wp2
  go_ret
  exact RetInts.mk' hown2 rfl rfl HD.2.2.2.2.le (HD.2.2.2.2.trans hx)
 ·go_enter Tryz.func175, Tryz.ntmps175
  go_wp2_with (first | (go_at_call 193; with_reducible refine arm (straight_any _) fun w1 hx hxc hxf hxb hxs => ?_; (try have := sW w w1)) | (go_at_call 194; with_reducible refine arm (slant_any _) fun w1 hx hxc hxf hxb hxs => ?_; (try have := sW w w1)))
  refine world_cut (fun w' => blk w' w.heap.size = some (.cells (posCells p) 195 (0, 0)) ∧ (∀ o, w'.cell? ⟨w.heap.size, o, none⟩ = (posCells p)[o]?) ∧ blk w' w1.heap.size = some (.cells straightA 232 (0, 0)) ∧ blk w' (w1.heap.size + 1) = some (.cells slantA 232 (0, 0)) ∧ Ext w w') ?_ (fun W HS => ?_)
  ·refine ⟨?_, blk_cell (t := 195) (fr := (0, 0)) ?_, ?_, ?_, (Ext.auto)⟩ <;> first | (go_simp; done) | (simp [go_sem, straightA, slantA]; done)
  have HD := heldF_keep HS (Ext.drew (Ext.refl _))
  have HD1 := HD.2.2.1
  have HD2 := HD.2.2.2.1
  go_region_held3 (fun w' => blk w' w.heap.size = some (.cells (posCells p) 195 (0, 0)) ∧ (∀ o, w'.cell? ⟨w.heap.size, o, none⟩ = (posCells p)[o]?) ∧ blk w' w1.heap.size = some (.cells straightA 232 (0, 0)) ∧ blk w' (w1.heap.size + 1) = some (.cells slantA 232 (0, 0)) ∧ Ext w w') (first | exact HD | exact heldF_keep (by assumption) (by assumption) | exact heldF_keep HS (Ext.trans (Ext.drew (Ext.alloc (Ext.refl _) _)) (by assumption)) | exact heldF_keep (by assumption) (Ext.alloc (Ext.refl _) _) | assumption) (first | (go_at_call 198; (with_reducible refine (along_arr _ _ straightW straightA _ _ _ 4 straightA_eq rfl waysB_straight (Nat.le_of_ble_eq_true rfl) ⟨_, _, HD1⟩).mono ?_); rintro e w1 ⟨v2, rfl, hown2, hx⟩; obtain ⟨a2, cap2, rfl⟩ := (Sl.of_own hown2).form))
  go_wp2
  go_ret
  exact RetInts.mk' hown2 rfl rfl HD.2.2.2.2.le (HD.2.2.2.2.trans hx)
theorem from_bishop (p : Pos) (s : Int) (w : World) (h0 : 0 ≤ s) (h1 : s < 64) (hk : p.kind s.toNat = 3) (hs : p.side s.toNat = 1 ∨ p.side s.toNat = 0) : Calls Tryz.prog 175 #[.agg (posCells p), .int .i64 s] w (RetInts (alongL p s slantW) w) := by
 have h2 : s.toNat < 64 := by omega
 rcases hs with hs | hs
 ·go_enter Tryz.func175, Tryz.ntmps175
  go_wp2_with (first | (go_at_call 193; with_reducible refine arm (straight_any _) fun w1 hx hxc hxf hxb hxs => ?_; (try have := sW w w1)) | (go_at_call 194; with_reducible refine arm (slant_any _) fun w1 hx hxc hxf hxb hxs => ?_; (try have := sW w w1)))
  refine world_cut (fun w' => blk w' w.heap.size = some (.cells (posCells p) 195 (0, 0)) ∧ (∀ o, w'.cell? ⟨w.heap.size, o, none⟩ = (posCells p)[o]?) ∧ blk w' w1.heap.size = some (.cells straightA 232 (0, 0)) ∧ blk w' (w1.heap.size + 1) = some (.cells slantA 232 (0, 0)) ∧ Ext w w') ?_ (fun W HS => ?_)
  ·refine ⟨?_, blk_cell (t := 195) (fr := (0, 0)) ?_, ?_, ?_, (Ext.auto)⟩ <;> first | (go_simp; done) | (simp [go_sem, straightA, slantA]; done)
  have HD := heldF_keep HS (Ext.drew (Ext.refl _))
  have HD1 := HD.2.2.1
  have HD2 := HD.2.2.2.1
  go_region_held3 (fun w' => blk w' w.heap.size = some (.cells (posCells p) 195 (0, 0)) ∧ (∀ o, w'.cell? ⟨w.heap.size, o, none⟩ = (posCells p)[o]?) ∧ blk w' w1.heap.size = some (.cells straightA 232 (0, 0)) ∧ blk w' (w1.heap.size + 1) = some (.cells slantA 232 (0, 0)) ∧ Ext w w') (first | exact HD | exact heldF_keep (by assumption) (by assumption) | exact heldF_keep HS (Ext.trans (Ext.drew (Ext.alloc (Ext.refl _) _)) (by assumption)) | exact heldF_keep (by assumption) (Ext.alloc (Ext.refl _) _) | assumption) (first | (go_at_call 198; (with_reducible refine (along_arr _ _ slantW slantA _ _ _ 4 slantA_eq rfl waysB_slant (Nat.le_of_ble_eq_true rfl) ⟨_, _, HD2⟩).mono ?_); rintro e w1 ⟨v2, rfl, hown2, hx⟩; obtain ⟨a2, cap2, rfl⟩ := (Sl.of_own hown2).form))
  go_wp2
  go_ret
  exact RetInts.mk' hown2 rfl rfl HD.2.2.2.2.le (HD.2.2.2.2.trans hx)
 ·go_enter Tryz.func175, Tryz.ntmps175
  go_wp2_with (first | (go_at_call 193; with_reducible refine arm (straight_any _) fun w1 hx hxc hxf hxb hxs => ?_; (try have := sW w w1)) | (go_at_call 194; with_reducible refine arm (slant_any _) fun w1 hx hxc hxf hxb hxs => ?_; (try have := sW w w1)))
  refine world_cut (fun w' => blk w' w.heap.size = some (.cells (posCells p) 195 (0, 0)) ∧ (∀ o, w'.cell? ⟨w.heap.size, o, none⟩ = (posCells p)[o]?) ∧ blk w' w1.heap.size = some (.cells straightA 232 (0, 0)) ∧ blk w' (w1.heap.size + 1) = some (.cells slantA 232 (0, 0)) ∧ Ext w w') ?_ (fun W HS => ?_)
  ·refine ⟨?_, blk_cell (t := 195) (fr := (0, 0)) ?_, ?_, ?_, (Ext.auto)⟩ <;> first | (go_simp; done) | (simp [go_sem, straightA, slantA]; done)
  have HD := heldF_keep HS (Ext.drew (Ext.refl _))
  have HD1 := HD.2.2.1
  have HD2 := HD.2.2.2.1
  go_region_held3 (fun w' => blk w' w.heap.size = some (.cells (posCells p) 195 (0, 0)) ∧ (∀ o, w'.cell? ⟨w.heap.size, o, none⟩ = (posCells p)[o]?) ∧ blk w' w1.heap.size = some (.cells straightA 232 (0, 0)) ∧ blk w' (w1.heap.size + 1) = some (.cells slantA 232 (0, 0)) ∧ Ext w w') (first | exact HD | exact heldF_keep (by assumption) (by assumption) | exact heldF_keep HS (Ext.trans (Ext.drew (Ext.alloc (Ext.refl _) _)) (by assumption)) | exact heldF_keep (by assumption) (Ext.alloc (Ext.refl _) _) | assumption) (first | (go_at_call 198; (with_reducible refine (along_arr _ _ slantW slantA _ _ _ 4 slantA_eq rfl waysB_slant (Nat.le_of_ble_eq_true rfl) ⟨_, _, HD2⟩).mono ?_); rintro e w1 ⟨v2, rfl, hown2, hx⟩; obtain ⟨a2, cap2, rfl⟩ := (Sl.of_own hown2).form))
  go_wp2
  go_ret
  exact RetInts.mk' hown2 rfl rfl HD.2.2.2.2.le (HD.2.2.2.2.trans hx)
theorem from_king (p : Pos) (s : Int) (w : World) (h0 : 0 ≤ s) (h1 : s < 64) (hk : p.kind s.toNat = 6) (hs : p.side s.toNat = 1 ∨ p.side s.toNat = 0) : Calls Tryz.prog 175 #[.agg (posCells p), .int .i64 s] w (RetInts (ringL s (straightW ++ slantW)) w) := by
 have h2 : s.toNat < 64 := by omega
 rcases hs with hs | hs
 ·go_enter Tryz.func175, Tryz.ntmps175
  go_wp2_with (first | (go_at_call 193; with_reducible refine arm (straight_any _) fun w1 hx hxc hxf hxb hxs => ?_; (try have := sW w w1)) | (go_at_call 194; with_reducible refine arm (slant_any _) fun w1 hx hxc hxf hxb hxs => ?_; (try have := sW w w1)))
  refine world_cut (fun w' => blk w' w.heap.size = some (.cells (posCells p) 195 (0, 0)) ∧ (∀ o, w'.cell? ⟨w.heap.size, o, none⟩ = (posCells p)[o]?) ∧ blk w' w1.heap.size = some (.cells straightA 232 (0, 0)) ∧ blk w' (w1.heap.size + 1) = some (.cells slantA 232 (0, 0)) ∧ Ext w w') ?_ (fun W HS => ?_)
  ·refine ⟨?_, blk_cell (t := 195) (fr := (0, 0)) ?_, ?_, ?_, (Ext.auto)⟩ <;> first | (go_simp; done) | (simp [go_sem, straightA, slantA]; done)
  have HD := heldF_keep HS (Ext.drew (Ext.refl _))
  have HD1 := HD.2.2.1
  have HD2 := HD.2.2.2.1
  go_region_held3 (fun w' => blk w' w.heap.size = some (.cells (posCells p) 195 (0, 0)) ∧ (∀ o, w'.cell? ⟨w.heap.size, o, none⟩ = (posCells p)[o]?) ∧ blk w' w1.heap.size = some (.cells straightA 232 (0, 0)) ∧ blk w' (w1.heap.size + 1) = some (.cells slantA 232 (0, 0)) ∧ Ext w w') (first | exact HD | exact heldF_keep (by assumption) (by assumption) | exact heldF_keep HS (Ext.trans (Ext.drew (Ext.alloc (Ext.refl _) _)) (by assumption)) | exact heldF_keep (by assumption) (Ext.alloc (Ext.refl _) _) | assumption) (first | (go_at_call 197; (with_reducible refine (Concat_ways _ _ _ HS.2.2.1 HS.2.2.2.1).mono ?_); rintro e w1 ⟨v3, rfl, hown3, hx⟩) | (go_at_call 195; (with_reducible refine (Ring_any _ (straightW ++ slantW) _ _ stepsB_all (Nat.le_of_ble_eq_true rfl) (Sl.of_own hown3)).mono ?_); rintro e w2 ⟨v2, rfl, hown2, hx2⟩; obtain ⟨a2, cap2, rfl⟩ := (Sl.of_own hown2).form))
  go_wp2
  go_ret
  exact RetInts.mk' hown2 rfl rfl (HS.2.2.2.2.trans ((Ext.drew (Ext.alloc (Ext.refl _) _)).trans hx)).le (HS.2.2.2.2.trans ((Ext.drew (Ext.alloc (Ext.refl _) _)).trans (hx.trans hx2)))
 ·go_enter Tryz.func175, Tryz.ntmps175
  go_wp2_with (first | (go_at_call 193; with_reducible refine arm (straight_any _) fun w1 hx hxc hxf hxb hxs => ?_; (try have := sW w w1)) | (go_at_call 194; with_reducible refine arm (slant_any _) fun w1 hx hxc hxf hxb hxs => ?_; (try have := sW w w1)))
  refine world_cut (fun w' => blk w' w.heap.size = some (.cells (posCells p) 195 (0, 0)) ∧ (∀ o, w'.cell? ⟨w.heap.size, o, none⟩ = (posCells p)[o]?) ∧ blk w' w1.heap.size = some (.cells straightA 232 (0, 0)) ∧ blk w' (w1.heap.size + 1) = some (.cells slantA 232 (0, 0)) ∧ Ext w w') ?_ (fun W HS => ?_)
  ·refine ⟨?_, blk_cell (t := 195) (fr := (0, 0)) ?_, ?_, ?_, (Ext.auto)⟩ <;> first | (go_simp; done) | (simp [go_sem, straightA, slantA]; done)
  have HD := heldF_keep HS (Ext.drew (Ext.refl _))
  have HD1 := HD.2.2.1
  have HD2 := HD.2.2.2.1
  go_region_held3 (fun w' => blk w' w.heap.size = some (.cells (posCells p) 195 (0, 0)) ∧ (∀ o, w'.cell? ⟨w.heap.size, o, none⟩ = (posCells p)[o]?) ∧ blk w' w1.heap.size = some (.cells straightA 232 (0, 0)) ∧ blk w' (w1.heap.size + 1) = some (.cells slantA 232 (0, 0)) ∧ Ext w w') (first | exact HD | exact heldF_keep (by assumption) (by assumption) | exact heldF_keep HS (Ext.trans (Ext.drew (Ext.alloc (Ext.refl _) _)) (by assumption)) | exact heldF_keep (by assumption) (Ext.alloc (Ext.refl _) _) | assumption) (first | (go_at_call 197; (with_reducible refine (Concat_ways _ _ _ HS.2.2.1 HS.2.2.2.1).mono ?_); rintro e w1 ⟨v3, rfl, hown3, hx⟩) | (go_at_call 195; (with_reducible refine (Ring_any _ (straightW ++ slantW) _ _ stepsB_all (Nat.le_of_ble_eq_true rfl) (Sl.of_own hown3)).mono ?_); rintro e w2 ⟨v2, rfl, hown2, hx2⟩; obtain ⟨a2, cap2, rfl⟩ := (Sl.of_own hown2).form))
  go_wp2
  go_ret
  exact RetInts.mk' hown2 rfl rfl (HS.2.2.2.2.trans ((Ext.drew (Ext.alloc (Ext.refl _) _)).trans hx)).le (HS.2.2.2.2.trans ((Ext.drew (Ext.alloc (Ext.refl _) _)).trans (hx.trans hx2)))
theorem from_queen (p : Pos) (s : Int) (w : World) (h0 : 0 ≤ s) (h1 : s < 64) (hk : p.kind s.toNat = 5) (hs : p.side s.toNat = 1 ∨ p.side s.toNat = 0) : Calls Tryz.prog 175 #[.agg (posCells p), .int .i64 s] w (RetInts (alongL p s (straightW ++ slantW)) w) := by
 have h2 : s.toNat < 64 := by omega
 rcases hs with hs | hs
 ·go_enter Tryz.func175, Tryz.ntmps175
  go_wp2_with (first | (go_at_call 193; with_reducible refine arm (straight_any _) fun w1 hx hxc hxf hxb hxs => ?_; (try have := sW w w1)) | (go_at_call 194; with_reducible refine arm (slant_any _) fun w1 hx hxc hxf hxb hxs => ?_; (try have := sW w w1)))
  refine world_cut (fun w' => blk w' w.heap.size = some (.cells (posCells p) 195 (0, 0)) ∧ (∀ o, w'.cell? ⟨w.heap.size, o, none⟩ = (posCells p)[o]?) ∧ blk w' w1.heap.size = some (.cells straightA 232 (0, 0)) ∧ blk w' (w1.heap.size + 1) = some (.cells slantA 232 (0, 0)) ∧ Ext w w') ?_ (fun W HS => ?_)
  ·refine ⟨?_, blk_cell (t := 195) (fr := (0, 0)) ?_, ?_, ?_, (Ext.auto)⟩ <;> first | (go_simp; done) | (simp [go_sem, straightA, slantA]; done)
  have HD := heldF_keep HS (Ext.drew (Ext.refl _))
  have HD1 := HD.2.2.1
  have HD2 := HD.2.2.2.1
  go_region_held3 (fun w' => blk w' w.heap.size = some (.cells (posCells p) 195 (0, 0)) ∧ (∀ o, w'.cell? ⟨w.heap.size, o, none⟩ = (posCells p)[o]?) ∧ blk w' w1.heap.size = some (.cells straightA 232 (0, 0)) ∧ blk w' (w1.heap.size + 1) = some (.cells slantA 232 (0, 0)) ∧ Ext w w') (first | exact HD | exact heldF_keep (by assumption) (by assumption) | exact heldF_keep HS (Ext.trans (Ext.drew (Ext.alloc (Ext.refl _) _)) (by assumption)) | exact heldF_keep (by assumption) (Ext.alloc (Ext.refl _) _) | assumption) (first | (go_at_call 197; (with_reducible refine (Concat_ways _ _ _ HS.2.2.1 HS.2.2.2.1).mono ?_); rintro e w1 ⟨v3, rfl, hown3, hx⟩) | (go_at_call 198; (with_reducible refine (along_any _ _ (straightW ++ slantW) _ _ waysB_all (Nat.le_of_ble_eq_true rfl) (Sl.of_own hown3)).mono ?_); rintro e w2 ⟨v2, rfl, hown2, hx2⟩; obtain ⟨a2, cap2, rfl⟩ := (Sl.of_own hown2).form))
  go_wp2
  go_ret
  exact RetInts.mk' hown2 rfl rfl (HS.2.2.2.2.trans ((Ext.drew (Ext.alloc (Ext.refl _) _)).trans hx)).le (HS.2.2.2.2.trans ((Ext.drew (Ext.alloc (Ext.refl _) _)).trans (hx.trans hx2)))
 ·go_enter Tryz.func175, Tryz.ntmps175
  go_wp2_with (first | (go_at_call 193; with_reducible refine arm (straight_any _) fun w1 hx hxc hxf hxb hxs => ?_; (try have := sW w w1)) | (go_at_call 194; with_reducible refine arm (slant_any _) fun w1 hx hxc hxf hxb hxs => ?_; (try have := sW w w1)))
  refine world_cut (fun w' => blk w' w.heap.size = some (.cells (posCells p) 195 (0, 0)) ∧ (∀ o, w'.cell? ⟨w.heap.size, o, none⟩ = (posCells p)[o]?) ∧ blk w' w1.heap.size = some (.cells straightA 232 (0, 0)) ∧ blk w' (w1.heap.size + 1) = some (.cells slantA 232 (0, 0)) ∧ Ext w w') ?_ (fun W HS => ?_)
  ·refine ⟨?_, blk_cell (t := 195) (fr := (0, 0)) ?_, ?_, ?_, (Ext.auto)⟩ <;> first | (go_simp; done) | (simp [go_sem, straightA, slantA]; done)
  have HD := heldF_keep HS (Ext.drew (Ext.refl _))
  have HD1 := HD.2.2.1
  have HD2 := HD.2.2.2.1
  go_region_held3 (fun w' => blk w' w.heap.size = some (.cells (posCells p) 195 (0, 0)) ∧ (∀ o, w'.cell? ⟨w.heap.size, o, none⟩ = (posCells p)[o]?) ∧ blk w' w1.heap.size = some (.cells straightA 232 (0, 0)) ∧ blk w' (w1.heap.size + 1) = some (.cells slantA 232 (0, 0)) ∧ Ext w w') (first | exact HD | exact heldF_keep (by assumption) (by assumption) | exact heldF_keep HS (Ext.trans (Ext.drew (Ext.alloc (Ext.refl _) _)) (by assumption)) | exact heldF_keep (by assumption) (Ext.alloc (Ext.refl _) _) | assumption) (first | (go_at_call 197; (with_reducible refine (Concat_ways _ _ _ HS.2.2.1 HS.2.2.2.1).mono ?_); rintro e w1 ⟨v3, rfl, hown3, hx⟩) | (go_at_call 198; (with_reducible refine (along_any _ _ (straightW ++ slantW) _ _ waysB_all (Nat.le_of_ble_eq_true rfl) (Sl.of_own hown3)).mono ?_); rintro e w2 ⟨v2, rfl, hown2, hx2⟩; obtain ⟨a2, cap2, rfl⟩ := (Sl.of_own hown2).form))
  go_wp2
  go_ret
  exact RetInts.mk' hown2 rfl rfl (HS.2.2.2.2.trans ((Ext.drew (Ext.alloc (Ext.refl _) _)).trans hx)).le (HS.2.2.2.2.trans ((Ext.drew (Ext.alloc (Ext.refl _) _)).trans (hx.trans hx2)))
theorem from_noside (p : Pos) (s : Int) (w : World) (h0 : 0 ≤ s) (h1 : s < 64) (hs : p.side s.toNat ≠ 1) (hs' : p.side s.toNat ≠ 0) : Calls Tryz.prog 175 #[.agg (posCells p), .int .i64 s] w (RetInts [] w) := by
 have h2 : s.toNat < 64 := by omega
 have e1 : (p.side s.toNat == 1) = false := by simp [hs]
 have e2 : (p.side s.toNat == 0) = false := by simp [hs']
 go_enter Tryz.func175, Tryz.ntmps175
 go_wp2
 go_ret
 exact RetInts.nil _ _ (Ext.auto)
theorem from_nokind (p : Pos) (s : Int) (w : World) (h0 : 0 ≤ s) (h1 : s < 64) (k1 : p.kind s.toNat ≠ 1) (k2 : p.kind s.toNat ≠ 2) (k3 : p.kind s.toNat ≠ 3) (k4 : p.kind s.toNat ≠ 4) (k5 : p.kind s.toNat ≠ 5) (k6 : p.kind s.toNat ≠ 6)
 (hs : p.side s.toNat = 1 ∨ p.side s.toNat = 0) : Calls Tryz.prog 175 #[.agg (posCells p), .int .i64 s] w (RetInts [] w) := by
 have h2 : s.toNat < 64 := by omega
 have e1 : (p.kind s.toNat == 1) = false := by simp [k1]
 have e2 : (p.kind s.toNat == 2) = false := by simp [k2]
 have e3 : (p.kind s.toNat == 3) = false := by simp [k3]
 have e4 : (p.kind s.toNat == 4) = false := by simp [k4]
 have e5 : (p.kind s.toNat == 5) = false := by simp [k5]
 have e6 : (p.kind s.toNat == 6) = false := by simp [k6]
 rcases hs with hs | hs
 ·go_enter Tryz.func175, Tryz.ntmps175
  go_wp2_with (first | (go_at_call 193; with_reducible refine arm (straight_any _) fun w1 hx hxc hxf hxb hxs => ?_; (try have := sW w w1)) | (go_at_call 194; with_reducible refine arm (slant_any _) fun w1 hx hxc hxf hxb hxs => ?_; (try have := sW w w1)))
  go_ret
  exact RetInts.nil _ _ (Ext.auto)
 ·go_enter Tryz.func175, Tryz.ntmps175
  go_wp2_with (first | (go_at_call 193; with_reducible refine arm (straight_any _) fun w1 hx hxc hxf hxb hxs => ?_; (try have := sW w w1)) | (go_at_call 194; with_reducible refine arm (slant_any _) fun w1 hx hxc hxf hxb hxs => ?_; (try have := sW w w1)))
  go_ret
  exact RetInts.nil _ _ (Ext.auto)
theorem from_any (p : Pos) (s : Int) (w : World) (h0 : 0 ≤ s) (h1 : s < 64) : Calls Tryz.prog 175 #[.agg (posCells p), .int .i64 s] w (RetInts (fromL p s) w) := by
 by_cases hs : p.side s.toNat = 1 ∨ p.side s.toNat = 0
 ·by_cases k1 : p.kind s.toNat = 1
  ·rcases hs with h | h
   ·have := from_pawn p s (-1) w h0 h1 k1 (.inl ⟨h, rfl⟩)
    simpa [fromL, h, k1] using this
   ·have := from_pawn p s 1 w h0 h1 k1 (.inr ⟨h, rfl⟩)
    simpa [fromL, h, k1] using this
  ·by_cases k2 : p.kind s.toNat = 2
   ·have := from_knight p s w h0 h1 k2 hs
    simpa [fromL, hs, k2] using this
   ·by_cases k6 : p.kind s.toNat = 6
    ·have := from_king p s w h0 h1 k6 hs
     simpa [fromL, hs, k6] using this
    ·by_cases k4 : p.kind s.toNat = 4
     ·have := from_rook p s w h0 h1 k4 hs
      simpa [fromL, hs, k4] using this
     ·by_cases k3 : p.kind s.toNat = 3
      ·have := from_bishop p s w h0 h1 k3 hs
       simpa [fromL, hs, k3] using this
      ·by_cases k5 : p.kind s.toNat = 5
       ·have := from_queen p s w h0 h1 k5 hs
        simpa [fromL, hs, k5] using this
       ·have := from_nokind p s w h0 h1 k1 k2 k3 k4 k5 k6 hs
        simpa [fromL, hs, k1, k2, k3, k4, k5, k6] using this
 ·have := from_noside p s w h0 h1 (fun h => hs (.inl h)) (fun h => hs (.inr h))
  simpa [fromL, hs] using this
end Go.Proofs.YtdmgimfgoajmjaaGreatDoor
