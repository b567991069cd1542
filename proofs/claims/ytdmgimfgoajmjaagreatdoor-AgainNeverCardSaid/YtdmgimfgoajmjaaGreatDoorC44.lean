/- A position that is put into the document's book: the walk. -/
import Derived.Test.YtdmgimfgoajmjaaGreatDoorC42
import Derived.Test.YtdmgimfgoajmjaaGreatDoorC43
set_option linter.unusedVariables false
set_option linter.unusedSimpArgs false
namespace Go.Proofs.YtdmgimfgoajmjaaGreatDoor
open Go.RowKit
def MSput (p : Pos) (b pb : Nat) (v : Value) (B : Nat) (wr W : World) : Prop := WrP B b wr W ∧ blk W pb = some (.cells (posCells p) 30 (0, 0)) ∧ blk W b = some (.cells #[v] 36 (0, 0)) ∧ W.cell? ⟨b, 0, none⟩ = some v
theorem MSput.ext {p : Pos} {b pb : Nat} {v : Value} {B : Nat} {wr W W' : World} (h : MSput p b pb v B wr W) (hx : Ext W W') : MSput p b pb v B wr W' := by
  obtain ⟨h1, h2, h3, h4⟩ := h
  have e := (hx.blk _ (blk_lt h3)).trans h3
  exact ⟨h1.trans (WrP.ext hx), (hx.blk _ (blk_lt h2)).trans h2, e, blk_cell e 0⟩
theorem cells_row {w : World} {b : Nat} {cs : Array Value} {T : TypeId} {fr : Nat × Nat} (h : blk w b = some (.cells cs T fr)) : ∀ j u, cs.toList[j]? = some u → w.cell? ((⟨b, 0, none⟩ : Addr).add j) = some u := by
  intro j u hj
  have hadd : (⟨b, 0, none⟩ : Addr).add j = ⟨b, j, none⟩ := by unfold Addr.add; split <;> simp_all
  rw [hadd, blk_cell h]; simpa using hj
theorem posL_one (Ps : List Pos) : ∀ u ∈ posL Ps, u.oneCell' = true := by
  intro u hu
  unfold posL at hu
  rw [List.mem_flatMap] at hu
  obtain ⟨p, _, h⟩ := hu
  have := posCells_one p
  simp only [rowOk, Array.all_eq_true_iff_forall_mem] at this
  exact this u (by simpa using h)
set_option maxRecDepth 100000 in
set_option maxHeartbeats 4000000 in
theorem rPut_any (B b : Nat) (Ps : List Pos) (p : Pos) (w : World) (h : Bk B b Ps w) (hn : Ps.length ≤ 1000) (hBw : B ≤ w.heap.size) :
    Calls Tryz.prog 20 #[.pointer (some ⟨b, 0, none⟩), .agg (posCells p)] w (fun e w' => e = .returned (.int .i64 (manyB (Ps ++ [p]) p)) ∧ Bk B b (Ps ++ [p]) w' ∧ WrP B b w w') := by
  obtain ⟨v, hb, hown⟩ := h.st
  have hB := h.hB
  have hlb := blk_lt hb
  obtain ⟨a, cap, rfl⟩ := (Sl.of_own hown).form
  go_enter Tryz.func20, Tryz.ntmps20
  go_upto_region 1 with (fail)
  have hE0 : Ext w (w.alloc (.cells (posCells p) 30)).drew := (Ext.alloc (Ext.refl _) _).drew
  have hb0 := (hE0.blk _ hlb).trans hb
  have hp0 : blk (w.alloc (.cells (posCells p) 30)).drew w.heap.size = some (.cells (posCells p) 30 (0, 0)) := blk_alloc_at _ _ _ rfl
  have hM0 : MSput p b w.heap.size (.slice a Ps.length cap) B w (w.alloc (.cells (posCells p) 30)).drew := ⟨WrP.ext hE0, hp0, hb0, blk_cell hb0 0⟩
  obtain ⟨i0, hi, hz0, hz1, hz2⟩ := info_parts info_pos
  have hpo : posL [p] = (posCells p).toList := by simp [posL]
  have hne9 : (Value.slice a Ps.length cap).ownBlock ≠ some b := fun e => by
    obtain ⟨-, cs, fr, h⟩ := own_pos hown b e
    rw [hb] at h
    injection h with h
    injection h with _ h
    exact absurd h (by decide)
  have hnp : (Value.slice a Ps.length cap).ownBlock ≠ some w.heap.size := fun e => by
    obtain ⟨-, cs, fr, h⟩ := own_pos hown _ e
    exact absurd (blk_lt h) (by omega)
  clear hE0 hb0 hp0
  refine wp_region_split 8 (MSput p b w.heap.size (.slice a Ps.length cap) B w) (by kernel_rfl) (by kernel_rfl) (hM0) (fun hH => ?_)
  simp only [List.take_succ_cons, List.take_zero, List.drop_succ_cons, List.drop_zero]
  refine hTk (i := 0) (v := ?_) (hy := Or.inl ⟨by rfl, ?_⟩) (h := ?_); rotate_left 1; (intro w0 hS; (try dsimp only at hS); unfold MSput at hS; go_simp; try with_reducible rfl); (try go_frame)
  refine hTk (i := 1) (v := ?_) (hy := Or.inl ⟨by rfl, ?_⟩) (h := ?_); rotate_left 1; (intro w0 hS; (try dsimp only at hS); unfold MSput at hS; go_simp; try with_reducible rfl); (try go_frame)
  refine hTk (i := 2) (v := ?_) (hy := Or.inl ⟨by rfl, ?_⟩) (h := ?_); rotate_left 1; (intro w0 hS; (try dsimp only at hS); unfold MSput at hS; go_simp; try with_reducible rfl); (try go_frame)
  refine hTk (i := 3) (v := ?_) (hy := Or.inl ⟨by rfl, ?_⟩) (h := ?_); rotate_left 1; (intro w0 hS; (try dsimp only at hS); unfold MSput at hS; go_simp; try with_reducible rfl); (try go_frame)
  refine hTk (i := 4) (v := ?_) (hy := Or.inl ⟨by rfl, ?_⟩) (h := ?_); rotate_left 1; (intro w0 hS; (try dsimp only at hS); unfold MSput at hS; go_simp; try with_reducible rfl); (try go_frame)
  refine hTk (i := 5) (v := ?_) (hy := Or.inl ⟨by rfl, ?_⟩) (h := ?_); rotate_left 1; (intro w0 hS; (try dsimp only at hS); unfold MSput at hS; go_simp; try with_reducible rfl); (try go_frame)
  refine wpAnyH_ready (rs := [6]) (by kernel_rfl) (by simp) ?_; refine hCo (h := fun K hK => ?_) (hs := AllReadyH.nil); go_simp
  refine hK.out _ _ (by first | exact hS7 | exact hH.ext (by first | assumption | exact Ext.alloc (Ext.refl _) _)) (fun hH => ?_); clear hK; (try go_frame)
  refine wpAnyH_ready (rs := [7]) (by kernel_rfl) (by simp) ?_; refine hCo (h := fun K hK => ?_) (hs := AllReadyH.nil); rw [if_pos (show Region.wanted _ _ = true from rfl)]
  have hle9 := hH.1.size
  have hown9 : ((w.alloc (.cells (posCells p) 30)).alloc (.cells (posCells p) 30)).drew.ownsRow B 30 133 (.slice a Ps.length cap) Ps.length (posL Ps) := own_drew (own_alloc (own_alloc hown _) _)
  refine wp_append_own _ _ _ 22 rfl B 30 i0 _ 133 1064 Tryz.underlying22 hi hz0 hz1 hz2 (by simp [Value.cells]) (by decide) _ _ _ rfl hown9 ⟨w.heap.size + 1, 0, none⟩ 1 1 (posL [p]) rfl (by rw [posL_len]; rfl) (by rw [hpo]; exact cells_row (blk_alloc_at _ _ _ (by simp [size_drew]))) (posL_one _) (by unfold maxLen; omega) (by omega) (Nat.le_trans hBw hle9) (fun v' w10 hown10 hg10 _ => ?_)
  obtain ⟨ga, gc, rfl⟩ := (Sl.of_own hown10).form
  have hp9 := hH.2.1
  have hb9 := hH.2.2.1
  have hb10 := (hg10.block b (blk_lt hb9) (fun e => hne9 e.symm)).trans hb9
  have hp10 : blk w10 w.heap.size = some (.cells (posCells p) 30 (0, 0)) := (hg10.block w.heap.size (blk_lt hp9) (fun e => hnp e.symm)).trans hp9
  have hS7 : MSput p b w.heap.size (.slice a Ps.length cap) B w w10 := ⟨hH.1.grown hg10 hown9, hp10, hb10, blk_cell hb10 0⟩
  refine hK.out _ _ (by first | exact hS7 | exact hH.ext (by first | assumption | exact Ext.alloc (Ext.refl _) _)) (fun hH => ?_); clear hK; (try go_frame)
  refine wpAnyH_done (by kernel_rfl) ?_ _
  simp only [splitQ]
  have hW10 := hH.1
  have d1 := blk_cell hb10 0
  have fz := blk_froz hb10
  have lb := blk_lt hb10
  have hnb : w.heap.size ≠ b := (by omega)
  have hp11 : blk (w10.setCell ⟨b, 0, none⟩ (.slice ga (Ps.length + 1) gc)) w.heap.size = some (.cells (posCells p) 30 (0, 0)) := (blk_setCell_past _ _ _ _ hnb).trans hp10
  have hown11 : w10.ownsRow B 30 133 (.slice ga (Ps.length + 1) gc) (Ps ++ [p]).length (posL (Ps ++ [p])) := (by rw [posL_append, List.length_append]; exact hown10)
  have hb11 : blk (w10.setCell ⟨b, 0, none⟩ (.slice ga (Ps.length + 1) gc)) b = some (.cells #[.slice ga (Ps.length + 1) gc] 36 (0, 0)) := (by rw [blk_setCell_same _ _ _ _ _ _ hb10]; rfl)
  have hBK := Bk.put hB hb10 hown11
  have hne11 : (Value.slice ga (Ps.length + 1) gc).ownBlock ≠ some b := (fun e => by
    obtain ⟨-, cs, fr, h⟩ := own_pos hown11 b e
    rw [show blk w10 b = _ from hb10] at h
    injection h with h
    injection h with _ h
    exact absurd h (by decide))
  have hMC := rMany_any b _ (Ps ++ [p]) p _ hb11 (SlP.of_own (own_past2 hown11 hne11 0 _)) (by rw [List.length_append, List.length_singleton]; omega)
  have hWP : WrP B b w (w10.setCell ⟨b, 0, none⟩ (.slice ga (Ps.length + 1) gc)) := hW10.set _
  clear hM0 hH hown10
  go_wp2_with (go_at_call 24; (with_reducible refine hMC.mono ?_); rintro e w12 ⟨rfl, hx12⟩)
  go_ret
  obtain ⟨v2, hv1, hv2⟩ := hBK.st
  exact ⟨rfl, ⟨hB, v2, (hx12.blk _ (blk_lt hv1)).trans hv1, own_ext hv2 hx12⟩, hWP.trans (WrP.ext hx12)⟩
end Go.Proofs.YtdmgimfgoajmjaaGreatDoor
