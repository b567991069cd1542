/- Legal moves, each asked, in the document's answer. -/
import Derived.Test.YtdmgimfgoajmjaaGreatDoorC37
import Derived.Test.YtdmgimfgoajmjaaGreatDoorC38
import Derived.Test.YtdmgimfgoajmjaaGreatDoorC32
import Derived.Deep.CutBlock
import Derived.Test.YtdmgimfgoajmjaaGreatDoorC27
set_option linter.unusedVariables false
set_option linter.unusedSimpArgs false
namespace Go.Proofs.YtdmgimfgoajmjaaGreatDoor
open Go.RowKit
theorem AllL_taken {p : Pos} {m : Mv} (h : m ∈ AllL p) : takenE p m = 0 := by
  obtain ⟨f0, f1, t0, t1, hg, hto⟩ := AllL_goes h
  have hmv := goes_mover hg
  have hmay := hmv.1
  simp only [mayB, decide_eq_true_eq] at hmay
  have hne : m.fr ≠ m.to_ := by
    unfold rGoesB at hg
    split at hg
    · rename_i h; exact h.2.2
    · cases hg
  have hrk : rankOf m.to_ = m.to_ / 8 := if_pos ⟨t0, t1⟩
  have hr : rangeB m = true := by simp [rangeB, f0, f1, t0, t1, hne]
  have hc : canB p m = true := by
    unfold canB canOf
    rw [decide_eq_true_eq]
    refine ⟨hmay.1, hmay.2.1, hmv.2, hmay.2.2, ?_⟩
    unfold toOne at hto
    split at hto
    · rename_i hc
      left
      refine ⟨hc.1, hc.2, ?_⟩
      simp only [promos, List.mem_cons, List.not_mem_nil, or_false] at hto
      rcases hto with e | e | e | e <;> rw [e] <;> simp
    · rename_i hc
      right
      refine ⟨hc, ?_⟩
      rw [List.mem_singleton] at hto
      rw [hto]
  unfold takenE
  rw [if_pos hr, if_pos hc]
set_option maxRecDepth 100000 in
set_option maxHeartbeats 2000000 in
theorem rCastling10_any (p : Pos) (m : Mv) (w : World) (f0 : 0 ≤ m.fr) (f1 : m.fr < 64) (t0 : 0 ≤ m.to_) (t1 : m.to_ < 64) :
    Calls Tryz.prog 114 #[.agg (posCells p), .agg #[.int .i64 m.fr, .int .i64 m.to_, .int .i64 m.be]] w (Ret (.bool (castlesMB p m)) w) := by
  have f2 : m.fr.toNat < 64 := by omega
  have HE := hid (show castlesMB p m = (p.kind m.fr.toNat == 6 && (m.to_ == m.fr + 2 || m.to_ == m.fr - 2)) by
    unfold castlesMB
    congr 1
    rw [Bool.eq_iff_iff]; simp; omega)
  go_enter Tryz.func114, Tryz.ntmps114
  go_wp2
  all_goals (go_ret; exact Ret.mk' (vbool (by rw [HE.out]; go_light; simp_all)) (Ext.auto))
def MSg (p : Pos) (m : Mv) (w W : World) : Prop := Ext w W ∧ blk W w.heap.size = some (.cells (posCells p) 30 (0, 0)) ∧ blk W (w.heap.size + 1) = some (.cells #[.int .i64 m.fr, .int .i64 m.to_, .int .i64 m.be] 51 (0, 0)) ∧
  W.cell? ⟨w.heap.size, 128, none⟩ = some (.int .i64 p.turn) ∧ W.cell? ⟨w.heap.size + 1, 0, none⟩ = some (.int .i64 m.fr) ∧ W.cell? ⟨w.heap.size + 1, 1, none⟩ = some (.int .i64 m.to_)
theorem MSg.mk' {p : Pos} {m : Mv} {w W : World} (h : Ext w W) (h1 : blk W w.heap.size = some (.cells (posCells p) 30 (0, 0))) (h2 : blk W (w.heap.size + 1) = some (.cells #[.int .i64 m.fr, .int .i64 m.to_, .int .i64 m.be] 51 (0, 0))) : MSg p m w W :=
  ⟨h, h1, h2, by rw [blk_cell h1]; simp [go_sem], blk_cell h2 0, blk_cell h2 1⟩
theorem MSg.ext {p : Pos} {m : Mv} {w W W' : World} (h : MSg p m w W) (hx : Ext W W') : MSg p m w W' := MSg.mk' (h.1.trans hx) ((hx.blk _ (blk_lt h.2.1)).trans h.2.1) ((hx.blk _ (blk_lt h.2.2.1)).trans h.2.2.1)
set_option maxRecDepth 100000 in
set_option maxHeartbeats 4000000 in
theorem rFine_any (p : Pos) (m : Mv) (w : World) (hp : positionB p = true) (hm : m ∈ AllL p) :
    Calls Tryz.prog 75 #[.agg (posCells p), .agg #[.int .i64 m.fr, .int .i64 m.to_, .int .i64 m.be]] w (Ret (.bool (legalB p m)) w) := by
  have hE := AllL_taken hm
  have H := parts_iff.1 hp
  obtain ⟨c0, c1, -, -, -, -⟩ := castle_iff.1 H.castles
  obtain ⟨f0, f1, t0, t1, -, -⟩ := AllL_goes hm
  have hmid : Int.tdiv (m.fr + m.to_) 2 = (m.fr + m.to_) / 2 := Int.tdiv_eq_ediv_of_nonneg (by omega)
  have z1 : IntKind.i64.wrap (m.fr + m.to_) = m.fr + m.to_ := IntWalk.i64_in _ (by omega)
  have z2 : IntKind.i64.wrap ((m.fr + m.to_) / 2) = (m.fr + m.to_) / 2 := IntWalk.i64_in _ (by omega)
  have HE := hid (show legalB p m = (!checkB (movedP p m) p.turn && (!castlesMB p m || (!checkB p p.turn && !attacked p (otherOf p.turn) [(m.fr + m.to_) / 2]))) by
    rw [← fine_eq H.pieces hm, ← hmid]; unfold rFineB; rw [hE]; rfl)
  have HM : ∀ w, Calls Tryz.prog 77 #[.agg (posCells p), .agg #[.int .i64 m.fr, .int .i64 m.to_, .int .i64 m.be]] w (Ret (.tuple #[.agg (posCells (movedP p m)), .int .i64 0]) w) := fun w => rMove_any p m w hE c0 c1
  have HC : ∀ w, Calls Tryz.prog 114 #[.agg (posCells p), .agg #[.int .i64 m.fr, .int .i64 m.to_, .int .i64 m.be]] w (Ret (.bool (castlesMB p m)) w) := fun w => rCastling10_any p m w f0 f1 t0 t1
  have HK1 : ∀ w, Calls Tryz.prog 111 #[.agg (posCells (movedP p m)), .int .i64 p.turn] w (Ret (.bool (checkB (movedP p m) p.turn)) w) := fun w => rCheck_any _ _ w
  have HK2 : ∀ w, Calls Tryz.prog 111 #[.agg (posCells p), .int .i64 p.turn] w (Ret (.bool (checkB p p.turn)) w) := fun w => rCheck_any _ _ w
  have HO : ∀ s w, Calls Tryz.prog 112 #[.int .i64 s] w (Ret (.int .i64 (otherOf s)) w) := fun s w => rOther_any s w
  clear H hm hp hE
  generalize movedP p m = q at *
  cases h1 : checkB q p.turn
  · rw [h1] at HK1 HE
    cases h2 : castlesMB p m
    · rw [h2] at HC HE
      go_enter Tryz.func75, Tryz.ntmps75
      go_wp2_with (first | (go_at_call 77; (with_reducible refine (HM _).mono ?_); rintro e w1 ⟨rfl, hx⟩; obtain ⟨hxc, hxf, hxb, hxs⟩ := hx.all; (try simp only [World.size_alloc, size_set, size_drew] at hxc hxf hxb hxs); (first | (have h4 := lt4 w.heap.size w1.heap.size (by omega)); (obtain ⟨_, _, _, _⟩ := h4) | (have h4 := lt3 w.heap.size w1.heap.size (by omega)); (obtain ⟨_, _, _⟩ := h4) | (have h4 := lt2 w.heap.size w1.heap.size (by omega)); (obtain ⟨_, _⟩ := h4) | have := lt1 w.heap.size w1.heap.size (by omega) | skip)) | (go_at_call 111; (with_reducible refine (HK1 _).mono ?_); rintro e w1 ⟨rfl, hx⟩; obtain ⟨hxc, hxf, hxb, hxs⟩ := hx.all; (try simp only [World.size_alloc, size_set, size_drew] at hxc hxf hxb hxs); (first | (have h4 := lt4 w.heap.size w1.heap.size (by omega)); (obtain ⟨_, _, _, _⟩ := h4) | (have h4 := lt3 w.heap.size w1.heap.size (by omega)); (obtain ⟨_, _, _⟩ := h4) | (have h4 := lt2 w.heap.size w1.heap.size (by omega)); (obtain ⟨_, _⟩ := h4) | have := lt1 w.heap.size w1.heap.size (by omega) | skip)) | (go_at_call 114; (with_reducible refine (HC _).mono ?_); rintro e w1 ⟨rfl, hx⟩; obtain ⟨hxc, hxf, hxb, hxs⟩ := hx.all; (try simp only [World.size_alloc, size_set, size_drew] at hxc hxf hxb hxs); (first | (have h4 := lt4 w.heap.size w1.heap.size (by omega)); (obtain ⟨_, _, _, _⟩ := h4) | (have h4 := lt3 w.heap.size w1.heap.size (by omega)); (obtain ⟨_, _, _⟩ := h4) | (have h4 := lt2 w.heap.size w1.heap.size (by omega)); (obtain ⟨_, _⟩ := h4) | have := lt1 w.heap.size w1.heap.size (by omega) | skip)))
      all_goals (go_ret; exact Ret.mk' (vbool (by rw [HE.out]; rfl)) (Ext.auto))
    · rw [h2] at HC HE
      cases h3 : checkB p p.turn
      · rw [h3] at HK2 HE
        go_enter Tryz.func75, Tryz.ntmps75
        go_upto_region 6 with (first | (go_at_call 77; (with_reducible refine (HM _).mono ?_); rintro e w1 ⟨rfl, hx⟩; obtain ⟨hxc, hxf, hxb, hxs⟩ := hx.all; (try simp only [World.size_alloc, size_set, size_drew] at hxc hxf hxb hxs); (first | (have h4 := lt4 w.heap.size w1.heap.size (by omega)); (obtain ⟨_, _, _, _⟩ := h4) | (have h4 := lt3 w.heap.size w1.heap.size (by omega)); (obtain ⟨_, _, _⟩ := h4) | (have h4 := lt2 w.heap.size w1.heap.size (by omega)); (obtain ⟨_, _⟩ := h4) | have := lt1 w.heap.size w1.heap.size (by omega) | skip)) | (go_at_call 111; (with_reducible refine (HK1 _).mono ?_); rintro e w1 ⟨rfl, hx⟩; obtain ⟨hxc, hxf, hxb, hxs⟩ := hx.all; (try simp only [World.size_alloc, size_set, size_drew] at hxc hxf hxb hxs); (first | (have h4 := lt4 w.heap.size w1.heap.size (by omega)); (obtain ⟨_, _, _, _⟩ := h4) | (have h4 := lt3 w.heap.size w1.heap.size (by omega)); (obtain ⟨_, _, _⟩ := h4) | (have h4 := lt2 w.heap.size w1.heap.size (by omega)); (obtain ⟨_, _⟩ := h4) | have := lt1 w.heap.size w1.heap.size (by omega) | skip)) | (go_at_call 114; (with_reducible refine (HC _).mono ?_); rintro e w1 ⟨rfl, hx⟩; obtain ⟨hxc, hxf, hxb, hxs⟩ := hx.all; (try simp only [World.size_alloc, size_set, size_drew] at hxc hxf hxb hxs); (first | (have h4 := lt4 w.heap.size w1.heap.size (by omega)); (obtain ⟨_, _, _, _⟩ := h4) | (have h4 := lt3 w.heap.size w1.heap.size (by omega)); (obtain ⟨_, _, _⟩ := h4) | (have h4 := lt2 w.heap.size w1.heap.size (by omega)); (obtain ⟨_, _⟩ := h4) | have := lt1 w.heap.size w1.heap.size (by omega) | skip)))
        have hE0 : Ext ((w.alloc (.cells (posCells p) 30)).alloc (.cells #[.int .i64 m.fr, .int .i64 m.to_, .int .i64 m.be] 51)) w1 := (Ext.auto)
        have hEw : Ext w w1 := (Ext.auto)
        have hM0 : MSg p m w w1 := MSg.mk' hEw ((hE0.blk _ (by simp; omega)).trans (by simp [go_sem])) ((hE0.blk _ (by simp)).trans (by simp [go_sem]))
        clear hE0 hEw
        have hM1 := hM0.ext (Ext.drew (Ext.refl _))
        refine wp_region_held_drew (S := MSg p m w) (by kernel_rfl) (hM1) (fun hH => ?_)
        refine hTk (i := 0) (v := ?_) (hy := Or.inl ⟨by rfl, ?_⟩) (h := ?_); rotate_left 1; (intro w0 hS; (try dsimp only at hS); unfold MSg at hS; go_simp; try with_reducible rfl); (try go_frame)
        refine hTk (i := 1) (v := ?_) (hy := Or.inl ⟨by rfl, ?_⟩) (h := ?_); rotate_left 1; (intro w0 hS; (try dsimp only at hS); unfold MSg at hS; go_simp; try with_reducible rfl); (try go_frame)
        refine hTk (i := 2) (v := ?_) (hy := Or.inl ⟨by rfl, ?_⟩) (h := ?_); rotate_left 1; (intro w0 hS; (try dsimp only at hS); unfold MSg at hS; go_simp; try with_reducible rfl); (try go_frame)
        refine wpAnyH_ready (rs := [3]) (by kernel_rfl) (by simp) ?_; refine hCo (h := fun K hK => ?_) (hs := AllReadyH.nil); go_simp
        refine (HK2 _).mono ?_
        rintro e w8 ⟨rfl, hx8⟩
        refine hK.out _ _ (hH.ext (by first | assumption | exact Ext.alloc (Ext.refl _) _)) (fun hH => ?_); clear hK; (try go_frame)
        refine hTk (i := 4) (v := ?_) (hy := Or.inl ⟨by rfl, ?_⟩) (h := ?_); rotate_left 1; (intro w0 hS; (try dsimp only at hS); unfold MSg at hS; go_simp; try with_reducible rfl); (try go_frame)
        refine hTk (i := 5) (v := ?_) (hy := Or.inl ⟨by rfl, ?_⟩) (h := ?_); rotate_left 1; (intro w0 hS; (try dsimp only at hS); unfold MSg at hS; go_simp; try with_reducible rfl); (try go_frame)
        refine hTk (i := 6) (v := ?_) (hy := Or.inl ⟨by rfl, ?_⟩) (h := ?_); rotate_left 1; (intro w0 hS; (try dsimp only at hS); unfold MSg at hS; go_simp; try with_reducible rfl); (try go_frame)
        refine hTk (i := 7) (v := ?_) (hy := Or.inl ⟨by rfl, ?_⟩) (h := ?_); rotate_left 1; (intro w0 hS; (try dsimp only at hS); unfold MSg at hS; go_simp; try with_reducible rfl); (try go_frame)
        refine hTk (i := 8) (v := ?_) (hy := Or.inl ⟨by rfl, ?_⟩) (h := ?_); rotate_left 1; (intro w0 hS; (try dsimp only at hS); unfold MSg at hS; go_simp; try with_reducible rfl); (try go_frame)
        refine hTk (i := 10) (v := ?_) (hy := Or.inl ⟨by rfl, ?_⟩) (h := ?_); rotate_left 1; (intro w0 hS; (try dsimp only at hS); unfold MSg at hS; go_simp; try with_reducible rfl); (try go_frame)
        refine hTk (i := 11) (v := ?_) (hy := Or.inl ⟨by rfl, ?_⟩) (h := ?_); rotate_left 1; (intro w0 hS; (try dsimp only at hS); unfold MSg at hS; go_simp; try with_reducible rfl); (try go_frame)
        refine hTk (i := 12) (v := ?_) (hy := Or.inl ⟨by rfl, ?_⟩) (h := ?_); rotate_left 1; (intro w0 hS; (try dsimp only at hS); unfold MSg at hS; go_simp; try with_reducible rfl); (try go_frame)
        refine hTk (i := 13) (v := ?_) (hy := Or.inl ⟨by rfl, ?_⟩) (h := ?_); rotate_left 1; (intro w0 hS; (try dsimp only at hS); unfold MSg at hS; go_simp; try with_reducible rfl); (try go_frame)
        refine hTk (i := 14) (v := ?_) (hy := Or.inl ⟨by rfl, ?_⟩) (h := ?_); rotate_left 1; (intro w0 hS; (try dsimp only at hS); unfold MSg at hS; go_simp; try with_reducible rfl); (try go_frame)
        refine hTk (i := 15) (v := ?_) (hy := Or.inl ⟨by rfl, ?_⟩) (h := ?_); rotate_left 1; (intro w0 hS; (try dsimp only at hS); unfold MSg at hS; go_simp; try with_reducible rfl); (try go_frame)
        refine wpAnyH_ready (rs := [9, 16]) (by kernel_rfl) (by simp) ?_; refine (hCo (h := fun K hK => ?_) (hs := (hCo (h := fun K hK => ?_) (hs := AllReadyH.nil))))
        · go_simp
          refine (HO _ _).mono ?_
          rintro e w9 ⟨rfl, hx9⟩
          refine hK.out _ _ (hH.ext (by first | assumption | exact Ext.alloc (Ext.refl _) _)) (fun hH => ?_); clear hK; (try go_frame)
          refine wpAnyH_ready (rs := [16]) (by kernel_rfl) (by simp) ?_; refine hCo (h := fun K hK => ?_) (hs := AllReadyH.nil); go_simp
          refine hK.out _ _ (hH.ext (by first | assumption | exact Ext.alloc (Ext.refl _) _)) (fun hH => ?_); clear hK; (try go_frame)
          refine wpAnyH_ready (rs := [17]) (by kernel_rfl) (by simp) ?_; refine hCo (h := fun K hK => ?_) (hs := AllReadyH.nil); go_simp
          first | refine (rIs_any p _ [(m.fr + m.to_) / 2] _ _ (Sl.lits [(m.fr + m.to_) / 2] _ _ rfl (alloc_ints1 _ _ _)) (by simp) (by intro x hx; simp at hx; omega)).mono ?_ | refine (rIs_any p _ [(m.fr + m.to_) / 2] _ _ (Sl.lits [(m.fr + m.to_) / 2] _ _ rfl ((hx9.blk _ (by simp)).trans (alloc_ints1 _ _ _))) (by simp) (by intro x hx; simp at hx; omega)).mono ?_
          rintro e w10 ⟨rfl, hx10⟩
          refine hK.out _ _ (hH.ext (by first | assumption | exact Ext.alloc (Ext.refl _) _)) (fun hH => ?_); clear hK; (try go_frame)
          refine hTk (i := 18) (v := ?_) (hy := Or.inl ⟨by rfl, ?_⟩) (h := ?_); rotate_left 1; (intro w0 hS; (try dsimp only at hS); unfold MSg at hS; go_simp; try with_reducible rfl); (try go_frame)
          refine hTk (i := 19) (v := ?_) (hy := Or.inl ⟨by rfl, ?_⟩) (h := ?_); rotate_left 1; (intro w0 hS; (try dsimp only at hS); unfold MSg at hS; go_simp; try with_reducible rfl); (try go_frame)
          refine hTk (i := 20) (v := ?_) (hy := Or.inl ⟨by rfl, ?_⟩) (h := ?_); rotate_left 1; (intro w0 hS; (try dsimp only at hS); unfold MSg at hS; go_simp; try with_reducible rfl); (try go_frame)
          refine wpAnyH_done (by kernel_rfl) ?_ _
          go_wp2
          go_ret
          exact Ret.mk' (vbool (by rw [HE.out]; rfl)) hH.1
        · go_simp
          refine hK.out _ _ (hH.ext (by first | assumption | exact Ext.alloc (Ext.refl _) _)) (fun hH => ?_); clear hK; (try go_frame)
          refine wpAnyH_ready (rs := [9]) (by kernel_rfl) (by simp) ?_; refine hCo (h := fun K hK => ?_) (hs := AllReadyH.nil); go_simp
          refine (HO _ _).mono ?_
          rintro e w9 ⟨rfl, hx9⟩
          refine hK.out _ _ (hH.ext (by first | assumption | exact Ext.alloc (Ext.refl _) _)) (fun hH => ?_); clear hK; (try go_frame)
          refine wpAnyH_ready (rs := [17]) (by kernel_rfl) (by simp) ?_; refine hCo (h := fun K hK => ?_) (hs := AllReadyH.nil); go_simp
          first | refine (rIs_any p _ [(m.fr + m.to_) / 2] _ _ (Sl.lits [(m.fr + m.to_) / 2] _ _ rfl (alloc_ints1 _ _ _)) (by simp) (by intro x hx; simp at hx; omega)).mono ?_ | refine (rIs_any p _ [(m.fr + m.to_) / 2] _ _ (Sl.lits [(m.fr + m.to_) / 2] _ _ rfl ((hx9.blk _ (by simp)).trans (alloc_ints1 _ _ _))) (by simp) (by intro x hx; simp at hx; omega)).mono ?_
          rintro e w10 ⟨rfl, hx10⟩
          refine hK.out _ _ (hH.ext (by first | assumption | exact Ext.alloc (Ext.refl _) _)) (fun hH => ?_); clear hK; (try go_frame)
          refine hTk (i := 18) (v := ?_) (hy := Or.inl ⟨by rfl, ?_⟩) (h := ?_); rotate_left 1; (intro w0 hS; (try dsimp only at hS); unfold MSg at hS; go_simp; try with_reducible rfl); (try go_frame)
          refine hTk (i := 19) (v := ?_) (hy := Or.inl ⟨by rfl, ?_⟩) (h := ?_); rotate_left 1; (intro w0 hS; (try dsimp only at hS); unfold MSg at hS; go_simp; try with_reducible rfl); (try go_frame)
          refine hTk (i := 20) (v := ?_) (hy := Or.inl ⟨by rfl, ?_⟩) (h := ?_); rotate_left 1; (intro w0 hS; (try dsimp only at hS); unfold MSg at hS; go_simp; try with_reducible rfl); (try go_frame)
          refine wpAnyH_done (by kernel_rfl) ?_ _
          go_wp2
          go_ret
          exact Ret.mk' (vbool (by rw [HE.out]; rfl)) hH.1
      · rw [h3] at HK2 HE
        go_enter Tryz.func75, Tryz.ntmps75
        go_wp2_with (first | (go_at_call 77; (with_reducible refine (HM _).mono ?_); rintro e w1 ⟨rfl, hx⟩; obtain ⟨hxc, hxf, hxb, hxs⟩ := hx.all; (try simp only [World.size_alloc, size_set, size_drew] at hxc hxf hxb hxs); (first | (have h4 := lt4 w.heap.size w1.heap.size (by omega)); (obtain ⟨_, _, _, _⟩ := h4) | (have h4 := lt3 w.heap.size w1.heap.size (by omega)); (obtain ⟨_, _, _⟩ := h4) | (have h4 := lt2 w.heap.size w1.heap.size (by omega)); (obtain ⟨_, _⟩ := h4) | have := lt1 w.heap.size w1.heap.size (by omega) | skip)) | (go_at_call 111; (with_reducible refine (HK1 _).mono ?_); rintro e w1 ⟨rfl, hx⟩; obtain ⟨hxc, hxf, hxb, hxs⟩ := hx.all; (try simp only [World.size_alloc, size_set, size_drew] at hxc hxf hxb hxs); (first | (have h4 := lt4 w.heap.size w1.heap.size (by omega)); (obtain ⟨_, _, _, _⟩ := h4) | (have h4 := lt3 w.heap.size w1.heap.size (by omega)); (obtain ⟨_, _, _⟩ := h4) | (have h4 := lt2 w.heap.size w1.heap.size (by omega)); (obtain ⟨_, _⟩ := h4) | have := lt1 w.heap.size w1.heap.size (by omega) | skip)) | (go_at_call 114; (with_reducible refine (HC _).mono ?_); rintro e w1 ⟨rfl, hx⟩; obtain ⟨hxc, hxf, hxb, hxs⟩ := hx.all; (try simp only [World.size_alloc, size_set, size_drew] at hxc hxf hxb hxs); (first | (have h4 := lt4 w.heap.size w1.heap.size (by omega)); (obtain ⟨_, _, _, _⟩ := h4) | (have h4 := lt3 w.heap.size w1.heap.size (by omega)); (obtain ⟨_, _, _⟩ := h4) | (have h4 := lt2 w.heap.size w1.heap.size (by omega)); (obtain ⟨_, _⟩ := h4) | have := lt1 w.heap.size w1.heap.size (by omega) | skip)))
        refine wp_quiet (by kernel_rfl) (by kernel_rfl) ?_; (repeat (first | go_big_quiet_step ((first | (go_at_call 111; with_reducible exact Calls.reg (HK2 _)))) | quiet_step ((first | (go_at_call 111; with_reducible exact Calls.reg (HK2 _)))))); refine wpQuiet_nil ?_; intro w1 hx; obtain ⟨hxc, hxf, hxb, hxs⟩ := hx.all; (try simp only [World.size_alloc, size_set, size_drew] at hxc hxf hxb hxs); (first | (have h4 := lt4 w.heap.size w1.heap.size (by omega)); (obtain ⟨_, _, _, _⟩ := h4) | (have h4 := lt3 w.heap.size w1.heap.size (by omega)); (obtain ⟨_, _, _⟩ := h4) | (have h4 := lt2 w.heap.size w1.heap.size (by omega)); (obtain ⟨_, _⟩ := h4) | have := lt1 w.heap.size w1.heap.size (by omega) | skip)
        go_wp2
        all_goals (go_ret; exact Ret.mk' (vbool (by rw [HE.out]; rfl)) (Ext.auto))
  · rw [h1] at HK1 HE
    go_enter Tryz.func75, Tryz.ntmps75
    go_wp2_with (first | (go_at_call 77; (with_reducible refine (HM _).mono ?_); rintro e w1 ⟨rfl, hx⟩; obtain ⟨hxc, hxf, hxb, hxs⟩ := hx.all; (try simp only [World.size_alloc, size_set, size_drew] at hxc hxf hxb hxs); (first | (have h4 := lt4 w.heap.size w1.heap.size (by omega)); (obtain ⟨_, _, _, _⟩ := h4) | (have h4 := lt3 w.heap.size w1.heap.size (by omega)); (obtain ⟨_, _, _⟩ := h4) | (have h4 := lt2 w.heap.size w1.heap.size (by omega)); (obtain ⟨_, _⟩ := h4) | have := lt1 w.heap.size w1.heap.size (by omega) | skip)) | (go_at_call 111; (with_reducible refine (HK1 _).mono ?_); rintro e w1 ⟨rfl, hx⟩; obtain ⟨hxc, hxf, hxb, hxs⟩ := hx.all; (try simp only [World.size_alloc, size_set, size_drew] at hxc hxf hxb hxs); (first | (have h4 := lt4 w.heap.size w1.heap.size (by omega)); (obtain ⟨_, _, _, _⟩ := h4) | (have h4 := lt3 w.heap.size w1.heap.size (by omega)); (obtain ⟨_, _, _⟩ := h4) | (have h4 := lt2 w.heap.size w1.heap.size (by omega)); (obtain ⟨_, _⟩ := h4) | have := lt1 w.heap.size w1.heap.size (by omega) | skip)))
    all_goals (go_ret; exact Ret.mk' (vbool (by rw [HE.out]; rfl)) (Ext.auto))
end Go.Proofs.YtdmgimfgoajmjaaGreatDoor
namespace Go.Proofs.YtdmgimfgoajmjaaGreatDoor
open Go.RowKit
structure UpAt (p : Pos) (W0 : World) (k : Nat) (v : Value) (wr : World) : Prop where
  le : k ≤ (AllL p).length
  own : wr.ownsRow W0.heap.size 51 3 v (legalUp p k).length (mvsC (legalUp p k))
  x : Ext W0 wr
theorem UpAt.no {p : Pos} {W0 wr wr' : World} {k : Nat} {v : Value} {m : Mv} (h : UpAt p W0 k v wr) (hm : (AllL p)[k]? = some m) (hn : legalB p m = false) (hx : Ext wr wr') : UpAt p W0 (k + 1) v wr' := by
  have e : legalUp p (k + 1) = legalUp p k := by rw [legalUp_succ hm, hn]; simp
  exact ⟨(List.getElem?_eq_some_iff.1 hm).1, by rw [e]; exact own_ext h.own hx, h.x.trans hx⟩
theorem UpAt.yes {p : Pos} {W0 wr w1 wr' : World} {k : Nat} {v v' : Value} {m : Mv} (h : UpAt p W0 k v wr) (hm : (AllL p)[k]? = some m) (hn : legalB p m = true) (hx : Ext wr w1)
    (ho : wr'.ownsRow W0.heap.size 51 3 v' (legalUp p k ++ [m]).length (mvsC (legalUp p k ++ [m]))) (hg : w1.grownBy wr' v.ownBlock) : UpAt p W0 (k + 1) v' wr' := by
  have e : legalUp p (k + 1) = legalUp p k ++ [m] := by rw [legalUp_succ hm, if_pos hn]
  exact ⟨(List.getElem?_eq_some_iff.1 hm).1, by rw [e]; exact ho, (h.x.trans hx).grown (own_ext h.own hx) hg⟩
def MSh (p : Pos) (b g o : Nat) (m : Mv) (wr W : World) : Prop := Ext wr W ∧ blk W b = some (.cells (posCells p) 30 (0, 0)) ∧ g < wr.heap.size ∧ W.cell? ⟨g, o, none⟩ = some (.int .i64 m.fr) ∧ W.cell? ⟨g, o + 1, none⟩ = some (.int .i64 m.to_) ∧ W.cell? ⟨g, o + 2, none⟩ = some (.int .i64 m.be)
theorem MSh.ext {p : Pos} {b g o : Nat} {m : Mv} {wr W W' : World} (h : MSh p b g o m wr W) (hx : Ext W W') : MSh p b g o m wr W' := by
  obtain ⟨h1, h2, h3, h4, h5, h6⟩ := h
  have hl := Nat.lt_of_lt_of_le h3 h1.le
  exact ⟨h1.trans hx, (hx.blk _ (blk_lt h2)).trans h2, h3, by rw [hx.cell _ _ hl]; exact h4, by rw [hx.cell _ _ hl]; exact h5, by rw [hx.cell _ _ hl]; exact h6⟩
theorem legalUp_len (p : Pos) (k : Nat) : (legalUp p k).length ≤ 300000 := by
  have h1 := List.length_filter_le (legalB p) ((AllL p).take k)
  have h2 := AllL_len p
  unfold legalUp
  rw [List.length_take] at h1; omega
set_option maxRecDepth 100000 in
set_option maxHeartbeats 4000000 in
theorem rMoves_any (p : Pos) (w : World) : Calls Tryz.prog 36 #[.agg (posCells p)] w (RetMvs (movesP p) w) := by
  have HP : ∀ w, Calls Tryz.prog 73 #[.agg (posCells p)] w (Ret (.bool (positionB p)) w) := fun w => rPosition_any p w
  cases hp : positionB p
  · have HE := hid (show movesP p = [] by unfold movesP; rw [hp]; rfl)
    rw [hp] at HP
    clear hp
    go_enter Tryz.func36, Tryz.ntmps36
    go_wp2_with (first | (go_at_call 73; (with_reducible refine (HP _).mono ?_); rintro e w1 ⟨rfl, hx⟩; obtain ⟨hxc, hxf, hxb, hxs⟩ := hx.all; (try simp only [World.size_alloc, size_set, size_drew] at hxc hxf hxb hxs); (first | (have h4 := lt4 wr.heap.size w1.heap.size (by omega)); (obtain ⟨_, _, _, _⟩ := h4) | (have h4 := lt3 wr.heap.size w1.heap.size (by omega)); (obtain ⟨_, _, _⟩ := h4) | (have h4 := lt2 wr.heap.size w1.heap.size (by omega)); (obtain ⟨_, _⟩ := h4) | have := lt1 wr.heap.size w1.heap.size (by omega) | skip); (first | (have h4 := lt4 w.heap.size w1.heap.size (by omega)); (obtain ⟨_, _, _, _⟩ := h4) | (have h4 := lt3 w.heap.size w1.heap.size (by omega)); (obtain ⟨_, _, _⟩ := h4) | (have h4 := lt2 w.heap.size w1.heap.size (by omega)); (obtain ⟨_, _⟩ := h4) | have := lt1 w.heap.size w1.heap.size (by omega) | skip)))
    go_ret
    exact ⟨_, rfl, by rw [HE.out]; exact World.ownsRow_nil _ _ _ _, (Ext.auto)⟩
  · have HE := hid (show movesP p = legalL p by unfold movesP; rw [hp]; rfl)
    have HPP := hid hp
    rw [hp] at HP
    clear hp
    have hLen := AllL_len p
    go_enter Tryz.func36, Tryz.ntmps36
    go_upto_region 5 with (first | (go_at_call 73; (with_reducible refine (HP _).mono ?_); rintro e w1 ⟨rfl, hx⟩; obtain ⟨hxc, hxf, hxb, hxs⟩ := hx.all; (try simp only [World.size_alloc, size_set, size_drew] at hxc hxf hxb hxs); (first | (have h4 := lt4 wr.heap.size w1.heap.size (by omega)); (obtain ⟨_, _, _, _⟩ := h4) | (have h4 := lt3 wr.heap.size w1.heap.size (by omega)); (obtain ⟨_, _, _⟩ := h4) | (have h4 := lt2 wr.heap.size w1.heap.size (by omega)); (obtain ⟨_, _⟩ := h4) | have := lt1 wr.heap.size w1.heap.size (by omega) | skip); (first | (have h4 := lt4 w.heap.size w1.heap.size (by omega)); (obtain ⟨_, _, _, _⟩ := h4) | (have h4 := lt3 w.heap.size w1.heap.size (by omega)); (obtain ⟨_, _, _⟩ := h4) | (have h4 := lt2 w.heap.size w1.heap.size (by omega)); (obtain ⟨_, _⟩ := h4) | have := lt1 w.heap.size w1.heap.size (by omega) | skip)) | (go_at_call 74; (with_reducible refine (rAll_any p _).mono ?_); rintro e w2 ⟨v2, rfl, hown2, hx2⟩; (have hS2 := Sl.of_own hown2); obtain ⟨a2, c2, rfl⟩ := hS2.form))
    have hEw : Ext w w2 := (Ext.auto)
    have hE1 : Ext (w.alloc (.cells (posCells p) 30)) w1 := hx
    have hbp : blk w2 w.heap.size = some (.cells (posCells p) 30 (0, 0)) := (hx2.blk _ (by have := hE1.le; simp at this; omega)).trans ((hE1.blk _ (by simp)).trans (by simp [go_sem]))
    clear hE1 hx hxc hxf hxb hxs hx2 hown2
    go_wp2
    go_loopw [3, 5] (fun v i wr => ∃ k : Nat, i = .int .i64 k ∧ UpAt p w2 k v wr) (fun _ i _ => (AllL p).length - (intOf i).toNat)
    case atStart => exact ⟨0, rfl, by omega, by exact World.ownsRow_nil _ _ _ _, Ext.refl _⟩
    case round =>
      obtain ⟨k, rfl, hk⟩ := hrel
      by_cases hlt : k < (AllL p).length
      · obtain ⟨m, hm⟩ : ∃ m, (AllL p)[k]? = some m := ⟨_, List.getElem?_eq_getElem hlt⟩
        have hmem := List.mem_of_getElem? hm
        have hbp1 := (hk.x.blk _ (blk_lt hbp)).trans hbp
        obtain ⟨g, o, rfl, hg, hcl⟩ := (hS2.ext hk.x).pos (by omega)
        have d0 := hcl (k * 3) _ (mvsC_at hm 0 (by omega))
        have d1 := hcl (k * 3 + 1) _ (mvsC_at hm 1 (by omega))
        have d2 := hcl (k * 3 + 2) _ (mvsC_at hm 2 (by omega))
        simp only [mvE, List.getElem!_cons_zero, List.getElem!_cons_succ] at d0 d1 d2
        rw [← Nat.add_assoc] at d1 d2
        have hMS : MSh p w.heap.size g (o + k * 3) m wr wr := ⟨Ext.refl _, hbp1, hg, d0, d1, d2⟩
        have HF : ∀ w, Calls Tryz.prog 75 #[.agg (posCells p), .agg #[.int .i64 m.fr, .int .i64 m.to_, .int .i64 m.be]] w (Ret (.bool (legalB p m)) w) := fun w => rFine_any p m w HPP.out hmem
        have HK := hid hk
        have HM := hid hm
        have HS := hid hS2
        have hul := legalUp_len p k
        clear hk hm hcl d0 d1 d2 hS2 hmem
        cases hl : legalB p m
        · rw [hl] at HF
          have HL := hid hl
          clear hl
          go_wp2
          refine wp_region_held_drew (S := MSh p w.heap.size g (o + k * 3) m wr) (by kernel_rfl) (hMS.ext (Ext.drew (Ext.refl _))) (fun hH => ?_)
          refine hTk (i := 0) (v := ?_) (hy := Or.inl ⟨by rfl, ?_⟩) (h := ?_); rotate_left 1; (intro w0 hS; (try dsimp only at hS); unfold MSh at hS; go_simp; try with_reducible rfl); (try go_frame)
          refine hTk (i := 1) (v := ?_) (hy := Or.inl ⟨by rfl, ?_⟩) (h := ?_); rotate_left 1; (intro w0 hS; (try dsimp only at hS); unfold MSh at hS; go_simp; try with_reducible rfl); (try go_frame)
          refine hTk (i := 2) (v := ?_) (hy := Or.inl ⟨by rfl, ?_⟩) (h := ?_); rotate_left 1; (intro w0 hS; (try dsimp only at hS); unfold MSh at hS; go_simp; try with_reducible rfl); (try go_frame)
          refine hTk (i := 3) (v := ?_) (hy := Or.inl ⟨by rfl, ?_⟩) (h := ?_); rotate_left 1; (intro w0 hS; (try dsimp only at hS); unfold MSh at hS; go_simp; try with_reducible rfl); (try go_frame)
          refine hTk (i := 4) (v := ?_) (hy := Or.inl ⟨by rfl, ?_⟩) (h := ?_); rotate_left 1; (intro w0 hS; (try dsimp only at hS); unfold MSh at hS; go_simp; try with_reducible rfl); (try go_frame)
          refine wpAnyH_ready (rs := [5]) (by kernel_rfl) (by simp) ?_; refine hCo (h := fun K hK => ?_) (hs := AllReadyH.nil); go_simp
          refine (HF _).mono ?_
          rintro e w8 ⟨rfl, hx8⟩
          refine hK.out _ _ (hH.ext (by first | assumption | exact Ext.alloc (Ext.refl _) _)) (fun hH => ?_); clear hK; (try go_frame)
          refine wpAnyH_done (by kernel_rfl) ?_ _
          have hxr := hH.1
          clear hMS hH
          go_wp2
          go_roundw
          case rel => exact ⟨k + 1, by go_num, HK.out.no HM.out HL.out hxr⟩
          case measure => simp [intOf]; omega
        · rw [hl] at HF
          have HL := hid hl
          clear hl
          go_wp2
          refine wp_region_held_drew (S := MSh p w.heap.size g (o + k * 3) m wr) (by kernel_rfl) (hMS.ext (Ext.drew (Ext.refl _))) (fun hH => ?_)
          refine hTk (i := 0) (v := ?_) (hy := Or.inl ⟨by rfl, ?_⟩) (h := ?_); rotate_left 1; (intro w0 hS; (try dsimp only at hS); unfold MSh at hS; go_simp; try with_reducible rfl); (try go_frame)
          refine hTk (i := 1) (v := ?_) (hy := Or.inl ⟨by rfl, ?_⟩) (h := ?_); rotate_left 1; (intro w0 hS; (try dsimp only at hS); unfold MSh at hS; go_simp; try with_reducible rfl); (try go_frame)
          refine hTk (i := 2) (v := ?_) (hy := Or.inl ⟨by rfl, ?_⟩) (h := ?_); rotate_left 1; (intro w0 hS; (try dsimp only at hS); unfold MSh at hS; go_simp; try with_reducible rfl); (try go_frame)
          refine hTk (i := 3) (v := ?_) (hy := Or.inl ⟨by rfl, ?_⟩) (h := ?_); rotate_left 1; (intro w0 hS; (try dsimp only at hS); unfold MSh at hS; go_simp; try with_reducible rfl); (try go_frame)
          refine hTk (i := 4) (v := ?_) (hy := Or.inl ⟨by rfl, ?_⟩) (h := ?_); rotate_left 1; (intro w0 hS; (try dsimp only at hS); unfold MSh at hS; go_simp; try with_reducible rfl); (try go_frame)
          refine wpAnyH_ready (rs := [5]) (by kernel_rfl) (by simp) ?_; refine hCo (h := fun K hK => ?_) (hs := AllReadyH.nil); go_simp
          refine (HF _).mono ?_
          rintro e w8 ⟨rfl, hx8⟩
          refine hK.out _ _ (hH.ext (by first | assumption | exact Ext.alloc (Ext.refl _) _)) (fun hH => ?_); clear hK; (try go_frame)
          refine wpAnyH_done (by kernel_rfl) ?_ _
          have hxr := hH.1
          have hgl := Nat.lt_of_lt_of_le hH.2.2.1 hxr.le
          obtain ⟨-, -, -, y0, y1, y2⟩ := id hH
          have hbase9 : w2.heap.size ≤ (w8.alloc (.cells #[.int .i64 m.fr, .int .i64 m.to_, .int .i64 m.be] 51 (0, 0))).heap.size := by
            have h1 := HK.out.x.le; have h2 := hxr.le; simp; omega
          have hown9 := own_ext HK.out.own (Ext.alloc hxr (.cells #[.int .i64 m.fr, .int .i64 m.to_, .int .i64 m.be] 51 (0, 0)))
          have hlen9 : (legalUp p k).length ≤ 900000 := by omega
          clear hMS hH
          go_wp2_with (at_builtin; refine wpList_append_mv rfl _ _ rfl w2.heap.size _ (legalUp p k) rfl hown9 w8.heap.size m rfl (blk_alloc_at _ _ _ rfl) hlen9 hbase9 (fun v' w9 hown3 hg3 hf3 => ?_))
          go_roundw
          case rel => exact ⟨k + 1, by go_num, HK.out.yes HM.out HL.out (Ext.alloc hxr _) hown3 hg3⟩
          case measure => simp [intOf]; omega
      · obtain rfl : k = (AllL p).length := by have := hk.le; omega
        have hO := hk.own
        have e : legalUp p (AllL p).length = legalL p := by unfold legalUp legalL; rw [List.take_length]
        rw [e] at hO
        have hx9 := hk.x
        go_wp2
        go_ret
        exact RetMvs.mk' hO (by rw [HE.out]) (by rw [HE.out]) hEw.le (hEw.trans hx9)
end Go.Proofs.YtdmgimfgoajmjaaGreatDoor
namespace Go.Proofs.YtdmgimfgoajmjaaGreatDoor
open Go.RowKit
def isB (p : Pos) (m : Mv) : Bool := (movesP p).any fun x => decide (x = m)
theorem movesP_len (p : Pos) : (movesP p).length ≤ 300000 := by
  unfold movesP
  split
  · exact legalL_len p
  · simp
theorem any_take {L : List Mv} {m x : Mv} {k : Nat} (h : L[k]? = some x) : (L.take (k + 1)).any (fun y => decide (y = m)) = ((L.take k).any (fun y => decide (y = m)) || decide (x = m)) := by
  rw [List.take_add_one, h, List.any_append]; simp
set_option maxRecDepth 100000 in
set_option maxHeartbeats 4000000 in
theorem rIs10_any (p : Pos) (m : Mv) (w : World) : Calls Tryz.prog 76 #[.agg (posCells p), .agg #[.int .i64 m.fr, .int .i64 m.to_, .int .i64 m.be]] w (Ret (.bool (isB p m)) w) := by
  have hLen := movesP_len p
  have HE := hid (show isB p m = (movesP p).any (fun x => decide (x = m)) from rfl)
  go_enter Tryz.func76, Tryz.ntmps76
  go_upto_region 2 with (first | (go_at_call 36; (with_reducible refine (rMoves_any p _).mono ?_); rintro e w2 ⟨v2, rfl, hown2, hx2⟩; (have hS2 := Sl.of_own hown2); obtain ⟨a2, c2, rfl⟩ := hS2.form))
  have hEw : Ext w w2 := (Ext.auto)
  have hbm : blk w2 (w.heap.size + 1) = some (.cells #[.int .i64 m.fr, .int .i64 m.to_, .int .i64 m.be] 51 (0, 0)) := (hx2.blk _ (by simp)).trans (by simp [go_sem])
  clear hx2 hown2
  generalize movesP p = L at *
  go_wp2
  go_loopw [6] (fun i wr => ∃ k : Nat, i = .int .i64 k ∧ k ≤ L.length ∧ (L.take k).any (fun x => decide (x = m)) = false ∧ Ext w2 wr) (fun i _ => L.length - (intOf i).toNat)
  case atStart => exact ⟨0, rfl, by omega, rfl, Ext.refl _⟩
  case round =>
    obtain ⟨k, rfl, hk, hno, hxr⟩ := hrel
    by_cases hlt : k < L.length
    · obtain ⟨x, hx⟩ : ∃ x, L[k]? = some x := ⟨_, List.getElem?_eq_getElem hlt⟩
      obtain ⟨g, o, rfl, hg, hcl⟩ := (hS2.ext hxr).pos (by omega)
      have d0 := hcl (k * 3) _ (mvsC_at hx 0 (by omega))
      have d1 := hcl (k * 3 + 1) _ (mvsC_at hx 1 (by omega))
      have d2 := hcl (k * 3 + 2) _ (mvsC_at hx 2 (by omega))
      simp only [mvE, List.getElem!_cons_zero, List.getElem!_cons_succ] at d0 d1 d2
      rw [← Nat.add_assoc] at d1 d2
      have hbm1 := (hxr.blk _ (blk_lt hbm)).trans hbm
      have hlb := blk_lt hbm1
      have b0 := blk_cell hbm1 0
      have b1 := blk_cell hbm1 1
      have b2 := blk_cell hbm1 2
      simp only [List.getElem?_toArray, List.getElem?_cons_zero, List.getElem?_cons_succ] at b0 b1 b2
      have HT := hid (any_take (m := m) hx)
      have HN := hid hno
      have HS := hid hS2
      have HX := hid hx
      have HXR := hid hxr
      clear hx hcl hno hS2 hxr hbm1
      by_cases he : x = m
      · subst he
        have HY := hid (show L.any (fun y => decide (y = x)) = true by rw [List.any_eq_true]; exact ⟨x, List.mem_of_getElem? HX.out, by simp⟩)
        go_wp2
        refine wp_quiet (by kernel_rfl) (by kernel_rfl) ?_; (repeat (first | go_big_quiet_step (fail) | quiet_step (fail))); refine wpQuiet_nil ?_; intro w1 hx; obtain ⟨hxc, hxf, hxb, hxs⟩ := hx.all; (try simp only [World.size_alloc, size_set, size_drew] at hxc hxf hxb hxs); (first | (have h4 := lt4 wr.heap.size w1.heap.size (by omega)); (obtain ⟨_, _, _, _⟩ := h4) | (have h4 := lt3 wr.heap.size w1.heap.size (by omega)); (obtain ⟨_, _, _⟩ := h4) | (have h4 := lt2 wr.heap.size w1.heap.size (by omega)); (obtain ⟨_, _⟩ := h4) | have := lt1 wr.heap.size w1.heap.size (by omega) | skip); (first | (have h4 := lt4 w.heap.size w1.heap.size (by omega)); (obtain ⟨_, _, _, _⟩ := h4) | (have h4 := lt3 w.heap.size w1.heap.size (by omega)); (obtain ⟨_, _, _⟩ := h4) | (have h4 := lt2 w.heap.size w1.heap.size (by omega)); (obtain ⟨_, _⟩ := h4) | have := lt1 w.heap.size w1.heap.size (by omega) | skip)
        go_wp2
        all_goals (go_ret; exact Ret.mk' (vbool (by rw [HE.out, HY.out])) (Ext.trans (Ext.trans hEw HXR.out) hx))
      · have HY := hid (show (L.take (k + 1)).any (fun y => decide (y = m)) = false by rw [HT.out, HN.out]; simpa using he)
        have hd : (x.fr == m.fr) = false ∨ ((x.fr == m.fr) = true ∧ (x.to_ == m.to_) = false) ∨ ((x.fr == m.fr) = true ∧ (x.to_ == m.to_) = true ∧ (x.be == m.be) = false) := by
          cases e1 : (x.fr == m.fr)
          · exact .inl rfl
          · cases e2 : (x.to_ == m.to_)
            · exact .inr (.inl ⟨rfl, rfl⟩)
            · refine .inr (.inr ⟨rfl, rfl, ?_⟩)
              rw [Bool.eq_false_iff]
              intro e3
              apply he
              obtain ⟨a, b, c⟩ := x
              obtain ⟨a', b', c'⟩ := m
              simp at e1 e2 e3 ⊢
              exact ⟨e1, e2, e3⟩
        clear he
        rcases hd with e1 | ⟨e1, e2⟩ | ⟨e1, e2, e3⟩
        all_goals
          go_wp2
          refine wp_quiet (by kernel_rfl) (by kernel_rfl) ?_; (repeat (first | go_big_quiet_step (fail) | quiet_step (fail))); refine wpQuiet_nil ?_; intro w1 hx; obtain ⟨hxc, hxf, hxb, hxs⟩ := hx.all; (try simp only [World.size_alloc, size_set, size_drew] at hxc hxf hxb hxs); (first | (have h4 := lt4 wr.heap.size w1.heap.size (by omega)); (obtain ⟨_, _, _, _⟩ := h4) | (have h4 := lt3 wr.heap.size w1.heap.size (by omega)); (obtain ⟨_, _, _⟩ := h4) | (have h4 := lt2 wr.heap.size w1.heap.size (by omega)); (obtain ⟨_, _⟩ := h4) | have := lt1 wr.heap.size w1.heap.size (by omega) | skip); (first | (have h4 := lt4 w.heap.size w1.heap.size (by omega)); (obtain ⟨_, _, _, _⟩ := h4) | (have h4 := lt3 w.heap.size w1.heap.size (by omega)); (obtain ⟨_, _, _⟩ := h4) | (have h4 := lt2 w.heap.size w1.heap.size (by omega)); (obtain ⟨_, _⟩ := h4) | have := lt1 w.heap.size w1.heap.size (by omega) | skip)
          go_wp2
          all_goals
            go_roundw
            case rel => exact ⟨k + 1, by go_num, by omega, HY.out, HXR.out.trans hx⟩
            case measure => simp [intOf]; omega
    · obtain rfl : k = L.length := by omega
      rw [List.take_length] at hno
      have HN := hid hno
      go_wp2
      go_ret
      exact Ret.mk' (vbool (by rw [HE.out, HN.out])) (hEw.trans hxr)
end Go.Proofs.YtdmgimfgoajmjaaGreatDoor
namespace Go.Proofs.YtdmgimfgoajmjaaGreatDoor
open Go.RowKit
def playGo : Pos → List Mv → Pos × Int
  | q, [] => (q, 0)
  | q, m :: l => if isB q m = true then playGo (movedP q m) l else (Pos.zero, 8)
def playR (p : Pos) (l : List Mv) : Pos × Int := if positionB p = true then playGo p l else (Pos.zero, 2)
theorem isB_legal {q : Pos} {m : Mv} (hq : positionB q = true) (h : isB q m = true) : m ∈ legalL q := by
  unfold isB movesP at h
  rw [if_pos hq, List.any_eq_true] at h
  obtain ⟨x, hx, e⟩ := h
  rwa [of_decide_eq_true e] at hx
theorem legal_all {q : Pos} {m : Mv} (h : m ∈ legalL q) : m ∈ AllL q := by
  unfold legalL at h
  exact (List.mem_filter.1 h).1
theorem playGo_yes {q : Pos} {m : Mv} {l : List Mv} {k : Nat} (h : l[k]? = some m) (hi : isB q m = true) : playGo q (l.drop k) = playGo (movedP q m) (l.drop (k + 1)) := by
  rw [List.drop_eq_getElem_cons (List.getElem?_eq_some_iff.1 h).1, (List.getElem?_eq_some_iff.1 h).2]
  rw [playGo, if_pos hi]
theorem playGo_no {q : Pos} {m : Mv} {l : List Mv} {k : Nat} (h : l[k]? = some m) (hi : isB q m = false) : playGo q (l.drop k) = (Pos.zero, 8) := by
  rw [List.drop_eq_getElem_cons (List.getElem?_eq_some_iff.1 h).1, (List.getElem?_eq_some_iff.1 h).2]
  rw [playGo, if_neg (by simp [hi])]
set_option maxRecDepth 100000 in
set_option maxHeartbeats 4000000 in
theorem rPlay_any (p : Pos) (L : List Mv) (v : Value) (w : World) (hS : Sl w 3 v L.length (mvsC L)) (hn : L.length ≤ 300000) :
    Calls Tryz.prog 60 #[.agg (posCells p), v] w (Ret (.tuple #[.agg (posCells (playR p L).1), .int .i64 (playR p L).2]) w) := by
  obtain ⟨a, c, rfl⟩ := hS.form
  have HP : ∀ w, Calls Tryz.prog 73 #[.agg (posCells p)] w (Ret (.bool (positionB p)) w) := fun w => rPosition_any p w
  cases hp : positionB p
  · have HE := hid (show playR p L = (Pos.zero, 2) by unfold playR; rw [hp]; rfl)
    rw [hp] at HP
    clear hp
    go_enter Tryz.func60, Tryz.ntmps60
    go_wp2_with (go_at_call 73; (with_reducible refine (HP _).mono ?_); rintro e w1 ⟨rfl, hx⟩; have hz1 := (hx.blk (w.heap.size + 1) (by simp)).trans (show blk _ (w.heap.size + 1) = some (.cells (posCells Pos.zero) 30 (0, 0)) from by simp [go_sem]))
    exact bodyPost_ret (v := .tuple #[.agg (posCells Pos.zero), .int .i64 2]) (results_cell2 rfl rfl rfl (load_pos (setRow_blk hz1))) rfl ⟨by rw [HE.out], Ext.setRow (Ext.trans (Ext.auto) hx) (by omega) _⟩
  · have HE := hid (show playR p L = playGo p L by unfold playR; rw [hp]; rfl)
    rw [hp] at HP
    go_enter Tryz.func60, Tryz.ntmps60
    go_upto_region 3 with (go_at_call 73; (with_reducible refine (HP _).mono ?_); rintro e w1 ⟨rfl, hx⟩; have hz1 := (hx.blk (w.heap.size + 1) (by simp)).trans (show blk _ (w.heap.size + 1) = some (.cells (posCells Pos.zero) 30 (0, 0)) from by simp [go_sem]); have hp1 := (hx.blk w.heap.size (by simp; omega)).trans (show blk _ w.heap.size = some (.cells (posCells p) 30 (0, 0)) from by simp [go_sem]))
    have hEw : Ext w w1 := Ext.trans (Ext.auto) hx
    clear hx
    have HPP := hid hp
    clear hp
    go_wp2
    go_loopw [6] (fun i wr => ∃ (k : Nat) (q : Pos), i = .int .i64 k ∧ k ≤ L.length ∧ positionB q = true ∧ playGo q (L.drop k) = playGo p L ∧ blk wr w.heap.size = some (.cells (posCells q) 30 (0, 0)) ∧ blk wr (w.heap.size + 1) = some (.cells (posCells Pos.zero) 30 (0, 0)) ∧ Ext w wr) (fun i _ => L.length - (intOf i).toNat)
    case atStart => exact ⟨0, p, rfl, by omega, HPP.out, by rw [List.drop_zero], hp1, hz1, hEw⟩
    case round =>
      obtain ⟨k, q, rfl, hk, hq, hgo, hb0, hb1, hxr⟩ := hrel
      clear hp1 hz1
      by_cases hlt : k < L.length
      · obtain ⟨m, hm⟩ : ∃ m, L[k]? = some m := ⟨_, List.getElem?_eq_getElem hlt⟩
        obtain ⟨g, o, rfl, hg, hcl⟩ := hS.pos (by omega)
        have d0 := hcl (k * 3) _ (mvsC_at hm 0 (by omega))
        have d1 := hcl (k * 3 + 1) _ (mvsC_at hm 1 (by omega))
        have d2 := hcl (k * 3 + 2) _ (mvsC_at hm 2 (by omega))
        simp only [mvE, List.getElem!_cons_zero, List.getElem!_cons_succ] at d0 d1 d2
        rw [← Nat.add_assoc] at d1 d2
        have hgr : g < wr.heap.size := Nat.lt_of_lt_of_le hg hxr.le
        rw [← hxr.cell _ _ hg] at d0 d1 d2
        have hMS : MSh q w.heap.size g (o + k * 3) m wr wr := ⟨Ext.refl _, hb0, hgr, d0, d1, d2⟩
        have HI : ∀ w, Calls Tryz.prog 76 #[.agg (posCells q), .agg #[.int .i64 m.fr, .int .i64 m.to_, .int .i64 m.be]] w (Ret (.bool (isB q m)) w) := fun w => rIs10_any q m w
        have HGO := hid hgo
        have HMM := hid hm
        have HXR := hid hxr
        have HS := hid hS
        have lb1 := blk_lt hb1
        clear hgo hcl d0 d1 d2 hm hS
        cases hi : isB q m
        · have HN := hid ((playGo_no HMM.out hi).symm.trans HGO.out)
          rw [hi] at HI
          clear hi
          go_wp2
          refine wp_region_held_drew (S := MSh q w.heap.size g (o + k * 3) m wr) (by kernel_rfl) (hMS.ext (Ext.drew (Ext.refl _))) (fun hH => ?_)
          refine hTk (i := 0) (v := ?_) (hy := Or.inl ⟨by rfl, ?_⟩) (h := ?_); rotate_left 1; (intro w0 hS; (try dsimp only at hS); unfold MSh at hS; go_simp; try with_reducible rfl); (try go_frame)
          refine hTk (i := 1) (v := ?_) (hy := Or.inl ⟨by rfl, ?_⟩) (h := ?_); rotate_left 1; (intro w0 hS; (try dsimp only at hS); unfold MSh at hS; go_simp; try with_reducible rfl); (try go_frame)
          refine hTk (i := 2) (v := ?_) (hy := Or.inl ⟨by rfl, ?_⟩) (h := ?_); rotate_left 1; (intro w0 hS; (try dsimp only at hS); unfold MSh at hS; go_simp; try with_reducible rfl); (try go_frame)
          refine hTk (i := 3) (v := ?_) (hy := Or.inl ⟨by rfl, ?_⟩) (h := ?_); rotate_left 1; (intro w0 hS; (try dsimp only at hS); unfold MSh at hS; go_simp; try with_reducible rfl); (try go_frame)
          refine hTk (i := 4) (v := ?_) (hy := Or.inl ⟨by rfl, ?_⟩) (h := ?_); rotate_left 1; (intro w0 hS; (try dsimp only at hS); unfold MSh at hS; go_simp; try with_reducible rfl); (try go_frame)
          refine wpAnyH_ready (rs := [5]) (by kernel_rfl) (by simp) ?_; refine hCo (h := fun K hK => ?_) (hs := AllReadyH.nil); go_simp
          refine (HI _).mono ?_
          rintro e w8 ⟨rfl, hx8⟩
          refine hK.out _ _ (hH.ext (by first | assumption | exact Ext.alloc (Ext.refl _) _)) (fun hH => ?_); clear hK; (try go_frame)
          refine hTk (i := 6) (v := ?_) (hy := Or.inl ⟨by rfl, ?_⟩) (h := ?_); rotate_left 1; (intro w0 hS; (try dsimp only at hS); unfold MSh at hS; go_simp; try with_reducible rfl); (try go_frame)
          refine wpAnyH_done (by kernel_rfl) ?_ _
          have hx9 := hH.1
          have hz9 := (hx9.blk _ lb1).trans hb1
          clear hMS hH
          go_wp2
          exact bodyPost_ret (v := .tuple #[.agg (posCells Pos.zero), .int .i64 8]) (results_cell2 rfl rfl rfl (load_pos (setRow_blk hz9))) rfl ⟨by rw [HE.out, ← HN.out], Ext.setRow (HXR.out.trans hx9) (by omega) _⟩
        · have HN := hid ((playGo_yes HMM.out hi).symm.trans HGO.out)
          have hleg := isB_legal hq hi
          have hall := legal_all hleg
          have H := parts_iff.1 hq
          obtain ⟨c0, c1, -, -, -, -⟩ := castle_iff.1 H.castles
          have hq2 := legal_keeps hq hleg
          have HV : ∀ w, Calls Tryz.prog 77 #[.agg (posCells q), .agg #[.int .i64 m.fr, .int .i64 m.to_, .int .i64 m.be]] w (Ret (.tuple #[.agg (posCells (movedP q m)), .int .i64 0]) w) := fun w => rMove_any q m w (AllL_taken hall) c0 c1
          have HQ2 := hid hq2
          rw [hi] at HI
          clear hi hleg hall H c0 c1 hq2 hq
          generalize movedP q m = q2 at *
          go_wp2
          refine wp_region_held_drew (S := MSh q w.heap.size g (o + k * 3) m wr) (by kernel_rfl) (hMS.ext (Ext.drew (Ext.refl _))) (fun hH => ?_)
          refine hTk (i := 0) (v := ?_) (hy := Or.inl ⟨by rfl, ?_⟩) (h := ?_); rotate_left 1; (intro w0 hS; (try dsimp only at hS); unfold MSh at hS; go_simp; try with_reducible rfl); (try go_frame)
          refine hTk (i := 1) (v := ?_) (hy := Or.inl ⟨by rfl, ?_⟩) (h := ?_); rotate_left 1; (intro w0 hS; (try dsimp only at hS); unfold MSh at hS; go_simp; try with_reducible rfl); (try go_frame)
          refine hTk (i := 2) (v := ?_) (hy := Or.inl ⟨by rfl, ?_⟩) (h := ?_); rotate_left 1; (intro w0 hS; (try dsimp only at hS); unfold MSh at hS; go_simp; try with_reducible rfl); (try go_frame)
          refine hTk (i := 3) (v := ?_) (hy := Or.inl ⟨by rfl, ?_⟩) (h := ?_); rotate_left 1; (intro w0 hS; (try dsimp only at hS); unfold MSh at hS; go_simp; try with_reducible rfl); (try go_frame)
          refine hTk (i := 4) (v := ?_) (hy := Or.inl ⟨by rfl, ?_⟩) (h := ?_); rotate_left 1; (intro w0 hS; (try dsimp only at hS); unfold MSh at hS; go_simp; try with_reducible rfl); (try go_frame)
          refine wpAnyH_ready (rs := [5]) (by kernel_rfl) (by simp) ?_; refine hCo (h := fun K hK => ?_) (hs := AllReadyH.nil); go_simp
          refine (HI _).mono ?_
          rintro e w8 ⟨rfl, hx8⟩
          refine hK.out _ _ (hH.ext (by first | assumption | exact Ext.alloc (Ext.refl _) _)) (fun hH => ?_); clear hK; (try go_frame)
          refine hTk (i := 6) (v := ?_) (hy := Or.inl ⟨by rfl, ?_⟩) (h := ?_); rotate_left 1; (intro w0 hS; (try dsimp only at hS); unfold MSh at hS; go_simp; try with_reducible rfl); (try go_frame)
          refine wpAnyH_done (by kernel_rfl) ?_ _
          obtain ⟨hx9, hbq, -, e0, e1, e2⟩ := id hH
          have hz9 := (hx9.blk _ lb1).trans hb1
          clear hH hMS hb0 hb1
          have HX9 := hid hx9
          go_upto_region 8 with (fail)
          refine wp_region_any (by kernel_rfl) ?_
          refine wpAny_take (i := 1) (v := ?_) (by simp only [List.getElem?_toArray, List.getElem?_cons_succ, List.getElem?_cons_zero]; rfl) (by kernel_rfl) (by kernel_rfl) (by kernel_rfl) (by exact fun _ _ _ h => h) (Or.inl ⟨by rfl, ?_⟩) ?_; rotate_left 1; (intro w0; go_simp; try with_reducible rfl); (try go_frame)
          refine wpAny_take (i := 2) (v := ?_) (by simp only [List.getElem?_toArray, List.getElem?_cons_succ, List.getElem?_cons_zero]; rfl) (by kernel_rfl) (by kernel_rfl) (by kernel_rfl) (by exact fun _ _ _ h => h) (Or.inl ⟨by rfl, ?_⟩) ?_; rotate_left 1; (intro w0; go_simp; try with_reducible rfl); (try go_frame)
          refine wpAny_take (i := 3) (v := ?_) (by simp only [List.getElem?_toArray, List.getElem?_cons_succ, List.getElem?_cons_zero]; rfl) (by kernel_rfl) (by kernel_rfl) (by kernel_rfl) (by exact fun _ _ _ h => h) (Or.inl ⟨by rfl, ?_⟩) ?_; rotate_left 1; (intro w0; go_simp; try with_reducible rfl); (try go_frame)
          refine wpAny_ready (rs := [0, 4]) (by kernel_rfl) (by simp) ?_; refine (AllReady.cons (by simp only [List.getElem?_toArray, List.getElem?_cons_succ, List.getElem?_cons_zero]; rfl) (fun K hK => ?_) (AllReady.cons (by simp only [List.getElem?_toArray, List.getElem?_cons_succ, List.getElem?_cons_zero]; rfl) (fun K hK => ?_) AllReady.nil))
          · have HK := hid hK
            clear hK
            go_simp
            refine HK.out _ _ ?_; clear HK; (try go_frame)
            refine wpAny_ready (rs := [4]) (by kernel_rfl) (by simp) ?_; refine (AllReady.cons (by simp only [List.getElem?_toArray, List.getElem?_cons_succ, List.getElem?_cons_zero]; rfl) (fun K hK => ?_) AllReady.nil)
            have HK := hid hK
            clear hK
            go_simp
            refine HK.out _ _ ?_; clear HK; (try go_frame)
            refine wpAny_ready (rs := [5]) (by kernel_rfl) (by simp) ?_; refine (AllReady.cons (by simp only [List.getElem?_toArray, List.getElem?_cons_succ, List.getElem?_cons_zero]; rfl) (fun K hK => ?_) AllReady.nil)
            have HK := hid hK
            clear hK
            go_simp
            refine (HV _).mono ?_
            rintro e w9 ⟨rfl, hx10⟩
            have hbq9 : blk w9 w.heap.size = some (.cells (posCells q) 30 (0, 0)) := (hx10.blk _ (blk_lt hbq)).trans hbq
            have hz10 : blk w9 (w.heap.size + 1) = some (.cells (posCells Pos.zero) 30 (0, 0)) := (hx10.blk _ (blk_lt hz9)).trans hz9
            have hxr9 : Ext w w9 := HXR.out.trans (HX9.out.trans (Ext.trans (Ext.drew (Ext.refl _)) hx10))
            refine HK.out _ _ ?_; clear HK; (try go_frame)
            refine wpAny_take (i := 6) (v := ?_) (by simp only [List.getElem?_toArray, List.getElem?_cons_succ, List.getElem?_cons_zero]; rfl) (by kernel_rfl) (by kernel_rfl) (by kernel_rfl) (by exact fun _ _ _ h => h) (Or.inl ⟨by rfl, ?_⟩) ?_; rotate_left 1; (intro w0; go_simp; try with_reducible rfl); (try go_frame)
            refine wpAny_take (i := 7) (v := ?_) (by simp only [List.getElem?_toArray, List.getElem?_cons_succ, List.getElem?_cons_zero]; rfl) (by kernel_rfl) (by kernel_rfl) (by kernel_rfl) (by exact fun _ _ _ h => h) (Or.inl ⟨by rfl, ?_⟩) ?_; rotate_left 1; (intro w0; go_simp; try with_reducible rfl); (try go_frame)
            refine wpAny_take (i := 8) (v := ?_) (by simp only [List.getElem?_toArray, List.getElem?_cons_succ, List.getElem?_cons_zero]; rfl) (by kernel_rfl) (by kernel_rfl) (by kernel_rfl) (by exact fun _ _ _ h => h) (Or.inl ⟨by rfl, ?_⟩) ?_; rotate_left 1; (intro w0; go_simp; try with_reducible rfl); (try go_frame)
            refine wpAny_ready (rs := [9]) (by kernel_rfl) (by simp) ?_; refine (AllReady.cons (by simp only [List.getElem?_toArray, List.getElem?_cons_succ, List.getElem?_cons_zero]; rfl) (fun K hK => ?_) AllReady.nil)
            have HK := hid hK
            clear hK
            go_simp
            refine HK.out _ _ ?_; clear HK; (try go_frame)
            refine wpAny_done (by kernel_rfl) ?_ _
            go_wp2
            go_roundw
            case rel => exact ⟨k + 1, q2, by go_num, by omega, HQ2.out, HN.out, setRow_blk hbq9, (setRow_blk_past (by omega)).trans hz10, Ext.setRow hxr9 (Nat.le_refl _) _⟩
            case measure => simp [intOf]; omega
          · have HK := hid hK
            clear hK
            go_simp
            refine HK.out _ _ ?_; clear HK; (try go_frame)
            refine wpAny_ready (rs := [0]) (by kernel_rfl) (by simp) ?_; refine (AllReady.cons (by simp only [List.getElem?_toArray, List.getElem?_cons_succ, List.getElem?_cons_zero]; rfl) (fun K hK => ?_) AllReady.nil)
            have HK := hid hK
            clear hK
            go_simp
            refine HK.out _ _ ?_; clear HK; (try go_frame)
            refine wpAny_ready (rs := [5]) (by kernel_rfl) (by simp) ?_; refine (AllReady.cons (by simp only [List.getElem?_toArray, List.getElem?_cons_succ, List.getElem?_cons_zero]; rfl) (fun K hK => ?_) AllReady.nil)
            have HK := hid hK
            clear hK
            go_simp
            refine (HV _).mono ?_
            rintro e w9 ⟨rfl, hx10⟩
            have hbq9 : blk w9 w.heap.size = some (.cells (posCells q) 30 (0, 0)) := (hx10.blk _ (blk_lt hbq)).trans hbq
            have hz10 : blk w9 (w.heap.size + 1) = some (.cells (posCells Pos.zero) 30 (0, 0)) := (hx10.blk _ (blk_lt hz9)).trans hz9
            have hxr9 : Ext w w9 := HXR.out.trans (HX9.out.trans (Ext.trans (Ext.drew (Ext.refl _)) hx10))
            refine HK.out _ _ ?_; clear HK; (try go_frame)
            refine wpAny_take (i := 6) (v := ?_) (by simp only [List.getElem?_toArray, List.getElem?_cons_succ, List.getElem?_cons_zero]; rfl) (by kernel_rfl) (by kernel_rfl) (by kernel_rfl) (by exact fun _ _ _ h => h) (Or.inl ⟨by rfl, ?_⟩) ?_; rotate_left 1; (intro w0; go_simp; try with_reducible rfl); (try go_frame)
            refine wpAny_take (i := 7) (v := ?_) (by simp only [List.getElem?_toArray, List.getElem?_cons_succ, List.getElem?_cons_zero]; rfl) (by kernel_rfl) (by kernel_rfl) (by kernel_rfl) (by exact fun _ _ _ h => h) (Or.inl ⟨by rfl, ?_⟩) ?_; rotate_left 1; (intro w0; go_simp; try with_reducible rfl); (try go_frame)
            refine wpAny_take (i := 8) (v := ?_) (by simp only [List.getElem?_toArray, List.getElem?_cons_succ, List.getElem?_cons_zero]; rfl) (by kernel_rfl) (by kernel_rfl) (by kernel_rfl) (by exact fun _ _ _ h => h) (Or.inl ⟨by rfl, ?_⟩) ?_; rotate_left 1; (intro w0; go_simp; try with_reducible rfl); (try go_frame)
            refine wpAny_ready (rs := [9]) (by kernel_rfl) (by simp) ?_; refine (AllReady.cons (by simp only [List.getElem?_toArray, List.getElem?_cons_succ, List.getElem?_cons_zero]; rfl) (fun K hK => ?_) AllReady.nil)
            have HK := hid hK
            clear hK
            go_simp
            refine HK.out _ _ ?_; clear HK; (try go_frame)
            refine wpAny_done (by kernel_rfl) ?_ _
            go_wp2
            go_roundw
            case rel => exact ⟨k + 1, q2, by go_num, by omega, HQ2.out, HN.out, setRow_blk hbq9, (setRow_blk_past (by omega)).trans hz10, Ext.setRow hxr9 (Nat.le_refl _) _⟩
            case measure => simp [intOf]; omega
      · obtain rfl : k = L.length := by omega
        rw [List.drop_length, playGo] at hgo
        have HGO := hid hgo
        clear hgo
        go_wp2
        exact bodyPost_ret (v := .tuple #[.agg (posCells q), .int .i64 0]) (results_cell2 rfl rfl rfl (load_pos (setRow_blk hb1))) rfl ⟨by rw [HE.out, ← HGO.out], Ext.setRow hxr (by omega) _⟩
end Go.Proofs.YtdmgimfgoajmjaaGreatDoor
namespace Go.Proofs.YtdmgimfgoajmjaaGreatDoor
open Go.RowKit
theorem any_takeB {L : List Mv} {f : Mv → Bool} {x : Mv} {k : Nat} (h : L[k]? = some x) : (L.take (k + 1)).any f = ((L.take k).any f || f x) := by
  rw [List.take_add_one, h, List.any_append]; simp
theorem over_bd {p : Pos} : ∀ x ∈ movesP p, 0 ≤ x.fr ∧ x.fr < 64 ∧ 0 ≤ x.to_ ∧ x.to_ < 64 := by
  intro x hx
  unfold movesP at hx
  split at hx
  · unfold legalL at hx
    obtain ⟨f0, f1, t0, t1, -, -⟩ := AllL_goes (List.mem_filter.1 hx).1
    exact ⟨f0, f1, t0, t1⟩
  · cases hx
set_option maxRecDepth 100000 in
set_option maxHeartbeats 4000000 in
theorem Over_any (p : Pos) (w : World) : Calls Tryz.prog 14 #[.agg (posCells p)] w (Ret (.int .i64 (overA p)) w) := by
  by_cases ho : p.over = -1
  · have HE := hid (show overA p = -1 by unfold overA; rw [if_pos ho])
    have ho1 : (p.over == -1) = true := by simpa using ho
    clear ho
    go_enter Tryz.func14, Tryz.ntmps14
    go_wp2
    go_ret
    rw [HE.out]
    exact ⟨rfl, (Ext.auto)⟩
  · have HE := hid (show overA p = if (movesP p).any (overM p) = true then p.over else -1 by unfold overA; rw [if_neg ho])
    have hLen := movesP_len p
    have ho1 : (p.over == -1) = false := by simpa using ho
    clear ho
    go_enter Tryz.func14, Tryz.ntmps14
    go_upto_block 0 with (first | (go_at_call 29; (with_reducible refine (Moves_any p _).mono ?_); rintro e w2 ⟨v2, rfl, hown2, hx2⟩; (have hS2 := Sl.of_own hown2); obtain ⟨a2, c2, rfl⟩ := hS2.form))
    have hEw : Ext w w2 := (Ext.auto)
    have hbp : blk w2 w.heap.size = some (.cells (posCells p) 30 (0, 0)) := (hx2.blk _ (by simp)).trans (by simp [go_sem])
    clear hx2 hown2
    generalize movesP p = L at *
    go_wp2
    go_loopw [12] (fun i wr => ∃ k : Nat, i = .int .i64 k ∧ k ≤ L.length ∧ (L.take k).any (overM p) = false ∧ Ext w2 wr) (fun i _ => L.length - (intOf i).toNat)
    case atStart => exact ⟨0, rfl, by omega, rfl, Ext.refl _⟩
    case round =>
      obtain ⟨k, rfl, hk, hno, hxr⟩ := hrel
      by_cases hlt : k < L.length
      · obtain ⟨x, hx⟩ : ∃ x, L[k]? = some x := ⟨_, List.getElem?_eq_getElem hlt⟩
        obtain ⟨g, o, rfl, hg, hcl⟩ := (hS2.ext hxr).pos (by omega)
        have d0 := hcl (k * 3) _ (mvsC_at hx 0 (by omega))
        have d1 := hcl (k * 3 + 1) _ (mvsC_at hx 1 (by omega))
        have d2 := hcl (k * 3 + 2) _ (mvsC_at hx 2 (by omega))
        simp only [mvE, List.getElem!_cons_zero, List.getElem!_cons_succ] at d0 d1 d2
        rw [← Nat.add_assoc] at d1 d2
        have hbp1 := (hxr.blk _ (blk_lt hbp)).trans hbp
        have hlb := blk_lt hbp1
        have b0 := blk_cell hbp1 130
        have HT : ∀ w, Calls Tryz.prog 61 #[.agg (posCells p), .agg #[.int .i64 x.fr, .int .i64 x.to_, .int .i64 x.be]] w (Ret (.int .i64 (takes2 p x)) w) := fun w => Takes_any p x w
        have HAT := hid (any_takeB (f := overM p) hx)
        have HN := hid hno
        have HS := hid hS2
        have HX := hid hx
        have HXR := hid hxr
        have HOM := hid (show overM p x = (x.to_ == p.over && takes2 p x != -1 && takes2 p x != x.to_) from rfl)
        clear hx hcl hno hS2 hxr
        generalize takes2 p x = T at *
        cases e1 : (x.to_ == p.over)
        · have HY := hid (show (L.take (k + 1)).any (overM p) = false by rw [HAT.out, HN.out, HOM.out, e1]; rfl)
          go_wp2_with (first | (go_at_call 61; (with_reducible refine (HT _).mono ?_); rintro e w1 ⟨rfl, hx⟩; obtain ⟨hxc, hxf, hxb, hxs⟩ := hx.all; (try simp only [World.size_alloc, size_set, size_drew] at hxc hxf hxb hxs); (first | (have h4 := lt4 wr.heap.size w1.heap.size (by omega)); (obtain ⟨_, _, _, _⟩ := h4) | (have h4 := lt3 wr.heap.size w1.heap.size (by omega)); (obtain ⟨_, _, _⟩ := h4) | (have h4 := lt2 wr.heap.size w1.heap.size (by omega)); (obtain ⟨_, _⟩ := h4) | have := lt1 wr.heap.size w1.heap.size (by omega) | skip); (first | (have h4 := lt4 w.heap.size w1.heap.size (by omega)); (obtain ⟨_, _, _, _⟩ := h4) | (have h4 := lt3 w.heap.size w1.heap.size (by omega)); (obtain ⟨_, _, _⟩ := h4) | (have h4 := lt2 w.heap.size w1.heap.size (by omega)); (obtain ⟨_, _⟩ := h4) | have := lt1 w.heap.size w1.heap.size (by omega) | skip)))
          all_goals
            go_roundw
            case rel => exact ⟨k + 1, by go_num, by omega, HY.out, HXR.out.trans (Ext.auto)⟩
            case measure => simp [intOf]; omega
        · cases e2 : (T != -1)
          · have HY := hid (show (L.take (k + 1)).any (overM p) = false by rw [HAT.out, HN.out, HOM.out, e1, e2]; rfl)
            go_wp2_with (first | (go_at_call 61; (with_reducible refine (HT _).mono ?_); rintro e w1 ⟨rfl, hx⟩; obtain ⟨hxc, hxf, hxb, hxs⟩ := hx.all; (try simp only [World.size_alloc, size_set, size_drew] at hxc hxf hxb hxs); (first | (have h4 := lt4 wr.heap.size w1.heap.size (by omega)); (obtain ⟨_, _, _, _⟩ := h4) | (have h4 := lt3 wr.heap.size w1.heap.size (by omega)); (obtain ⟨_, _, _⟩ := h4) | (have h4 := lt2 wr.heap.size w1.heap.size (by omega)); (obtain ⟨_, _⟩ := h4) | have := lt1 wr.heap.size w1.heap.size (by omega) | skip); (first | (have h4 := lt4 w.heap.size w1.heap.size (by omega)); (obtain ⟨_, _, _, _⟩ := h4) | (have h4 := lt3 w.heap.size w1.heap.size (by omega)); (obtain ⟨_, _, _⟩ := h4) | (have h4 := lt2 w.heap.size w1.heap.size (by omega)); (obtain ⟨_, _⟩ := h4) | have := lt1 w.heap.size w1.heap.size (by omega) | skip)))
            all_goals
              go_roundw
              case rel => exact ⟨k + 1, by go_num, by omega, HY.out, HXR.out.trans (Ext.auto)⟩
              case measure => simp [intOf]; omega
          · cases e3 : (T != x.to_)
            · have HY := hid (show (L.take (k + 1)).any (overM p) = false by rw [HAT.out, HN.out, HOM.out, e1, e2, e3]; rfl)
              go_wp2_with (first | (go_at_call 61; (with_reducible refine (HT _).mono ?_); rintro e w1 ⟨rfl, hx⟩; obtain ⟨hxc, hxf, hxb, hxs⟩ := hx.all; (try simp only [World.size_alloc, size_set, size_drew] at hxc hxf hxb hxs); (first | (have h4 := lt4 wr.heap.size w1.heap.size (by omega)); (obtain ⟨_, _, _, _⟩ := h4) | (have h4 := lt3 wr.heap.size w1.heap.size (by omega)); (obtain ⟨_, _, _⟩ := h4) | (have h4 := lt2 wr.heap.size w1.heap.size (by omega)); (obtain ⟨_, _⟩ := h4) | have := lt1 wr.heap.size w1.heap.size (by omega) | skip); (first | (have h4 := lt4 w.heap.size w1.heap.size (by omega)); (obtain ⟨_, _, _, _⟩ := h4) | (have h4 := lt3 w.heap.size w1.heap.size (by omega)); (obtain ⟨_, _, _⟩ := h4) | (have h4 := lt2 w.heap.size w1.heap.size (by omega)); (obtain ⟨_, _⟩ := h4) | have := lt1 w.heap.size w1.heap.size (by omega) | skip)))
              all_goals
                go_roundw
                case rel => exact ⟨k + 1, by go_num, by omega, HY.out, HXR.out.trans (Ext.auto)⟩
                case measure => simp [intOf]; omega
            · have HY := hid (show L.any (overM p) = true by rw [List.any_eq_true]; exact ⟨x, List.mem_of_getElem? HX.out, by rw [HOM.out, e1, e2, e3]; rfl⟩)
              go_wp2_with (first | (go_at_call 61; (with_reducible refine (HT _).mono ?_); rintro e w1 ⟨rfl, hx⟩; obtain ⟨hxc, hxf, hxb, hxs⟩ := hx.all; (try simp only [World.size_alloc, size_set, size_drew] at hxc hxf hxb hxs); (first | (have h4 := lt4 wr.heap.size w1.heap.size (by omega)); (obtain ⟨_, _, _, _⟩ := h4) | (have h4 := lt3 wr.heap.size w1.heap.size (by omega)); (obtain ⟨_, _, _⟩ := h4) | (have h4 := lt2 wr.heap.size w1.heap.size (by omega)); (obtain ⟨_, _⟩ := h4) | have := lt1 wr.heap.size w1.heap.size (by omega) | skip); (first | (have h4 := lt4 w.heap.size w1.heap.size (by omega)); (obtain ⟨_, _, _, _⟩ := h4) | (have h4 := lt3 w.heap.size w1.heap.size (by omega)); (obtain ⟨_, _, _⟩ := h4) | (have h4 := lt2 w.heap.size w1.heap.size (by omega)); (obtain ⟨_, _⟩ := h4) | have := lt1 w.heap.size w1.heap.size (by omega) | skip)))
              go_ret
              exact Ret.mk' (by rw [HE.out, HY.out]; rfl) (Ext.trans hEw (HXR.out.trans (Ext.auto)))
      · obtain rfl : k = L.length := by omega
        rw [List.take_length] at hno
        have HN := hid hno
        go_wp2
        go_ret
        exact Ret.mk' (by rw [HE.out, HN.out]; rfl) (hEw.trans hxr)
end Go.Proofs.YtdmgimfgoajmjaaGreatDoor
namespace Go.Proofs.YtdmgimfgoajmjaaGreatDoor
open Go.RowKit
set_option maxRecDepth 100000 in
set_option maxHeartbeats 4000000 in
theorem rOver12_any (p : Pos) (w : World) : Calls Tryz.prog 15 #[.agg (posCells p)] w (Ret (.int .i64 (overA p)) w) := by
  rw [← overA_eq]
  by_cases ho : p.over = -1
  · have HE := hid (show rOverA p = -1 by unfold rOverA; rw [if_pos ho])
    have ho1 : (p.over == -1) = true := by simpa using ho
    clear ho
    go_enter Tryz.func15, Tryz.ntmps15
    go_wp2
    go_ret
    rw [HE.out]
    exact ⟨rfl, (Ext.auto)⟩
  · have HE := hid (show rOverA p = if (movesP p).any (rOverM p) = true then p.over else -1 by unfold rOverA; rw [if_neg ho])
    have hLen := movesP_len p
    have hBD := over_bd (p := p)
    have ho1 : (p.over == -1) = false := by simpa using ho
    clear ho
    go_enter Tryz.func15, Tryz.ntmps15
    go_upto_block 0 with (first | (go_at_call 36; (with_reducible refine (rMoves_any p _).mono ?_); rintro e w2 ⟨v2, rfl, hown2, hx2⟩; (have hS2 := Sl.of_own hown2); obtain ⟨a2, c2, rfl⟩ := hS2.form))
    have hEw : Ext w w2 := (Ext.auto)
    have hbp : blk w2 w.heap.size = some (.cells (posCells p) 30 (0, 0)) := (hx2.blk _ (by simp)).trans (by simp [go_sem])
    clear hx2 hown2
    generalize movesP p = L at *
    go_wp2
    go_loopw [4] (fun i wr => ∃ k : Nat, i = .int .i64 k ∧ k ≤ L.length ∧ (L.take k).any (rOverM p) = false ∧ Ext w2 wr) (fun i _ => L.length - (intOf i).toNat)
    case atStart => exact ⟨0, rfl, by omega, rfl, Ext.refl _⟩
    case round =>
      obtain ⟨k, rfl, hk, hno, hxr⟩ := hrel
      by_cases hlt : k < L.length
      · obtain ⟨x, hx⟩ : ∃ x, L[k]? = some x := ⟨_, List.getElem?_eq_getElem hlt⟩
        obtain ⟨f0, f1, t0, t1⟩ := hBD x (List.mem_of_getElem? hx)
        obtain ⟨g, o, rfl, hg, hcl⟩ := (hS2.ext hxr).pos (by omega)
        have d0 := hcl (k * 3) _ (mvsC_at hx 0 (by omega))
        have d1 := hcl (k * 3 + 1) _ (mvsC_at hx 1 (by omega))
        have d2 := hcl (k * 3 + 2) _ (mvsC_at hx 2 (by omega))
        simp only [mvE, List.getElem!_cons_zero, List.getElem!_cons_succ] at d0 d1 d2
        rw [← Nat.add_assoc] at d1 d2
        have hbp1 := (hxr.blk _ (blk_lt hbp)).trans hbp
        have hlb := blk_lt hbp1
        have b0 := blk_cell hbp1
        have m1 : x.fr.tmod 8 = x.fr % 8 := Int.tmod_eq_emod_of_nonneg f0
        have m2 : x.to_.tmod 8 = x.to_ % 8 := Int.tmod_eq_emod_of_nonneg t0
        have f2 : x.fr.toNat < 64 := by omega
        have t2 : x.to_.toNat < 64 := by omega
        have HAT := hid (any_takeB (f := rOverM p) hx)
        have HN := hid hno
        have HS := hid hS2
        have HX := hid hx
        have HXR := hid hxr
        have HOM := hid (show rOverM p x = (x.to_ == p.over && p.kind x.fr.toNat == 1 && x.fr % 8 != x.to_ % 8 && (p.kind x.to_.toNat == 0 && p.side x.to_.toNat == 0)) by unfold rOverM bareB; simp)
        clear hx hcl hno hS2 hxr hBD
        cases e1 : (x.to_ == p.over)
        · have HY := hid (show (L.take (k + 1)).any (rOverM p) = false by rw [HAT.out, HN.out, HOM.out, e1]; rfl)
          go_wp2
          all_goals
            go_roundw
            case rel => exact ⟨k + 1, by go_num, by omega, HY.out, HXR.out.trans (Ext.auto)⟩
            case measure => simp [intOf]; omega
        · cases e2 : (p.kind x.fr.toNat == 1)
          · have HY := hid (show (L.take (k + 1)).any (rOverM p) = false by rw [HAT.out, HN.out, HOM.out, e1, e2]; rfl)
            go_wp2
            all_goals
              go_roundw
              case rel => exact ⟨k + 1, by go_num, by omega, HY.out, HXR.out.trans (Ext.auto)⟩
              case measure => simp [intOf]; omega
          · cases e3 : (x.fr % 8 != x.to_ % 8)
            · have HY := hid (show (L.take (k + 1)).any (rOverM p) = false by rw [HAT.out, HN.out, HOM.out, e1, e2, e3]; rfl)
              go_wp2
              all_goals
                go_roundw
                case rel => exact ⟨k + 1, by go_num, by omega, HY.out, HXR.out.trans (Ext.auto)⟩
                case measure => simp [intOf]; omega
            · cases e4 : (p.kind x.to_.toNat == 0 && p.side x.to_.toNat == 0)
              · have HY := hid (show (L.take (k + 1)).any (rOverM p) = false by rw [HAT.out, HN.out, HOM.out, e1, e2, e3, e4]; rfl)
                go_wp2
                all_goals
                  go_roundw
                  case rel => exact ⟨k + 1, by go_num, by omega, HY.out, HXR.out.trans (Ext.auto)⟩
                  case measure => simp [intOf]; omega
              · have HY := hid (show L.any (rOverM p) = true by rw [List.any_eq_true]; exact ⟨x, List.mem_of_getElem? HX.out, by rw [HOM.out, e1, e2, e3, e4]; rfl⟩)
                go_wp2
                go_ret
                exact Ret.mk' (by rw [HE.out, HY.out]; rfl) (Ext.trans hEw (HXR.out.trans (Ext.auto)))
      · obtain rfl : k = L.length := by omega
        rw [List.take_length] at hno
        have HN := hid hno
        go_wp2
        go_ret
        exact Ret.mk' (by rw [HE.out, HN.out]; rfl) (hEw.trans hxr)
end Go.Proofs.YtdmgimfgoajmjaaGreatDoor
namespace Go.Proofs.YtdmgimfgoajmjaaGreatDoor
open Go.RowKit
def inI (n : Int) : Prop := -9223372036854775808 ≤ n ∧ n ≤ 9223372036854775807
structure Rng (p : Pos) : Prop where
  kind : ∀ i, i < 64 → inI (p.kind i)
  side : ∀ i, i < 64 → inI (p.side i)
  turn : inI p.turn
  castle : inI p.castle
  over : inI p.over
def sqL (p : Pos) (k : Nat) : List Int := (List.range k).flatMap fun i => [p.kind i, p.side i]
def keyL (p : Pos) : List Int := sqL p 64 ++ [p.turn, p.castle, overA p]
def keyT (p : Pos) : List UInt8 := numsT (keyL p)
theorem sqL_snoc (p : Pos) (k : Nat) : sqL p (k + 1) = sqL p k ++ [p.kind k, p.side k] := by
  unfold sqL; rw [List.range_succ, List.flatMap_append]; simp
theorem sqL_len (p : Pos) (k : Nat) : (sqL p k).length = 2 * k := by
  induction k with
  | zero => rfl
  | succ k ih => rw [sqL_snoc, List.length_append, ih]; simp; omega
theorem sqL_in {p : Pos} (h : Rng p) : ∀ k, k ≤ 64 → ∀ n ∈ sqL p k, inI n := by
  intro k hk n hn
  simp only [sqL, List.mem_flatMap, List.mem_range, List.mem_cons, List.not_mem_nil, or_false] at hn
  obtain ⟨i, hi, rfl | rfl⟩ := hn
  · exact h.kind i (by omega)
  · exact h.side i (by omega)
theorem over_in {p : Pos} (h : Rng p) : inI (overA p) := by
  unfold overA
  split
  · exact ⟨by decide, by decide⟩
  · split
    · exact h.over
    · exact ⟨by decide, by decide⟩
theorem numsT_app (a b : List Int) : numsT (a ++ b) = numsT a ++ numsT b := by simp [numsT]
theorem sq_len {p : Pos} (h : Rng p) {k : Nat} (hk : k ≤ 64) : (numsT (sqL p k)).length ≤ 44 * k := by
  have := numsT_len (l := sqL p k) (fun n hn => sqL_in h k hk n hn)
  rw [sqL_len] at this; omega
theorem keyT_ne (p : Pos) : keyT p ≠ [] := by
  unfold keyT keyL; rw [numsT_app]; simp [numsT]
theorem keyT_len {p : Pos} (h : Rng p) : (keyT p).length ≤ 10000 := by
  have h1 := sq_len h (Nat.le_refl 64)
  have h2 := numsT_len (l := [p.turn, p.castle, overA p]) (fun n hn => by
    simp only [List.mem_cons, List.not_mem_nil, or_false] at hn
    rcases hn with rfl | rfl | rfl
    · exact h.turn
    · exact h.castle
    · exact over_in h)
  unfold keyT keyL; rw [numsT_app, List.length_append]; simp at h2; omega
def MSk (p : Pos) (b : Nat) (wr W : World) : Prop := Ext wr W ∧ blk W b = some (.cells (posCells p) 30 (0, 0)) ∧ W.cell? ⟨b, 128, none⟩ = some (.int .i64 p.turn) ∧ W.cell? ⟨b, 129, none⟩ = some (.int .i64 p.castle)
theorem MSk.mk' {p : Pos} {b : Nat} {wr W : World} (h : Ext wr W) (h1 : blk W b = some (.cells (posCells p) 30 (0, 0))) : MSk p b wr W :=
  ⟨h, h1, by rw [blk_cell h1]; simp [go_sem], by rw [blk_cell h1]; simp [go_sem]⟩
theorem MSk.ext {p : Pos} {b : Nat} {wr W W' : World} (h : MSk p b wr W) (hx : Ext W W') : MSk p b wr W' := MSk.mk' (h.1.trans hx) ((hx.blk _ (blk_lt h.2.1)).trans h.2.1)
set_option maxRecDepth 100000 in
set_option maxHeartbeats 4000000 in
theorem Key_any (p : Pos) (w : World) (hr : Rng p) (ht : Tab10 w.heap.size w) : Calls Tryz.prog 18 #[.agg (posCells p)] w (Ret (.string ⟨(keyT p).toArray⟩) w) := by
  go_enter Tryz.func18, Tryz.ntmps18
  go_upto_block 0 with (fail)
  have hE1 : Ext w ((w.alloc (.cells (posCells p) 30)).alloc (.cells #[.pointer none, .slice none 0 0] 108)) := (Ext.auto)
  have hp1 : blk ((w.alloc (.cells (posCells p) 30)).alloc (.cells #[.pointer none, .slice none 0 0] 108)) w.heap.size = some (.cells (posCells p) 30 (0, 0)) := (by simp [go_sem])
  have hb1 : blk ((w.alloc (.cells (posCells p) 30)).alloc (.cells #[.pointer none, .slice none 0 0] 108)) (w.heap.size + 1) = some (.cells #[.pointer none, .slice none 0 0] 108 (0, 0)) := (by simp [go_sem])
  generalize hw1 : (w.alloc (.cells (posCells p) 30)).alloc (.cells #[.pointer none, .slice none 0 0] 108) = w1 at *
  have hB1 : Bld 108 w.heap.size (w.heap.size + 1) (.pointer none) (Lib.byteCells []) w1 := ⟨by omega, _, hb1, World.ownsRow_nil _ _ _ _, by simp [Value.ownBlock]⟩
  have ht1 : Tab10 w.heap.size w1 := ht.on hE1
  have hs1 : w.heap.size + 1 < w1.heap.size := blk_lt hb1
  clear hw1
  go_wp2
  go_loopw [8] (fun i wr => ∃ (k : Nat) (p' : Value), i = .int .i64 k ∧ k ≤ 64 ∧ BldI (w.heap.size + 1) p' ∧ Bld 108 w.heap.size (w.heap.size + 1) p' (Lib.byteCells (numsT (sqL p k))) wr ∧ Wr w.heap.size (w.heap.size + 1) w1 wr) (fun i _ => 64 - (intOf i).toNat)
  case atStart => exact ⟨0, _, rfl, by omega, Or.inl rfl, hB1, Wr.refl _ _ _⟩
  case round =>
    obtain ⟨k, p', rfl, hk, hpI, hbl, hwr⟩ := hrel
    have hsz := hwr.size
    have hpr : blk wr w.heap.size = some (.cells (posCells p) 30 (0, 0)) := (hwr.keep _ (by omega) (by omega) (.inr (fun cs fr e => by rw [hp1] at e; injection e with e; injection e with _ e; exact absurd e (by decide)))).trans hp1
    have htr : Tab10 w.heap.size wr := ht1.on (hwr.low (by omega) (by omega))
    have hlr := blk_lt hpr
    by_cases hlt : k < 64
    · have hnn : ∀ n ∈ [p.kind k, p.side k], inI n := by
        intro n hn
        simp only [List.mem_cons, List.not_mem_nil, or_false] at hn
        rcases hn with rfl | rfl
        · exact hr.kind k hlt
        · exact hr.side k hlt
      have hl9 : (numsT (sqL p k)).length + 22 * [p.kind k, p.side k].length ≤ 1000000 := by have := sq_len hr hk; simp; omega
      have HW := hid hwr
      clear hp1 hb1 hB1 ht1 ht
      have hxA : Ext wr ((wr.alloc (.cells #[.int .i64 (p.kind k), .int .i64 (p.side k)] 26)).alloc (.cells #[.int .i64 (p.kind k), .int .i64 (p.side k)] 3)) := (Ext.auto)
      have hgA : blk ((wr.alloc (.cells #[.int .i64 (p.kind k), .int .i64 (p.side k)] 26)).alloc (.cells #[.int .i64 (p.kind k), .int .i64 (p.side k)] 3)) (wr.heap.size + 1) = some (.cells (ints [p.kind k, p.side k]).toArray 3 (0, 0)) := (by simp [go_sem, ints])
      have HC := numbers_any w.heap.size (w.heap.size + 1) (wr.heap.size + 1) 2 p' (numsT (sqL p k)) [p.kind k, p.side k] _ hpI (hbl.ext hxA) hgA (by omega) hnn hl9 (by simp; omega) (htr.on (Below.mono hxA (by omega)))
      simp only [List.length_cons, List.length_nil, Nat.zero_add, Nat.reduceAdd] at HC
      clear hgA
      go_wp2_with (go_at_call 62; (with_reducible refine HC.mono ?_); rintro e w5 ⟨rfl, p5, hp5, hb5, hw5⟩)
      have HB5 := hid hb5
      go_roundw
      case rel => exact ⟨k + 1, p5, by go_num, by omega, hp5, by rw [sqL_snoc, numsT_app]; exact HB5.out, HW.out.trans ((Wr.ext hxA).trans hw5)⟩
      case measure => simp [intOf]; omega
    · obtain rfl : k = 64 := by omega
      clear hp1 hb1 hB1 ht1 ht
      have HO : ∀ w, Calls Tryz.prog 14 #[.agg (posCells p)] w (Ret (.int .i64 (overA p)) w) := fun w => Over_any p w
      go_upto_region 7 with (fail)
      have hM0 : MSk p w.heap.size wr wr.drew := MSk.mk' (Ext.drew (Ext.refl _)) hpr
      refine wp_region_split 6 (MSk p w.heap.size wr) (by kernel_rfl) (by kernel_rfl) (hM0) (fun hH => ?_)
      simp only [List.take_succ_cons, List.take_zero, List.drop_succ_cons, List.drop_zero]
      refine hTk (i := 0) (v := ?_) (hy := Or.inl ⟨by rfl, ?_⟩) (h := ?_); rotate_left 1; (intro w0 hS; (try dsimp only at hS); unfold MSk at hS; go_simp; try with_reducible rfl); (try go_frame)
      refine hTk (i := 1) (v := ?_) (hy := Or.inl ⟨by rfl, ?_⟩) (h := ?_); rotate_left 1; (intro w0 hS; (try dsimp only at hS); unfold MSk at hS; go_simp; try with_reducible rfl); (try go_frame)
      refine hTk (i := 2) (v := ?_) (hy := Or.inl ⟨by rfl, ?_⟩) (h := ?_); rotate_left 1; (intro w0 hS; (try dsimp only at hS); unfold MSk at hS; go_simp; try with_reducible rfl); (try go_frame)
      refine hTk (i := 3) (v := ?_) (hy := Or.inl ⟨by rfl, ?_⟩) (h := ?_); rotate_left 1; (intro w0 hS; (try dsimp only at hS); unfold MSk at hS; go_simp; try with_reducible rfl); (try go_frame)
      refine hTk (i := 4) (v := ?_) (hy := Or.inl ⟨by rfl, ?_⟩) (h := ?_); rotate_left 1; (intro w0 hS; (try dsimp only at hS); unfold MSk at hS; go_simp; try with_reducible rfl); (try go_frame)
      refine wpAnyH_ready (rs := [5]) (by kernel_rfl) (by simp) ?_; refine hCo (h := fun K hK => ?_) (hs := AllReadyH.nil); go_simp
      refine (HO _).mono ?_
      rintro e w8 ⟨rfl, hx8⟩
      refine hK.out _ _ (hH.ext (by first | assumption | exact Ext.alloc (Ext.refl _) _)) (fun hH => ?_); clear hK; (try go_frame)
      refine wpAnyH_done (by kernel_rfl) ?_ _
      simp only [splitQ]
      have hx9 := hH.1
      clear hH hM0
      have hn3 : ∀ n ∈ [p.turn, p.castle, overA p], inI n := by
        intro n hn
        simp only [List.mem_cons, List.not_mem_nil, or_false] at hn
        rcases hn with rfl | rfl | rfl
        · exact hr.turn
        · exact hr.castle
        · exact over_in hr
      have hl3 : (numsT (sqL p 64)).length + 22 * [p.turn, p.castle, overA p].length ≤ 1000000 := by have := sq_len hr (Nat.le_refl 64); simp; omega
      have hs8 := hx9.le
      have hkl := keyT_len hr
      have hkn := keyT_ne p
      have hkt : numsT (sqL p 64) ++ numsT [p.turn, p.castle, overA p] = keyT p := by unfold keyT keyL; rw [numsT_app]
      have HKT := hid hkt
      generalize overA p = oA at *
      have hxA : Ext wr (w8.alloc (.cells #[.int .i64 p.turn, .int .i64 p.castle, .int .i64 oA] 3)) := Ext.alloc hx9 _
      have hgA : blk (w8.alloc (.cells #[.int .i64 p.turn, .int .i64 p.castle, .int .i64 oA] 3)) w8.heap.size = some (.cells (ints [p.turn, p.castle, oA]).toArray 3 (0, 0)) := (by simp [go_sem, ints])
      have HC := numbers_any w.heap.size (w.heap.size + 1) w8.heap.size 3 p' (numsT (sqL p 64)) [p.turn, p.castle, oA] _ hpI (hbl.ext hxA) hgA (by omega) hn3 hl3 (by simp; omega) (htr.on (Below.mono hxA (by omega)))
      simp only [List.length_cons, List.length_nil, Nat.zero_add, Nat.reduceAdd] at HC
      rw [hkt] at HC
      have hl5 : (keyT p).length ≤ 100000000 := by omega
      have HWA := hid (show Below w.heap.size w (w8.alloc (.cells #[.int .i64 p.turn, .int .i64 p.castle, .int .i64 oA] 3)) from (Below.trans hE1 (hwr.low (by omega) (by omega))).trans (Below.mono hxA (by omega)))
      have hsA : w.heap.size ≤ (w8.alloc (.cells #[.int .i64 p.turn, .int .i64 p.castle, .int .i64 oA] 3)).heap.size := (by simp; omega)
      clear hgA hkt hbl hpr
      go_wp2_with (first
        | (go_at_call 62; (with_reducible refine HC.mono ?_); rintro e w5 ⟨rfl, p5, hp5, hb5, hw5⟩; have hw5l := hw5.low (by omega) hsA)
        | (go_at_call 63; (with_reducible refine (String_any w.heap.size (w.heap.size + 1) p5 (keyT p) _ hb5 hkn hl5).mono ?_); rintro e w6 ⟨rfl, hx6⟩))
      go_ret
      exact ⟨rfl, (HWA.out.trans hw5l).trans hx6⟩
end Go.Proofs.YtdmgimfgoajmjaaGreatDoor
namespace Go.Proofs.YtdmgimfgoajmjaaGreatDoor
open Go.RowKit
theorem Tab10.up {w W : World} (h : Tab10 w.heap.size w) (hx : Ext w W) : Tab10 W.heap.size W := fun w' hb => h w' (Below.trans hx (Below.mono hb hx.le))
def sameB (p q : Pos) : Bool := decide (keyL p = keyL q)
theorem keyT_inj {p q : Pos} : keyT p = keyT q ↔ keyL p = keyL q := ⟨fun h => numsT_inj h, fun h => by unfold keyT; rw [h]⟩
def MS2 (p q : Pos) (w W : World) : Prop := Ext w W ∧ blk W w.heap.size = some (.cells (posCells p) 30 (0, 0)) ∧ blk W (w.heap.size + 1) = some (.cells (posCells q) 30 (0, 0))
theorem MS2.ext {p q : Pos} {w W W' : World} (h : MS2 p q w W) (hx : Ext W W') : MS2 p q w W' := ⟨h.1.trans hx, (hx.blk _ (blk_lt h.2.1)).trans h.2.1, (hx.blk _ (blk_lt h.2.2)).trans h.2.2⟩
set_option maxRecDepth 100000 in
set_option maxHeartbeats 2000000 in
theorem Same_any (p q : Pos) (w : World) (hp : Rng p) (hq : Rng q) (ht : Tab10 w.heap.size w) : Calls Tryz.prog 16 #[.agg (posCells p), .agg (posCells q)] w (Ret (.bool (sameB p q)) w) := by
  have HE := hid (show sameB p q = (keyT p == keyT q) by
    unfold sameB
    rw [Bool.eq_iff_iff, beq_iff_eq, decide_eq_true_eq, keyT_inj])
  go_enter Tryz.func16, Tryz.ntmps16
  have hM0 : MS2 p q w ((w.alloc (.cells (posCells p) 30)).alloc (.cells (posCells q) 30)).drew := ⟨(Ext.auto), by simp [go_sem], by simp [go_sem]⟩
  go_upto_region 1 with (fail)
  refine wp_region_split 5 (MS2 p q w) (by kernel_rfl) (by kernel_rfl) (hM0) (fun hH => ?_)
  simp only [List.take_succ_cons, List.take_zero, List.drop_succ_cons, List.drop_zero]
  refine hTk (i := 0) (v := ?_) (hy := Or.inl ⟨by rfl, ?_⟩) (h := ?_); rotate_left 1; (intro w0 hS; (try dsimp only at hS); unfold MS2 at hS; go_simp; try with_reducible rfl); (try go_frame)
  refine hTk (i := 2) (v := ?_) (hy := Or.inl ⟨by rfl, ?_⟩) (h := ?_); rotate_left 1; (intro w0 hS; (try dsimp only at hS); unfold MS2 at hS; go_simp; try with_reducible rfl); (try go_frame)
  refine wpAnyH_ready (rs := [1]) (by kernel_rfl) (by simp) ?_; refine hCo (h := fun K hK => ?_) (hs := AllReadyH.nil); go_simp
  refine (Key_any p _ hp (ht.up (by first | exact hH.1))).mono ?_
  rintro e w8 ⟨rfl, hx8⟩
  refine hK.out _ _ (hH.ext (by first | assumption | exact Ext.alloc (Ext.refl _) _)) (fun hH => ?_); clear hK; (try go_frame)
  refine wpAnyH_ready (rs := [3]) (by kernel_rfl) (by simp) ?_; refine hCo (h := fun K hK => ?_) (hs := AllReadyH.nil); go_simp
  refine (Key_any q _ hq (ht.up (by first | exact hH.1))).mono ?_
  rintro e w9 ⟨rfl, hx9⟩
  refine hK.out _ _ (hH.ext (by first | assumption | exact Ext.alloc (Ext.refl _) _)) (fun hH => ?_); clear hK; (try go_frame)
  refine hTk (i := 4) (v := ?_) (hy := Or.inl ⟨by rfl, ?_⟩) (h := ?_); rotate_left 1; (intro w0 hS; (try dsimp only at hS); unfold MS2 at hS; go_simp; try with_reducible rfl); (try go_frame)
  refine wpAnyH_done (by kernel_rfl) ?_ _
  simp only [splitQ]
  have hx := hH.1
  clear hH hM0
  go_wp2
  go_ret
  exact Ret.mk' (vbool HE.out.symm) hx
end Go.Proofs.YtdmgimfgoajmjaaGreatDoor
