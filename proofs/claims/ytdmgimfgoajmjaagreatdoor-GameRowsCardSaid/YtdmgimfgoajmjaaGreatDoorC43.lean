/- A copy of the program's game. -/
import Derived.Test.YtdmgimfgoajmjaaGreatDoorC39
import Derived.Test.YtdmgimfgoajmjaaGreatDoorC35
import Derived.Test.YtdmgimfgoajmjaaGreatDoorC41
import Derived.Test.YtdmgimfgoajmjaaGreatDoorC34
import Derived.Test.YtdmgimfgoajmjaaGreatDoorC33
import Derived.Test.YtdmgimfgoajmjaaGreatDoorC30
set_option linter.unusedVariables false
set_option linter.unusedSimpArgs false
set_option maxRecDepth 100000
set_option maxHeartbeats 4000000
namespace Go.Proofs.YtdmgimfgoajmjaaGreatDoor
open Go.RowKit Go.Maps
@[go_sem, simp] theorem putAt_gmZ (b : Value) (p : Pos) (mv : Value) (r y : Int) : putAt gmZ 0 (gmC b p mv r y) = gmC b p mv r y := putAt_whole _ _ (by unfold gmZ; rw [gmC_size, gmC_size])
@[go_sem, simp] theorem putAt_rgZ (p : Pos) (b mv : Value) (r y : Int) : putAt rgZ 0 (rgC p b mv r y) = rgC p b mv r y := putAt_whole _ _ (by unfold rgZ; rw [rgC_size, rgC_size])
@[go_sem] theorem gmZ_size : gmZ.size = 137 := by unfold gmZ; rw [gmC_size]
@[go_sem] theorem rgZ_size : rgZ.size = 137 := by unfold rgZ; rw [rgC_size]
abbrev MSgc.T (g : Nat) (cs : Array Value) (v0 mv : Value) (w W : World) : Prop := Ext w W ∧ blk W g = some (.cells cs 142 (0, 0)) ∧ W.cell? ⟨g, 0, none⟩ = some v0 ∧ W.cell? ⟨g, 134, none⟩ = some mv
def MSgc (g : Nat) (cs : Array Value) (v0 mv : Value) (w W : World) : Prop := MSgc.T g cs v0 mv w W
theorem MSgc.u {g cs v0 mv w} (W) (h : MSgc g cs v0 mv w W) : MSgc.T g cs v0 mv w W := h
theorem MSgc.ext {g : Nat} {cs : Array Value} {v0 mv : Value} {w W W' : World} (h : MSgc g cs v0 mv w W) (hx : Ext W W') : MSgc g cs v0 mv w W' :=
 ⟨h.1.trans hx, (hx.blk _ (blk_lt h.2.1)).trans h.2.1, (hx.cell _ _ (blk_lt h.2.1)).trans h.2.2.1, (hx.cell _ _ (blk_lt h.2.1)).trans h.2.2.2⟩
theorem MSgc.set {g : Nat} {cs : Array Value} {v0 mv : Value} {w W : World} (h : MSgc g cs v0 mv w W) {c : Nat} (hg : g < w.heap.size) (hc : w.heap.size ≤ c) (o : Nat) (v : Value) : MSgc g cs v0 mv w (W.setCell ⟨c, o, none⟩ v) := by
 have kb := blk_setCell_past W ⟨c, o, none⟩ v g (by simp; omega)
 have kc : ∀ i, (W.setCell ⟨c, o, none⟩ v).cell? ⟨g, i, none⟩ = W.cell? ⟨g, i, none⟩ := fun i => World.cell?_of_block kb
 exact ⟨h.1.set hc v, kb.trans h.2.1, (kc 0).trans h.2.2.1, (kc 134).trans h.2.2.2⟩
theorem CopyG_any {g b m : Nat} {mv : Value} {s : GS} {w : World} (h : PG g b m mv s w) (hn : s.ms.length ≤ 100000) :
 Calls Tryz.prog 52 #[.pointer (some ⟨g, 0, none⟩)] w (fun e w' => ∃ c b2 m2 mv2, e = .returned (.pointer (some ⟨c, 0, none⟩)) ∧ PG c b2 m2 mv2 s w' ∧ (∀ k, footG c b2 m2 mv2 k → w.heap.size ≤ k) ∧ Ext w w') := by
 have hT := thereG_any h
 have hg := h.game
 have hgl := blk_lt hg
 have HP := hid h
 have ho1 : mv.oneCell' = true := by
  rcases h.own.2 with ⟨h1, -⟩ | ⟨g9, cap, cur, h1, -⟩ <;> (rw [h1]; rfl)
 have hone := gm_one (.pointer (some ⟨b, 0, none⟩)) s.at_ mv s.res s.why rfl ho1
 clear h
 go_enter Tryz.func52, Tryz.ntmps52
 go_upto_region 4 with (go_at_call 83; (with_reducible refine hT.mono ?_); rintro e w1 ⟨rfl, hx1⟩; (have hg1 := (hx1.blk _ (blk_lt hg)).trans hg))
 have hx2 : Ext w1 (w1.alloc (.cells (gmC (.pointer (some ⟨b, 0, none⟩)) s.at_ mv s.res s.why) 142)) := Ext.alloc (Ext.refl _) _
 have hc2 : blk (w1.alloc (.cells (gmC (.pointer (some ⟨b, 0, none⟩)) s.at_ mv s.res s.why) 142)) w1.heap.size = some (.cells (gmC (.pointer (some ⟨b, 0, none⟩)) s.at_ mv s.res s.why) 142 (0, 0)) := blk_alloc_at _ _ _ rfl
 have hwc := hx1.le
 refine world_cut (fun W => Ext w W ∧ blk W w1.heap.size = some (.cells (gmC (.pointer (some ⟨b, 0, none⟩)) s.at_ mv s.res s.why) 142 (0, 0))) ⟨hx1.trans hx2, hc2⟩ ?_
 clear hx2 hc2 hg1
 rintro W3 ⟨hx3, hc3⟩
 generalize w1.heap.size = c at *
 have hg3 := ((hx3.drew).blk _ hgl).trans hg
 have hM0 : MSgc g (gmC (.pointer (some ⟨b, 0, none⟩)) s.at_ mv s.res s.why) (.pointer (some ⟨b, 0, none⟩)) mv w W3.drew := ⟨hx3.drew, hg3, (blk_cell hg3 0).trans (gm_0 ..), (blk_cell hg3 134).trans (gm_134 ..)⟩
 refine held_ini (S := MSgc g (gmC (.pointer (some ⟨b, 0, none⟩)) s.at_ mv s.res s.why) (.pointer (some ⟨b, 0, none⟩)) mv w) (fun W => blk W c = some (.cells (gmC (.pointer (some ⟨b, 0, none⟩)) s.at_ mv s.res s.why) 142 (0, 0))) (by kernel_rfl) (hM0) (hc3) (fun W0 hH hI => ?_)
 refine hTz MSgc.u 0 ?_; (try go_frame)
 refine hTz MSgc.u 1 ?_; (try go_frame)
 refine hTz MSgc.u 2 ?_; (try go_frame)
 refine hTz MSgc.u 3 ?_; (try go_frame)
 refine hTz MSgc.u 4 ?_; (try go_frame)
 refine hTz MSgc.u 6 ?_; (try go_frame)
 refine hTz MSgc.u 7 ?_; (try go_frame)
 refine hTz MSgc.u 8 ?_; (try go_frame)
 refine hTz MSgc.u 9 ?_; (try go_frame)
 refine hRy [5] (hCp (fun K hK => ?_) AllReadyH.nil); go_simp
 have hp5 := HP.out.ext hH.1
 obtain ⟨D, hcn, hgd⟩ := hp5.cnt
 refine (Copy_any b m _ D _ hp5.book hcn).mono ?_
 rintro e w5 ⟨b2, m2, rfl, lb2, lm2, hbm2, hb2, hc2, hx5⟩
 have hI := (hx5.blk _ (blk_lt hI)).trans hI
 have hle5 := hH.1.le
 refine hK.out _ _ (by first | exact hH13 | exact hH15 | exact hH.ext (by assumption)) (fun hH => ?_); clear hK; (try go_frame)
 refine hRy [10] (hCp (fun K hK => ?_) AllReadyH.nil); go_simp
 have hp10 := HP.out.ext hH.1
 refine (Clone_any s.ms mv _ hp10.own hn).mono ?_
 rintro e w10 ⟨mv2, rfl, ho10, hx10⟩
 obtain ⟨aq, cq, rfl⟩ := (Sl.of_own ho10).form
 have hI := (hx10.blk _ (blk_lt hI)).trans hI
 have hb10 := (hx10.blk _ (blk_lt hb2)).trans hb2
 have hc10 := hc2.ext hx10
 have fz := blk_froz hI
 have d0 := (blk_cell hI 0).trans (gm_0 ..)
 have d134 := (blk_cell hI 134).trans (gm_134 ..)
 have hle10 := hH.1.le
 refine hK.out _ _ (by first | exact hH13 | exact hH15 | exact hH.ext (by assumption)) (fun hH => ?_); clear hK; (try go_frame)
 refine hTz MSgc.u 11 ?_; (try go_frame)
 refine hTz MSgc.u 12 ?_; (try go_frame)
 refine hRy [13] (hCp (fun K hK => ?_) AllReadyH.nil); go_simp
 have hH13 := hH.set hgl hwc 0 (.pointer (some ⟨b2, 0, none⟩))
 have hI13 : blk (w10.setCell ⟨c, 0, none⟩ (.pointer (some ⟨b2, 0, none⟩))) c = some (.cells (gmC (.pointer (some ⟨b2, 0, none⟩)) s.at_ mv s.res s.why) 142 (0, 0)) := by rw [blk_setCell_same _ _ _ _ _ _ hI, gm_set0]
 have d13 := (blk_cell hI13 134).trans (gm_134 ..)
 have fz13 := blk_froz hI13
 refine hK.out _ _ (by first | exact hH13 | exact hH15 | exact hH.ext (by assumption)) (fun hH => ?_); clear hK; (try go_frame)
 refine hTz MSgc.u 14 ?_; (try go_frame)
 refine hRy [15] (hCp (fun K hK => ?_) AllReadyH.nil); go_simp
 have hH15 := hH.set hgl hwc 134 (.slice aq s.ms.length cq)
 refine hK.out _ _ (by first | exact hH13 | exact hH15 | exact hH.ext (by assumption)) (fun hH => ?_); clear hK; (try go_frame)
 refine wpAnyH_done (by kernel_rfl) ?_ _
 have hE := hH.1
 clear hH hM0
 have hcb : b2 ≠ c := blk_ne3 hI hb10 (by decide)
 have hPf : PG c b2 m2 (.slice aq s.ms.length cq) s ((w10.setCell ⟨c, 0, none⟩ (.pointer (some ⟨b2, 0, none⟩))).setCell ⟨c, 134, none⟩ (.slice aq s.ms.length cq)) := by
  have hne : (Value.slice aq s.ms.length cq).ownBlock ≠ some c := own_ne ho10 hI (by decide)
  have hcm : c ≠ m2 := CntG.ne ⟨D, hc10, hgd⟩ hI
  refine ⟨by rw [blk_setCell_same _ _ _ _ _ _ (blk_setCell_same _ _ _ _ _ _ hI), gm_set0, gm_set134], (blk_setCell_past _ _ _ _ hcb).trans ((blk_setCell_past _ _ _ _ hcb).trans hb10), CntG.keep ⟨D, hc10, hgd⟩ ((blk_setCell_past _ _ _ _ hcm.symm).trans (blk_setCell_past _ _ _ _ hcm.symm)), own_base (own_blocks ho10 fun k hk => (blk_setCell_past _ _ _ _ (fun e => hne (by rw [hk, e]))).trans (blk_setCell_past _ _ _ _ (fun e => hne (by rw [hk, e])))) (Nat.zero_le _)⟩
 have hfoot : ∀ k, footG c b2 m2 (.slice aq s.ms.length cq) k → w.heap.size ≤ k := by
  rintro k (rfl | rfl | rfl | e)
  ·exact hwc
  ·exact Nat.le_trans hle5 lb2
  ·exact Nat.le_trans hle5 lm2
  ·exact Nat.le_trans hle10 (own_type ho10 k e).1
 have HPF := hid (And.intro hPf hfoot)
 clear hPf hfoot ho10 hc10 hb10 hb2 hc2 hcn
 go_wp2
 go_ret
 exact ⟨c, b2, m2, (.slice aq s.ms.length cq), rfl, HPF.out.1, HPF.out.2, hE⟩
structure GB (g b m c n : Nat) (mv : Value) (s : GS) (Qs : List Pos) (W : World) : Prop where
 p : PG g b m mv s W
 book : blk W c = some (.cells #[.map (some n)] 101 (0, 0))
 cnt : CntG W n Qs
 dis : ∀ k, footG g b m mv k → k ≠ c ∧ k ≠ n
theorem GB.ne {g b m c n : Nat} {mv : Value} {s : GS} {Qs : List Pos} {W : World} (h : GB g b m c n mv s Qs W) : c ≠ n := h.cnt.ne h.book
theorem GB.ext {g b m c n : Nat} {mv : Value} {s : GS} {Qs : List Pos} {W W' : World} (h : GB g b m c n mv s Qs W) (hx : Ext W W') : GB g b m c n mv s Qs W' := ⟨h.p.ext hx, (hx.blk _ (blk_lt h.book)).trans h.book, h.cnt.ext hx, h.dis⟩
theorem GB.put {g b m c n : Nat} {mv : Value} {s : GS} {Qs : List Pos} {W : World} {x : Pos} (h : GB g b m c n mv s Qs W) (hx : Rng x) (ht : Tab10 W.heap.size W) (hn : Qs.length ≤ 1000) :
 Calls Tryz.prog 19 #[.pointer (some ⟨c, 0, none⟩), .agg (posCells x)] W (fun e W' => e = .returned (.int .i64 ((manyB (Qs ++ [x]) x : Nat) : Int)) ∧ GB g b m c n mv s (Qs ++ [x]) W' ∧ Fr (fun k => k = n) W W') := by
 have hne := h.ne
 obtain ⟨D, hc, hg⟩ := h.cnt
 have hl := many_le Qs x
 refine (Put_any c n Qs.length D x (manyB Qs x) W h.book hc (by omega) hx ht (hg.at_ x) (by omega) (by omega)).mono ?_
 rintro e W' ⟨rfl, hc', hg'⟩
 have hf : Fr (fun k => k = n) W W' := Fr.grown hg' (fun k e => (Option.some.inj e).symm)
 exact ⟨by rw [many_last]; rfl, ⟨h.p.fr hf (fun k hk e => (h.dis k hk).2 e), (hf.keep _ (blk_lt h.book) hne).trans h.book, ⟨_, by rw [List.length_append]; exact hc', hg.put x⟩, h.dis⟩, hf⟩
theorem GB.many {g b m c n : Nat} {mv : Value} {s : GS} {Qs : List Pos} {W : World} {x : Pos} (h : GB g b m c n mv s Qs W) (hx : Rng x) (ht : Tab10 W.heap.size W) :
 Calls Tryz.prog 23 #[.pointer (some ⟨c, 0, none⟩), .agg (posCells x)] W (Ret (.int .i64 (manyB Qs x)) W) := by
 obtain ⟨D, hc, hg⟩ := h.cnt
 exact Many_any c n _ D x _ W h.book hc hx ht (hg.at_ x)
theorem GB.move {g b m c n : Nat} {mv mv' : Value} {s s' : GS} {Qs : List Pos} {W W' : World} (h : GB g b m c n mv s Qs W) (hp : PG g b m mv' s' W') (hf : Fr (footG g b m mv) W W') (hg : ∀ k, footG g b m mv' k → footG g b m mv k ∨ W.heap.size ≤ k) : GB g b m c n mv' s' Qs W' :=
 ⟨hp, (hf.keep _ (blk_lt h.book) fun e => (h.dis _ e).1 rfl).trans h.book, h.cnt.keep (hf.keep _ h.cnt.lt fun e => (h.dis _ e).2 rfl), fun k hk => (hg k hk).elim (h.dis k) fun hs => ⟨by have := blk_lt h.book; omega, by have := h.cnt.lt; omega⟩⟩
theorem playG_end {s : GS} {x : Mv} : ((playG s [x]).2 = 0 ∧ (playG s [x]).1.ps = s.ps ++ [(playG s [x]).1.at_] ∧ (playG s [x]).1 = stepS s x ∧ isB s.at_ x = true ∧ s.res = 0) ∨ ((playG s [x]).2 ≠ 0 ∧ (playG s [x]).1 = s) := by
 unfold playG
 split
 ·exact .inr ⟨by dsimp only; decide, rfl⟩
 ·rename_i h0
  split
  ·exact .inr ⟨by dsimp only; decide, rfl⟩
  ·split
   ·rename_i hi
    exact .inl ⟨rfl, rfl, rfl, hi, by simpa using h0⟩
   ·exact .inr ⟨by dsimp only; decide, rfl⟩
theorem foot_not {n N : Nat} {F : Nat → Prop} (hl : N ≤ n) (hF : ∀ k, F k → k < N) : ∀ gb off c, Value.slice (some ⟨n, 0, none⟩) 1 1 = .slice (some ⟨gb, off, none⟩) 1 c → ¬ F gb := by
 intro gb off c e h
 injection e with e
 injection e with e
 injection e with e
 subst e
 have := hF _ h
 omega
theorem own_pos1 {W : World} {g : Nat} {p : Pos} (h : blk W g = some (.cells (posCells p) 30 (0, 0))) : W.ownsRow g 30 133 (.slice (some ⟨g, 0, none⟩) 1 1) 1 (posL [p]) :=
 ⟨by rw [posL_len]; rfl, .inr ⟨g, 1, posCells p, rfl, Nat.le_refl _, h, Nat.le_refl _, by unfold maxLen; omega, by rw [posCells_size], by simp [posL, posCells_size, List.take_of_length_le]⟩⟩
theorem GB.start {g b m c n : Nat} {mv : Value} {s : GS} {D : DataW Unit} {Qs : List Pos} {W W' : World} (h : PG g b m mv s W) (hx : Ext W W') (hc : W.heap.size ≤ c) (hn : W.heap.size ≤ n) (hb : blk W' c = some (.cells #[.map (some n)] 101 (0, 0))) (hd : Cnt W' n Qs.length D) (hg : Good D Qs) : GB g b m c n mv s Qs W' :=
 ⟨h.ext hx, hb, ⟨D, hd, hg⟩, fun k hk => by have := h.foot_lt k hk; exact ⟨by omega, by omega⟩⟩
end Go.Proofs.YtdmgimfgoajmjaaGreatDoor
