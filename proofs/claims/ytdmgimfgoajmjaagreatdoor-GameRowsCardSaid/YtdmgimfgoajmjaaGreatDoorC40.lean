/- The document's game: how it lies in memory; it comes to a position. -/
import Derived.Test.YtdmgimfgoajmjaaGreatDoorC38
import Derived.Test.YtdmgimfgoajmjaaGreatDoorC35
set_option linter.unusedVariables false
set_option linter.unusedSimpArgs false
set_option maxRecDepth 100000
set_option maxHeartbeats 4000000
namespace Go.Proofs.YtdmgimfgoajmjaaGreatDoor
open Go.RowKit Go.Maps
structure RG (g : Nat) (bv mv : Value) (s : GS) (W : World) : Prop where
 game : blk W g = some (.cells (rgC s.at_ bv mv s.res s.why) 65 (0, 0))
 book : W.ownsRow 0 30 133 bv s.ps.length (posL s.ps)
 own : W.ownsRow 0 51 3 mv s.ms.length (mvsC s.ms)
def footR (g : Nat) (bv mv : Value) (k : Nat) : Prop := k = g ∨ bv.ownBlock = some k ∨ mv.ownBlock = some k
theorem RG.keep {g : Nat} {bv mv : Value} {s : GS} {W W' : World} (h : RG g bv mv s W) (hk : ∀ k, footR g bv mv k → k < W.heap.size → blk W' k = blk W k) : RG g bv mv s W' :=
 ⟨(hk g (.inl rfl) (blk_lt h.game)).trans h.game, own_blocks h.book fun k e => hk k (.inr (.inl e)) (by obtain ⟨-, cs, fr, h⟩ := own_type h.book k e; exact blk_lt h), own_blocks h.own fun k e => hk k (.inr (.inr e)) (by obtain ⟨-, cs, fr, h⟩ := own_type h.own k e; exact blk_lt h)⟩
theorem RG.ext {g : Nat} {bv mv : Value} {s : GS} {W W' : World} (h : RG g bv mv s W) (hx : Ext W W') : RG g bv mv s W' := h.keep fun k _ hk => hx.blk k hk
theorem RG.foot_lt {g : Nat} {bv mv : Value} {s : GS} {W : World} (h : RG g bv mv s W) : ∀ k, footR g bv mv k → k < W.heap.size := by
 rintro k (rfl | e | e)
 ·exact blk_lt h.game
 ·obtain ⟨-, cs, fr, h⟩ := own_type h.book k e; exact blk_lt h
 ·obtain ⟨-, cs, fr, h⟩ := own_type h.own k e; exact blk_lt h
theorem RG.fr {g : Nat} {bv mv : Value} {s : GS} {W W' : World} {F : Nat → Prop} (h : RG g bv mv s W) (hf : Fr F W W') (hd : ∀ k, footR g bv mv k → ¬ F k) : RG g bv mv s W' := h.keep fun k hk hl => hf.keep k hl (hd k hk)
abbrev MSrc.T (g pb : Nat) (bv mv : Value) (p : Pos) (r y : Int) (w W : World) : Prop := Fr (fun k => k = g ∨ bv.ownBlock = some k) w W ∧ blk W g = some (.cells (rgC p bv mv r y) 65 (0, 0)) ∧ blk W pb = some (.cells (posCells p) 30 (0, 0))
def MSrc (g pb : Nat) (bv mv : Value) (p : Pos) (r y : Int) (w W : World) : Prop := MSrc.T g pb bv mv p r y w W
theorem MSrc.u {g pb bv mv p r y w} (W) (h : MSrc g pb bv mv p r y w W) : MSrc.T g pb bv mv p r y w W := h
structure RK (g : Nat) (bv mv : Value) (ps : List Pos) (ms : List Mv) (p : Pos) (pb : Nat) (r y : Int) (F : Nat → Prop) (w W : World) : Prop where
 fr : Fr F w W
 game : blk W g = some (.cells (rgC p bv mv r y) 65 (0, 0))
 pos : blk W pb = some (.cells (posCells p) 30 (0, 0))
 book : W.ownsRow 0 30 133 bv ps.length (posL ps)
 own : W.ownsRow 0 51 3 mv ms.length (mvsC ms)
theorem RK.ext {g : Nat} {bv mv : Value} {ps : List Pos} {ms : List Mv} {p : Pos} {pb : Nat} {r y : Int} {F : Nat → Prop} {w W W' : World} (h : RK g bv mv ps ms p pb r y F w W) (hx : Ext W W') : RK g bv mv ps ms p pb r y F w W' :=
 ⟨h.fr.exts hx, (hx.blk _ (blk_lt h.game)).trans h.game, (hx.blk _ (blk_lt h.pos)).trans h.pos, own_ext h.book hx, own_ext h.own hx⟩
theorem RK.set {g : Nat} {bv mv : Value} {ps : List Pos} {ms : List Mv} {p : Pos} {pb : Nat} {r y : Int} {F : Nat → Prop} {w W : World} (h : RK g bv mv ps ms p pb r y F w W) (hg : F g) (r' y' : Int) :
 RK g bv mv ps ms p pb r' y' F w ((W.setCell ⟨g, 135, none⟩ (.int .i64 r')).setCell ⟨g, 136, none⟩ (.int .i64 y')) := by
 have k1 := blk_ne3 h.game h.pos (by decide)
 have k4 := own_ne h.book h.game (by decide)
 have k5 := own_ne h.own h.game (by decide)
 refine ⟨(h.fr.set (fun _ => hg) _).set (fun _ => hg) _, ?_, ?_, ?_, ?_⟩
 ·rw [blk_setCell_same _ _ _ _ _ _ (blk_setCell_same _ _ _ _ _ _ h.game), rg_set135, rg_set136]
 ·rw [blk_setCell_past _ _ _ _ k1, blk_setCell_past _ _ _ _ k1]; exact h.pos
 ·exact own_blocks h.book fun k hk => (blk_setCell_past _ _ _ _ (fun e => k4 (by rw [hk, e]))).trans (blk_setCell_past _ _ _ _ (fun e => k4 (by rw [hk, e])))
 ·exact own_blocks h.own fun k hk => (blk_setCell_past _ _ _ _ (fun e => k5 (by rw [hk, e]))).trans (blk_setCell_past _ _ _ _ (fun e => k5 (by rw [hk, e])))
abbrev MSrp.T (g pb : Nat) (bv : Value) (p : Pos) (w W : World) : Prop := Fr (fun k => k = g ∨ bv.ownBlock = some k) w W ∧ blk W pb = some (.cells (posCells p) 30 (0, 0))
def MSrp (g pb : Nat) (bv : Value) (p : Pos) (w W : World) : Prop := MSrp.T g pb bv p w W
theorem MSrp.u {g pb bv p w} (W) (h : MSrp g pb bv p w W) : MSrp.T g pb bv p w W := h
theorem RK.put {g pb : Nat} {bv bv' mv : Value} {ps : List Pos} {ms : List Mv} {p : Pos} {r y : Int} {w W0 w5 : World} (hI : RK g bv mv ps ms p pb r y (fun k => k = g ∨ bv.ownBlock = some k) w W0) (k5 : mv.ownBlock ≠ some g) (k6 : ∀ k, mv.ownBlock = some k → bv.ownBlock ≠ some k) (k7 : bv.ownBlock ≠ some pb)
 (hb5 : blk w5 g = some (.cells ((rgC p bv mv r y).setIfInBounds 133 bv') 65 (0, 0))) (ho5 : w5.ownsRow 0 30 133 bv' (ps ++ [p]).length (posL (ps ++ [p]))) (hf5 : Fr (fun k => k = g ∨ bv.ownBlock = some k) W0 w5) :
 RK g bv' mv (ps ++ [p]) ms p pb r y (fun k => k = g ∨ bv.ownBlock = some k) w w5 := by
 rw [rg_set133] at hb5
 refine ⟨hI.fr.trans hf5 (fun _ _ h => h), hb5, (hf5.keep _ (blk_lt hI.pos) ?_).trans hI.pos, ho5, own_blocks hI.own fun k hk => hf5.keep k ?_ ?_⟩
 ·rintro (e | e)
  ·exact blk_ne3 hI.game hI.pos (by decide) e
  ·exact k7 e
 ·obtain ⟨-, cs, fr, h1⟩ := own_type hI.own k hk
  exact blk_lt h1
 ·rintro (e | e)
  ·exact k5 (by rw [hk, e])
  ·exact k6 k hk e
theorem rCome_any (g : Nat) (bv mv : Value) (s : GS) (p : Pos) (w : World) (h : RG g bv mv s w) (hn : s.ps.length ≤ 900) :
 Calls Tryz.prog 78 #[.pointer (some ⟨g, 0, none⟩), .agg (posCells p)] w (fun e w' => e = .returned (.tuple #[]) ∧ ∃ bv', RG g bv' mv (comeS s p) w' ∧ Fr (fun k => k = g ∨ bv.ownBlock = some k) w w' ∧ ∀ k, bv'.ownBlock = some k → bv.ownBlock = some k ∨ w.heap.size ≤ k) := by
 have hg := h.game
 have hlg := blk_lt hg
 have k4 := own_ne h.book hg (by decide)
 have k5 := own_ne h.own hg (by decide)
 have k6 : ∀ k, mv.ownBlock = some k → bv.ownBlock ≠ some k := fun k e1 e2 => by
  obtain ⟨-, cs, fr, h1⟩ := own_type h.own k e1
  exact own_ne h.book h1 (by decide) e2
 have k7 : bv.ownBlock ≠ some w.heap.size := fun e => by
  obtain ⟨-, cs, fr, h1⟩ := own_type h.book _ e
  exact absurd (blk_lt h1) (by omega)
 have HP := hid h
 clear h
 go_enter Tryz.func78, Tryz.ntmps78
 go_upto_region 2 with (fail)
 have hE0 : Fr (fun k => k = g ∨ bv.ownBlock = some k) w (w.setRow g (rgC p bv mv s.res s.why)) := (Fr.refl _ w).setRow (fun _ => .inl rfl) _
 have hx0 : Ext (w.setRow g (rgC p bv mv s.res s.why)) ((w.setRow g (rgC p bv mv s.res s.why)).alloc (.cells (posCells p) 30)) := Ext.alloc (Ext.refl _) _
 have hk0 : RK g bv mv s.ps s.ms p w.heap.size s.res s.why (fun k => k = g ∨ bv.ownBlock = some k) w ((w.setRow g (rgC p bv mv s.res s.why)).alloc (.cells (posCells p) 30)) :=
  ⟨hE0.exts hx0, (hx0.blk _ (by simpa using hlg)).trans (setRow_blk hg), blk_alloc_at _ _ _ (by simp), own_ext (own_blocks HP.out.book fun k hk => setRow_blk_past (fun e => k4 (by rw [hk, e]))) hx0, own_ext (own_blocks HP.out.own fun k hk => setRow_blk_past (fun e => k5 (by rw [hk, e]))) hx0⟩
 clear hE0 hx0
 refine world_cut (fun W => RK g bv mv s.ps s.ms p w.heap.size s.res s.why (fun k => k = g ∨ bv.ownBlock = some k) w W) hk0 ?_
 clear hk0
 intro W1 hk1
 have hk2 := hk1.ext (Ext.refl W1).drew
 have hM0 : MSrp g w.heap.size bv p w W1.drew := ⟨hk2.fr, hk2.pos⟩
 have HN := hid (show ((manyB (s.ps ++ [p]) p : Nat) : Int) = (manyB (s.ps ++ [p]) p : Nat) from rfl)
 clear hk1
 refine held_ini (S := MSrp g w.heap.size bv p w) (fun W => RK g bv mv s.ps s.ms p w.heap.size s.res s.why (fun k => k = g ∨ bv.ownBlock = some k) w W) (by kernel_rfl) (hM0) (hk2) (fun W0 hH hI => ?_)
 refine hTz MSrp.u 0 ?_; (try go_frame)
 refine hTz MSrp.u 1 ?_; (try go_frame)
 refine hTz MSrp.u 2 ?_; (try go_frame)
 refine hTz MSrp.u 3 ?_; (try go_frame)
 refine hRy [4] (hCp (fun K hK => ?_) AllReadyH.nil); go_simp
 refine (rPut_at g 133 (rgC p bv mv s.res s.why) 65 bv s.ps p _ hI.game (rg_133 ..) (by decide) hI.book (by omega)).mono ?_
 rintro e w5 ⟨rfl, bv', hb5, ho5, hf5, hg5⟩
 have hk5 := hI.put k5 k6 k7 hb5 ho5 hf5
 have hM5 : MSrp g w.heap.size bv p w w5 := ⟨hk5.fr, hk5.pos⟩
 have hg5' : ∀ k, bv'.ownBlock = some k → bv.ownBlock = some k ∨ w.heap.size ≤ k := fun k hk => (hg5 k hk).elim .inl fun e => .inr (Nat.le_trans hI.fr.size e)
 clear hI hg5 hf5 hb5 ho5
 refine hK.out _ _ (hM5) (fun hH => ?_); clear hK; (try go_frame)
 refine hTz MSrp.u 5 ?_; (try go_frame)
 refine wpAnyH_done (by kernel_rfl) ?_ _
 clear hH hM0 hk2 hg
 have HD := hid fun (r y : Int) (W : World) (h : RK g bv' mv (s.ps ++ [p]) s.ms p w.heap.size r y (fun k => k = g ∨ bv.ownBlock = some k) w W) (hr : r = outR (manyB (s.ps ++ [p]) p : Nat) p) (hy : y = outY (manyB (s.ps ++ [p]) p : Nat) p) =>
  (show ∃ bv', RG g bv' mv (comeS s p) W ∧ Fr (fun k => k = g ∨ bv.ownBlock = some k) w W ∧ ∀ k, bv'.ownBlock = some k → bv.ownBlock = some k ∨ w.heap.size ≤ k from by
   subst hr hy
   exact ⟨bv', ⟨h.game, h.book, h.own⟩, h.fr, hg5'⟩)
 generalize hN : ((manyB (s.ps ++ [p]) p : Nat) : Int) = N at *
 clear hN HN hg5' k4 k5 k6 k7
 have HK := hid hk5
 have hp5 := hk5.pos
 clear hk5 HP
 have hOf := fun W => rEndsOf_any p W
 have hDO := fun W => rDeadOf_any p W
 have hDD := fun W => rDead_any (leftUp p 64) W (left_bd64 p)
 have hSV := fun W => rSeventy_any p W
 by_cases he : endY p = 0
 ·rw [he, end_zero he] at hOf
  have HE := hid he
  clear he
  cases hd : deadB (leftUp p 64)
  ·rw [hd] at hDD
   by_cases h5 : 5 ≤ N
   ·have HY := hid (show (4 : Int) = outY N p by unfold outY; rw [if_neg (by simp [HE.out]), if_neg (by rw [hd]; simp), if_pos h5])
    have HR := hid (show (3 : Int) = outR N p by unfold outR; rw [if_neg (by simp [HE.out]), if_neg (by rw [← HY.out]; omega)])
    clear hd hSV
    generalize lfC (leftUp p 64) = LC at *
    go_wp2_with (first
     | (go_at_call 124; (with_reducible refine (hOf _).mono ?_); rintro e w9 ⟨rfl, hx9⟩; (have hk9 := HK.out.ext hx9); (have hg9 := hk9.game); (have fz9 := blk_froz hg9); (have c135 := (blk_cell hg9 135).trans (rg_135 ..)); (have c136 := (blk_cell hg9 136).trans (rg_136 ..)); (have hk10 := hk9.set (.inl rfl) 0 0); (have hp10 := hk10.pos); clear hk9 hg9)
     | (go_at_call 126; (with_reducible refine (hDO _).mono ?_); rintro e w11 ⟨rfl, hx11⟩)
     | (go_at_call 125; (with_reducible refine (hDD _).mono ?_); rintro e w12 ⟨rfl, hx12⟩; (have hk12 := hk10.ext (hx11.trans hx12)); (have hg12 := hk12.game); (have fz12 := blk_froz hg12); (have d135 := (blk_cell hg12 135).trans (rg_135 ..)); (have d136 := (blk_cell hg12 136).trans (rg_136 ..)); (have HK12 := hid hk12); clear hk12 hg12))
    go_end0
    exact ⟨rfl, HD.out _ _ _ (HK12.out.set (.inl rfl) 3 4) HR.out HY.out⟩
   ·cases hv : beyondB p [150]
    ·have HY := hid (show (0 : Int) = outY N p by unfold outY; rw [if_neg (by simp [HE.out]), if_neg (by rw [hd]; simp), if_neg h5, if_neg (by rw [hv]; simp)])
     have HR := hid (show (0 : Int) = outR N p by unfold outR; rw [if_neg (by simp [HE.out]), if_pos HY.out.symm])
     rw [hv] at hSV
     clear hd hv
     generalize lfC (leftUp p 64) = LC at *
     go_wp2_with (first
      | (go_at_call 124; (with_reducible refine (hOf _).mono ?_); rintro e w9 ⟨rfl, hx9⟩; (have hk9 := HK.out.ext hx9); (have hg9 := hk9.game); (have fz9 := blk_froz hg9); (have c135 := (blk_cell hg9 135).trans (rg_135 ..)); (have c136 := (blk_cell hg9 136).trans (rg_136 ..)); (have hk10 := hk9.set (.inl rfl) 0 0); (have hp10 := hk10.pos); clear hk9 hg9)
      | (go_at_call 126; (with_reducible refine (hDO _).mono ?_); rintro e w11 ⟨rfl, hx11⟩)
      | (go_at_call 125; (with_reducible refine (hDD _).mono ?_); rintro e w12 ⟨rfl, hx12⟩; (have hp12 := (hk10.ext (hx11.trans hx12)).pos))
      | (go_at_call 127; (with_reducible refine (hSV _).mono ?_); rintro e w13 ⟨rfl, hx13⟩; (have HK13 := hid (hk10.ext (hx11.trans (hx12.trans hx13))))))
     go_end0
     exact ⟨rfl, HD.out _ _ _ HK13.out HR.out HY.out⟩
    ·have HY := hid (show (5 : Int) = outY N p by unfold outY; rw [if_neg (by simp [HE.out]), if_neg (by rw [hd]; simp), if_neg h5, if_pos hv])
     have HR := hid (show (3 : Int) = outR N p by unfold outR; rw [if_neg (by simp [HE.out]), if_neg (by rw [← HY.out]; omega)])
     rw [hv] at hSV
     clear hd hv
     generalize lfC (leftUp p 64) = LC at *
     go_wp2_with (first
      | (go_at_call 124; (with_reducible refine (hOf _).mono ?_); rintro e w9 ⟨rfl, hx9⟩; (have hk9 := HK.out.ext hx9); (have hg9 := hk9.game); (have fz9 := blk_froz hg9); (have c135 := (blk_cell hg9 135).trans (rg_135 ..)); (have c136 := (blk_cell hg9 136).trans (rg_136 ..)); (have hk10 := hk9.set (.inl rfl) 0 0); (have hp10 := hk10.pos); clear hk9 hg9)
      | (go_at_call 126; (with_reducible refine (hDO _).mono ?_); rintro e w11 ⟨rfl, hx11⟩)
      | (go_at_call 125; (with_reducible refine (hDD _).mono ?_); rintro e w12 ⟨rfl, hx12⟩; (have hp12 := (hk10.ext (hx11.trans hx12)).pos))
      | (go_at_call 127; (with_reducible refine (hSV _).mono ?_); rintro e w13 ⟨rfl, hx13⟩; (have hk13 := hk10.ext (hx11.trans (hx12.trans hx13))); (have hg13 := hk13.game); (have fz13 := blk_froz hg13); (have d135 := (blk_cell hg13 135).trans (rg_135 ..)); (have d136 := (blk_cell hg13 136).trans (rg_136 ..)); (have HK13 := hid hk13); clear hk13 hg13))
     go_end0
     exact ⟨rfl, HD.out _ _ _ (HK13.out.set (.inl rfl) 3 5) HR.out HY.out⟩
  ·rw [hd] at hDD
   have HY := hid (show (3 : Int) = outY N p by unfold outY; rw [if_neg (by simp [HE.out]), if_pos hd])
   have HR := hid (show (3 : Int) = outR N p by unfold outR; rw [if_neg (by simp [HE.out]), if_neg (by rw [← HY.out]; omega)])
   clear hd hSV
   generalize lfC (leftUp p 64) = LC at *
   go_wp2_with (first
    | (go_at_call 124; (with_reducible refine (hOf _).mono ?_); rintro e w9 ⟨rfl, hx9⟩; (have hk9 := HK.out.ext hx9); (have hg9 := hk9.game); (have fz9 := blk_froz hg9); (have c135 := (blk_cell hg9 135).trans (rg_135 ..)); (have c136 := (blk_cell hg9 136).trans (rg_136 ..)); (have hk10 := hk9.set (.inl rfl) 0 0); (have hp10 := hk10.pos); clear hk9 hg9)
    | (go_at_call 126; (with_reducible refine (hDO _).mono ?_); rintro e w11 ⟨rfl, hx11⟩)
    | (go_at_call 125; (with_reducible refine (hDD _).mono ?_); rintro e w12 ⟨rfl, hx12⟩; (have hk12 := hk10.ext (hx11.trans hx12)); (have hg12 := hk12.game); (have fz12 := blk_froz hg12); (have d135 := (blk_cell hg12 135).trans (rg_135 ..)); (have d136 := (blk_cell hg12 136).trans (rg_136 ..)); (have HK12 := hid hk12); clear hk12 hg12))
   go_end0
   exact ⟨rfl, HD.out _ _ _ (HK12.out.set (.inl rfl) 3 3) HR.out HY.out⟩
 ·have hb : (endY p == 0) = false := by simpa using he
  have HR := hid (show endR p = outR N p by unfold outR; rw [if_pos he])
  have HY := hid (show endY p = outY N p by unfold outY; rw [if_pos he])
  clear he hDO hDD hSV
  generalize endR p = r1 at *
  generalize endY p = y1 at *
  go_wp2_with (go_at_call 124; (with_reducible refine (hOf _).mono ?_); rintro e w9 ⟨rfl, hx9⟩; (have hg9 := (HK.out.ext hx9).game); (have fz9 := blk_froz hg9); (have c135 := (blk_cell hg9 135).trans (rg_135 ..)); (have c136 := (blk_cell hg9 136).trans (rg_136 ..)))
  refine bodyPost_ret (results_none rfl _ _ _) rfl ?_
  exact ⟨rfl, HD.out _ _ _ ((HK.out.ext hx9).set (.inl rfl) r1 y1) HR.out HY.out⟩
end Go.Proofs.YtdmgimfgoajmjaaGreatDoor
