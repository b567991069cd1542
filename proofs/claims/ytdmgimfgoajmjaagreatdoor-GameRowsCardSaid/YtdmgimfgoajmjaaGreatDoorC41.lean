/- The program's game begins; it plays moves. -/
import Derived.Test.YtdmgimfgoajmjaaGreatDoorC39
import Derived.Test.YtdmgimfgoajmjaaGreatDoorC34
import Derived.Test.YtdmgimfgoajmjaaGreatDoorC28
import Derived.Test.YtdmgimfgoajmjaaGreatDoorC35
import Derived.Test.YtdmgimfgoajmjaaGreatDoorC40
import Derived.Test.YtdmgimfgoajmjaaGreatDoorC32
set_option linter.unusedVariables false
set_option linter.unusedSimpArgs false
set_option maxRecDepth 100000
set_option maxHeartbeats 4000000
namespace Go.Proofs.YtdmgimfgoajmjaaGreatDoor
open Go.RowKit Go.Maps
theorem rng_pos {p : Pos} (h : positionB p = true) : Rng p := by
 have H := parts_iff.1 h
 obtain ⟨hok, -, -, ht⟩ := pieces_iff.1 H.pieces
 have hc := H.castles
 unfold castlesB at hc
 rw [Bool.and_eq_true, decide_eq_true_eq] at hc
 have ho := H.over
 unfold overB at ho
 refine ⟨fun i hi => ?_, fun i hi => ?_, ?_, ?_, ?_⟩
 ·have := okSq_iff.1 (hok i hi); unfold inI; omega
 ·have := okSq_iff.1 (hok i hi); unfold inI; omega
 ·unfold inI; omega
 ·unfold inI; omega
 ·unfold inI
  simp only [Bool.or_eq_true, Bool.and_eq_true, decide_eq_true_eq] at ho
  rcases ho with ho | ⟨⟨⟨⟨ho, -⟩, -⟩, -⟩, -⟩
  ·omega
  ·unfold rankOf overRank at ho
   split at ho
   ·omega
   ·split at ho <;> omega
def zeroS : GS := ⟨Pos.zero, [], [], 0, 0⟩
def fromS (p : Pos) : GS := comeS zeroS p
theorem foot_new {g b m B : Nat} (hg : B ≤ g) (hb : B ≤ b) (hm : B ≤ m) : ∀ k, footG g b m (.slice none 0 0) k → B ≤ k := by
 rintro k (rfl | rfl | rfl | e)
 ·exact hg
 ·exact hb
 ·exact hm
 ·cases e
theorem FromG_no (p : Pos) (w : World) (hp : positionB p = false) : Calls Tryz.prog 40 #[.agg (posCells p)] w (Ret (.tuple #[.pointer none, .int .i64 2]) w) := by
 have hPO : ∀ W, Calls Tryz.prog 28 #[.agg (posCells p)] W (Ret (.bool (positionB p)) W) := fun W => Position_any p W
 rw [hp] at hPO
 clear hp
 go_enter Tryz.func40, Tryz.ntmps40
 go_wp2_with (go_at_call 28; (with_reducible refine (hPO _).mono ?_); rintro e w1 ⟨rfl, hx1⟩)
 go_ret2
 exact Ret.mk' rfl (Ext.trans (Ext.auto) hx1)
theorem FromG_yes (p : Pos) (w : World) (hp : positionB p = true) (ht : Tab10 w.heap.size w) :
 Calls Tryz.prog 40 #[.agg (posCells p)] w (fun e w' => ∃ g b m, e = .returned (.tuple #[.pointer (some ⟨g, 0, none⟩), .int .i64 0]) ∧ PG g b m (.slice none 0 0) (fromS p) w' ∧ (∀ k, footG g b m (.slice none 0 0) k → w.heap.size ≤ k) ∧ Ext w w') := by
 have hr := rng_pos hp
 have hPO : ∀ W, Calls Tryz.prog 28 #[.agg (posCells p)] W (Ret (.bool (positionB p)) W) := fun W => Position_any p W
 rw [hp] at hPO
 clear hp
 have hE0 : Ext w (w.alloc (.cells (posCells p) 30)) := Ext.alloc (Ext.refl w) _
 have hN := fun W (h : Ext w W) => New_any (.slice none 0 0) [] W (.inl ⟨⟨_, _, rfl⟩, rfl⟩) (by simp) (by simp) (ht.up h)
 go_enter Tryz.func40, Tryz.ntmps40
 go_upto_region 3 with (go_at_call 28; (with_reducible refine (hPO _).mono ?_); rintro e w1 ⟨rfl, hx1⟩; (have hp1 := (hx1.blk w.heap.size (by simp)).trans (blk_alloc_at w (.cells (posCells p) 30) _ rfl)))
 have hE1 := hE0.trans hx1
 have hN1 := hN w1 hE1
 clear hN
 go_upto_region 4 with (go_at_call 13; (with_reducible refine hN1.mono ?_); rintro e w2 ⟨b, m, D0, rfl, lb, lm, hbm, hb2, hcn, hgd, hx2⟩)
 have hE2 := hE1.trans hx2
 have l1 := hE1.le
 have l2 := hx2.le
 have hx3 : Ext w2 (w2.alloc (.cells (gmC (.pointer (some ⟨b, 0, none⟩)) Pos.zero (.slice none 0 0) 0 0) 142)) := Ext.alloc (Ext.refl _) _
 have hpg : PG w2.heap.size b m (.slice none 0 0) zeroS (w2.alloc (.cells (gmC (.pointer (some ⟨b, 0, none⟩)) Pos.zero (.slice none 0 0) 0 0) 142)) :=
  ⟨blk_alloc_at _ _ _ rfl, (hx3.blk _ (blk_lt hb2)).trans hb2, ⟨D0, hcn.ext hx3, hgd⟩, World.ownsRow_nil _ _ _ _⟩
 have hp3 := ((hx2.trans hx3).blk _ (blk_lt hp1)).trans hp1
 have hC := come_any w2.heap.size b m (.slice none 0 0) zeroS p w.heap.size _ hpg hr (by omega) (by omega) (ht.on (hE2.trans hx3)) (by simp [zeroS])
 clear hpg hcn hgd hb2 hN1
 go_wp2_with (go_at_call 82; (with_reducible refine hC.mono ?_); rintro e w4 ⟨rfl, hp4, hf4⟩)
 go_ret2
 exact ⟨_, b, m, rfl, hp4, foot_new (by omega) (by omega) (by omega), hf4.toExt (hE2.trans hx3) (by rintro k (rfl | rfl) <;> omega)⟩
def stepS (s : GS) (m : Mv) : GS := comeS { s with ms := s.ms ++ [m] } (movedP s.at_ m)
def playG : GS → List Mv → GS × Int
 | s, [] => (s, 0)
 | s, m :: r => if s.res ≠ 0 then (s, 9) else if 8192 ≤ s.ms.length then (s, 3) else if isB s.at_ m = true then playG (stepS s m) r else (s, 8)
abbrev MSpl.T (g tb : Nat) (cs : Array Value) (x : Mv) (w0 W : World) : Prop := Ext w0 W ∧ blk W g = some (.cells cs 142 (0, 0)) ∧ W.cell? ⟨tb, 0, none⟩ = some (.int .i64 x.fr) ∧ W.cell? ⟨tb, 1, none⟩ = some (.int .i64 x.to_) ∧ W.cell? ⟨tb, 2, none⟩ = some (.int .i64 x.be) ∧ blk W tb = some (.cells (mvC x) 51 (0, 0))
def MSpl (g tb : Nat) (cs : Array Value) (x : Mv) (w0 W : World) : Prop := MSpl.T g tb cs x w0 W
theorem MSpl.u {g tb cs x w0} (W) (h : MSpl g tb cs x w0 W) : MSpl.T g tb cs x w0 W := h
theorem MSpl.mk' {g tb : Nat} {cs : Array Value} {x : Mv} {w0 W : World} (h1 : Ext w0 W) (h2 : blk W g = some (.cells cs 142 (0, 0))) (h3 : blk W tb = some (.cells (mvC x) 51 (0, 0))) : MSpl g tb cs x w0 W := ⟨h1, h2, blk_cell h3 0, blk_cell h3 1, blk_cell h3 2, h3⟩
theorem MSpl.ext {g tb : Nat} {cs : Array Value} {x : Mv} {w0 W W' : World} (h : MSpl g tb cs x w0 W) (hx : Ext W W') : MSpl g tb cs x w0 W' :=
 MSpl.mk' (h.1.trans hx) ((hx.blk _ (blk_lt h.2.1)).trans h.2.1) ((hx.blk _ (blk_lt h.2.2.2.2.2)).trans h.2.2.2.2.2)
theorem MSpl.row {g tb : Nat} {cs : Array Value} {x : Mv} {w0 W : World} (h : MSpl g tb cs x w0 W) {n : Nat} (hn : w0.heap.size ≤ n) (hg : g < w0.heap.size) (ht : tb < w0.heap.size) (ds : Array Value) : MSpl g tb cs x w0 (W.setRow n ds) :=
 MSpl.mk' (Ext.setRow h.1 hn ds) ((setRow_blk_past (by omega)).trans h.2.1) ((setRow_blk_past (by omega)).trans h.2.2.2.2.2)
abbrev MSap.T (g tb : Nat) (cs : Array Value) (mv : Value) (x : Mv) (w0 W : World) : Prop := Fr (fun k => mv.ownBlock = some k) w0 W ∧ blk W g = some (.cells cs 142 (0, 0)) ∧ W.cell? ⟨g, 134, none⟩ = some mv ∧ W.cell? ⟨tb, 0, none⟩ = some (.int .i64 x.fr) ∧ W.cell? ⟨tb, 1, none⟩ = some (.int .i64 x.to_) ∧ W.cell? ⟨tb, 2, none⟩ = some (.int .i64 x.be) ∧ blk W tb = some (.cells (mvC x) 51 (0, 0))
def MSap (g tb : Nat) (cs : Array Value) (mv : Value) (x : Mv) (w0 W : World) : Prop := MSap.T g tb cs mv x w0 W
theorem MSap.u {g tb cs mv x w0} (W) (h : MSap g tb cs mv x w0 W) : MSap.T g tb cs mv x w0 W := h
theorem MSap.mk' {g tb : Nat} {cs : Array Value} {mv : Value} {x : Mv} {w0 W : World} (h1 : Fr (fun k => mv.ownBlock = some k) w0 W) (h2 : blk W g = some (.cells cs 142 (0, 0))) (hv : cs[134]? = some mv) (h3 : blk W tb = some (.cells (mvC x) 51 (0, 0))) : MSap g tb cs mv x w0 W := ⟨h1, h2, (blk_cell h2 134).trans hv, blk_cell h3 0, blk_cell h3 1, blk_cell h3 2, h3⟩
theorem MSap.ext {g tb : Nat} {cs : Array Value} {mv : Value} {x : Mv} {w0 W W' : World} (hv : cs[134]? = some mv) (h : MSap g tb cs mv x w0 W) (hx : Ext W W') : MSap g tb cs mv x w0 W' :=
 MSap.mk' (h.1.exts hx) ((hx.blk _ (blk_lt h.2.1)).trans h.2.1) hv ((hx.blk _ (blk_lt h.2.2.2.2.2.2)).trans h.2.2.2.2.2.2)
theorem PG.app {g b m : Nat} {mv mv' : Value} {s : GS} {W W' : World} {x : Mv} (h : PG g b m mv s W) (hf : Fr (fun k => mv.ownBlock = some k) W W') (ho : W'.ownsRow 0 51 3 mv' (s.ms ++ [x]).length (mvsC (s.ms ++ [x]))) :
 PG g b m mv' { s with ms := s.ms ++ [x] } (W'.setCell ⟨g, 134, none⟩ mv') := by
 have n1 := own_ne h.own h.game (by decide)
 have n2 := own_ne h.own h.book (by decide)
 have hg' := (hf.keep _ (blk_lt h.game) n1).trans h.game
 have hb' := (hf.keep _ (blk_lt h.book) n2).trans h.book
 have hm' : CntG W' m s.ps := h.cnt.keep (hf.keep _ h.cnt.lt fun e => by
  obtain ⟨-, cs, fr, h1⟩ := own_type h.own m e
  exact h.cnt.ne h1 rfl)
 have k3 := blk_ne3 hg' hb' (by decide)
 have k5 := own_ne ho hg' (by decide)
 exact ⟨by rw [blk_setCell_same _ _ _ _ _ _ hg', gm_set134], (blk_setCell_past _ _ _ _ k3).trans hb', hm'.keep (blk_setCell_past _ _ _ _ (hm'.ne hg').symm), own_blocks ho fun k hk => blk_setCell_past _ _ _ _ fun e => k5 (by rw [hk, e])⟩
def SlMv (w : World) (v : Value) (ms : List Mv) : Prop := (∃ a cap, v = .slice a ms.length cap) ∧ (0 < ms.length → Sl w 3 v ms.length (mvsC ms))
theorem Sl.mv {w : World} {v : Value} {ms : List Mv} (h : Sl w 3 v ms.length (mvsC ms)) : SlMv w v ms := ⟨h.form, fun _ => h⟩
theorem playG_step {s : GS} {l : List Mv} {k : Nat} {x : Mv} (hx : l[k]? = some x) : playG s (l.drop k) = if s.res ≠ 0 then (s, 9) else if 8192 ≤ s.ms.length then (s, 3) else if isB s.at_ x = true then playG (stepS s x) (l.drop (k + 1)) else (s, 8) := by
 have hk := (List.getElem?_eq_some_iff.1 hx).1
 have e := List.drop_eq_getElem_cons hk
 rw [(List.getElem?_eq_some_iff.1 hx).2] at e
 rw [e, playG]
theorem playR_yes {q : Pos} {m : Mv} (hq : positionB q = true) (h : isB q m = true) : playR q [m] = (movedP q m, 0) := play_one hq (isB_legal hq h)
theorem playR_no {q : Pos} {m : Mv} (hq : positionB q = true) (h : isB q m = false) : (playR q [m]).2 = 8 := by
 unfold playR
 rw [if_pos hq]
 unfold playGo
 rw [h]
 rfl
theorem Sl.stay {w w' : World} {n : Nat} {v : Value} {cs : List Value} {size : Nat} (h : Sl w size v n cs) (hk : ∀ gb off c, v = .slice (some ⟨gb, off, none⟩) n c → blk w' gb = blk w gb) (hs : w.heap.size ≤ w'.heap.size) : Sl w' size v n cs := by
 refine ⟨h.1, ?_⟩
 rcases h.2 with h | ⟨b, off, cap, hv, hb, hc⟩
 ·exact .inl h
 ·exact .inr ⟨b, off, cap, hv, Nat.lt_of_lt_of_le hb hs, fun j u hu => by
   have e : w'.cell? ⟨b, off + j, none⟩ = w.cell? ⟨b, off + j, none⟩ := World.cell?_of_block (hk b off cap hv)
   exact e.trans (hc j u hu)⟩
theorem PlayG_any (g b m B : Nat) (mv : Value) (s : GS) (l : List Mv) (v : Value) (w : World) (h : PG g b m mv s w) (hok : positionB s.at_ = true) (hS : SlMv w v l) (hd : 0 < l.length → ∀ gb off c, v = .slice (some ⟨gb, off, none⟩) l.length c → ¬ footG g b m mv gb)
 (hB : ∀ k, footG g b m mv k → B ≤ k) (ht : Tab10 B w) (hn : s.ps.length + l.length ≤ 800) :
 Calls Tryz.prog 42 #[.pointer (some ⟨g, 0, none⟩), v] w (fun e w' => e = .returned (.int .i64 (playG s l).2) ∧ ∃ mv', PG g b m mv' (playG s l).1 w' ∧ Fr (footG g b m mv) w w' ∧ (∀ k, footG g b m mv' k → footG g b m mv k ∨ w.heap.size ≤ k) ∧ positionB (playG s l).1.at_ = true) := by
 obtain ⟨a, cap, rfl⟩ := hS.1
 have hT := thereG_any h
 have HP := hid h
 have HS := hid hS
 have HD := hid hd
 have HB := hid hB
 have HT := hid ht
 have HOK := hid hok
 have hgl := blk_lt h.game
 clear h hS hd hB ht hok
 go_enter Tryz.func42, Tryz.ntmps42
 go_upto_block 0 with (go_at_call 83; (with_reducible refine hT.mono ?_); rintro e w1 ⟨rfl, hx1⟩)
 go_wp2
 go_loopw [15] (fun i wr => ∃ (k : Nat) (s' : GS) (mv' : Value), i = .int .i64 k ∧ k ≤ l.length ∧ playG s' (l.drop k) = playG s l ∧ PG g b m mv' s' wr ∧ positionB s'.at_ = true ∧ Fr (footG g b m mv) w wr ∧ (∀ j, footG g b m mv' j → footG g b m mv j ∨ w.heap.size ≤ j) ∧ s'.ps.length + l.length ≤ 800 + k) (fun i _ => l.length - (intOf i).toNat)
 case atStart => exact ⟨0, s, mv, rfl, by omega, rfl, HP.out.ext hx1, HOK.out, Fr.ext hx1, fun j h => .inl h, by omega⟩
 case round =>
  obtain ⟨k, s', mv', rfl, hk, hpl, hpg, hok, hfr, hgr, hlen⟩ := hrel
  by_cases hlt : k < l.length
  ·obtain ⟨x, hx⟩ : ∃ x, l[k]? = some x := ⟨_, List.getElem?_eq_getElem hlt⟩
   rw [playG_step hx] at hpl
   have hSr : Sl wr 3 (.slice a l.length cap) l.length (mvsC l) := (HS.out.2 (by omega)).stay (fun gb off c e => hfr.keep _ (by
    rcases (HS.out.2 (by omega)).2 with ⟨h1, h2⟩ | ⟨b', o', c', h1, h2, h3⟩
    ·omega
    ·rw [e] at h1
     injection h1 with h1
     injection h1 with h1
     injection h1 with h1
     omega) (HD.out (by omega) gb off c e)) hfr.size
   obtain ⟨gv, ov, rfl, hgv, hcv⟩ := hSr.pos (by omega)
   have c0 := hcv (k * 3) _ (mvsC_at hx 0 (by omega))
   have c1 := hcv (k * 3 + 1) _ (mvsC_at hx 1 (by omega))
   have c2 := hcv (k * 3 + 2) _ (mvsC_at hx 2 (by omega))
   simp only [mvE, List.getElem!_cons_zero, List.getElem!_cons_succ] at c0 c1 c2
   rw [← Nat.add_assoc] at c1 c2
   have HPL := hid hpl
   have HPG := hid hpg
   have HOK' := hid hok
   have HFR := hid hfr
   have HGR := hid hgr
   clear hx hcv hSr hpl hpg hok hfr hgr
   go_upto_region 6 with (fail)
   have hEt : Ext wr (wr.alloc (.cells #[.int .i64 x.fr, .int .i64 x.to_, .int .i64 x.be] 51)) := Ext.alloc (Ext.refl _) _
   refine world_cut (fun W => PG g b m mv' s' W ∧ blk W wr.heap.size = some (.cells (mvC x) 51 (0, 0)) ∧ Ext wr W) ⟨HPG.out.ext hEt, blk_alloc_at _ _ _ rfl, hEt⟩ ?_
   clear hEt c0 c1 c2
   rintro W2 ⟨hpg, htb, hE2⟩
   have hO := openG_any hpg
   have hlr : wr.heap.size < W2.heap.size := blk_lt htb
   have hFr2 : Fr (footG g b m mv) w W2 := HFR.out.exts hE2
   have HFR2 := hid hFr2
   clear hFr2
   by_cases h0 : s'.res = 0
   ·rw [show openS s' = 0 from if_pos h0] at hO
    rw [if_neg (by simp [h0])] at HPL
    obtain ⟨am, cm, rfl⟩ := (Sl.of_own hpg.own).form
    by_cases h8 : 8192 ≤ s'.ms.length
    ·rw [if_pos h8] at HPL
     have hg2 := hpg.game
     have HP2 := hid hpg
     clear hpg htb
     go_wp2_with (go_at_call 84; (with_reducible refine hO.mono ?_); rintro e w3 ⟨rfl, hx3⟩; (have d1 := (blk_cell ((hx3.blk _ (blk_lt hg2)).trans hg2) 134).trans (gm_134 ..)))
     go_ret
     exact ⟨by rw [← HPL.out]; rfl, _, by rw [← HPL.out]; exact HP2.out.ext hx3, HFR2.out.exts hx3, HGR.out, by rw [← HPL.out]; exact HOK'.out⟩
    ·rw [if_neg h8] at HPL
     have hg2 := hpg.game
     have HP2 := hid hpg
     clear hpg
     go_upto_region 11 with (go_at_call 84; (with_reducible refine hO.mono ?_); rintro e w3 ⟨rfl, hx3⟩; (have d1 := (blk_cell ((hx3.blk _ (blk_lt hg2)).trans hg2) 134).trans (gm_134 ..)))
     have hg3 := (hx3.blk _ (blk_lt hg2)).trans hg2
     have ht3 := (hx3.blk _ (blk_lt htb)).trans htb
     have hP3 := HP2.out.ext hx3
     have HP3 := hid hP3
     have hF3 := HFR2.out.exts hx3
     have HF3 := hid hF3
     have hlg3 := blk_lt hg3
     have hlt3 := blk_lt ht3
     clear hO d1 hg2 htb HP2 hP3 hF3
     have hM0 : MSpl g wr.heap.size (gmC (.pointer (some ⟨b, 0, none⟩)) s'.at_ (.slice am s'.ms.length cm) s'.res s'.why) x w3 w3.drew := MSpl.mk' (Ext.refl _).drew hg3 ht3
     cases hi : isB s'.at_ x
     ·have hPY := playR_no HOK'.out hi
      rw [hi, if_neg (by simp)] at HPL
      have HPY : ∀ (W : World) (n' : Nat), blk W n' = some (.cells (mvC x) 51 (0, 0)) → ∃ q9, Calls Tryz.prog 30 #[.agg (posCells s'.at_), .slice (some ⟨n', 0, none⟩) 1 1] W (Ret (.tuple #[.agg (posCells q9), .int .i64 8]) W) := fun W n' hb' => by
       have := Play_any s'.at_ [x] (.slice (some ⟨n', 0, none⟩) 1 1) W (Sl.of_blk hb' 3 1 rfl 1) (by simp)
       rw [hPY] at this
       exact ⟨_, this⟩
      clear hPY hi
      go_cut [8, 9] (fun v8 v9 wx => v9 = .int .i64 8 ∧ Ext w3 wx)
      case first =>
       clear HS HD HB HT HOK HPG HOK' HFR HGR HFR2 HP3 HF3 HPL hlen
       refine held_row (S := MSpl g wr.heap.size (gmC (.pointer (some ⟨b, 0, none⟩)) s'.at_ (.slice am s'.ms.length cm) s'.res s'.why) x w3) (by kernel_rfl) (hM0) (fun W0 hH => ?_)
       refine hTz MSpl.u 0 ?_; (try go_frame)
       refine hTz MSpl.u 1 ?_; (try go_frame)
       refine hTz MSpl.u 2 ?_; (try go_frame)
       refine hTz MSpl.u 3 ?_; (try go_frame)
       refine hTz MSpl.u 4 ?_; (try go_frame)
       refine hRy [5, 10] (hCp (fun K hK => ?_) (hCp (fun K hK => ?_) AllReadyH.nil))
       ·go_simp
        obtain ⟨n5, W5, e5, f5, hb5, hx5⟩ := new_blk _ (.cells #[.int .i64 x.fr, .int .i64 x.to_, .int .i64 x.be] 51)
        have hH5 := hH.ext hx5
        rw [e5, f5]
        have hb5 : blk W5 n5 = some (.cells (mvC x) 51 (0, 0)) := hb5
        try have hz10 := (hx5.blk _ (blk_lt hz10)).trans hz10
        refine hK.out _ _ (by first | exact hH10 | exact hH5 | exact hH.ext (by assumption) | exact hH.row hle10 hlg3 hlt3 _) (fun hH => ?_); clear hK; (try go_frame)
        refine hRy [6, 10] (hCp (fun K hK => ?_) (hCp (fun K hK => ?_) AllReadyH.nil))
        ·go_simp
         obtain ⟨q9, hPY9⟩ := HPY _ n5 hb5
         refine hPY9.mono ?_
         rintro e w9 ⟨rfl, hx9⟩
         try have hz10 := (hx9.blk _ (blk_lt hz10)).trans hz10
         refine hK.out _ _ (by first | exact hH10 | exact hH5 | exact hH.ext (by assumption) | exact hH.row hle10 hlg3 hlt3 _) (fun hH => ?_); clear hK; (try go_frame)
         refine hTz MSpl.u 7 ?_; (try go_frame)
         refine hTz MSpl.u 8 ?_; (try go_frame)
         refine hTz MSpl.u 9 ?_; (try go_frame)
         refine hRy [10] (hCp (fun K hK => ?_) AllReadyH.nil); go_simp
         obtain ⟨n10, W10, e10, f10, hz10, hx10⟩ := new_blk _ (.cells (posCells Pos.zero) 30)
         have hle10 := Nat.le_trans hH.1.le (Nat.le_of_eq e10)
         have hH10 := hH.ext hx10
         rw [e10, f10]
         try have hb5 := (hx10.blk _ (blk_lt hb5)).trans hb5
         refine hK.out _ _ (by first | exact hH10 | exact hH5 | exact hH.ext (by assumption) | exact hH.row hle10 hlg3 hlt3 _) (fun hH => ?_); clear hK; (try go_frame)
         refine hRy [11] (hCp (fun K hK => ?_) AllReadyH.nil); go_simp
         skip
         refine hK.out _ _ (by first | exact hH10 | exact hH5 | exact hH.ext (by assumption) | exact hH.row hle10 hlg3 hlt3 _) (fun hH => ?_); clear hK; (try go_frame)
         refine hTz MSpl.u 12 ?_; (try go_frame)
         refine wpAnyH_done (by kernel_rfl) ?_ _
         go_wp2
         go_meet
         case rel => exact ⟨rfl, hH.1⟩
        ·go_simp
         obtain ⟨n10, W10, e10, f10, hz10, hx10⟩ := new_blk _ (.cells (posCells Pos.zero) 30)
         have hle10 := Nat.le_trans hH.1.le (Nat.le_of_eq e10)
         have hH10 := hH.ext hx10
         rw [e10, f10]
         try have hb5 := (hx10.blk _ (blk_lt hb5)).trans hb5
         refine hK.out _ _ (by first | exact hH10 | exact hH5 | exact hH.ext (by assumption) | exact hH.row hle10 hlg3 hlt3 _) (fun hH => ?_); clear hK; (try go_frame)
         refine hRy [6] (hCp (fun K hK => ?_) AllReadyH.nil); go_simp
         obtain ⟨q9, hPY9⟩ := HPY _ n5 hb5
         refine hPY9.mono ?_
         rintro e w9 ⟨rfl, hx9⟩
         try have hz10 := (hx9.blk _ (blk_lt hz10)).trans hz10
         refine hK.out _ _ (by first | exact hH10 | exact hH5 | exact hH.ext (by assumption) | exact hH.row hle10 hlg3 hlt3 _) (fun hH => ?_); clear hK; (try go_frame)
         refine hTz MSpl.u 7 ?_; (try go_frame)
         refine hTz MSpl.u 8 ?_; (try go_frame)
         refine hTz MSpl.u 9 ?_; (try go_frame)
         refine hRy [11] (hCp (fun K hK => ?_) AllReadyH.nil); go_simp
         skip
         refine hK.out _ _ (by first | exact hH10 | exact hH5 | exact hH.ext (by assumption) | exact hH.row hle10 hlg3 hlt3 _) (fun hH => ?_); clear hK; (try go_frame)
         refine hTz MSpl.u 12 ?_; (try go_frame)
         refine wpAnyH_done (by kernel_rfl) ?_ _
         go_wp2
         go_meet
         case rel => exact ⟨rfl, hH.1⟩
       ·go_simp
        obtain ⟨n10, W10, e10, f10, hz10, hx10⟩ := new_blk _ (.cells (posCells Pos.zero) 30)
        have hle10 := Nat.le_trans hH.1.le (Nat.le_of_eq e10)
        have hH10 := hH.ext hx10
        rw [e10, f10]
        try have hb5 := (hx10.blk _ (blk_lt hb5)).trans hb5
        refine hK.out _ _ (by first | exact hH10 | exact hH5 | exact hH.ext (by assumption) | exact hH.row hle10 hlg3 hlt3 _) (fun hH => ?_); clear hK; (try go_frame)
        refine hRy [5] (hCp (fun K hK => ?_) AllReadyH.nil); go_simp
        obtain ⟨n5, W5, e5, f5, hb5, hx5⟩ := new_blk _ (.cells #[.int .i64 x.fr, .int .i64 x.to_, .int .i64 x.be] 51)
        have hH5 := hH.ext hx5
        rw [e5, f5]
        have hb5 : blk W5 n5 = some (.cells (mvC x) 51 (0, 0)) := hb5
        try have hz10 := (hx5.blk _ (blk_lt hz10)).trans hz10
        refine hK.out _ _ (by first | exact hH10 | exact hH5 | exact hH.ext (by assumption) | exact hH.row hle10 hlg3 hlt3 _) (fun hH => ?_); clear hK; (try go_frame)
        refine hRy [6] (hCp (fun K hK => ?_) AllReadyH.nil); go_simp
        obtain ⟨q9, hPY9⟩ := HPY _ n5 hb5
        refine hPY9.mono ?_
        rintro e w9 ⟨rfl, hx9⟩
        try have hz10 := (hx9.blk _ (blk_lt hz10)).trans hz10
        refine hK.out _ _ (by first | exact hH10 | exact hH5 | exact hH.ext (by assumption) | exact hH.row hle10 hlg3 hlt3 _) (fun hH => ?_); clear hK; (try go_frame)
        refine hTz MSpl.u 7 ?_; (try go_frame)
        refine hTz MSpl.u 8 ?_; (try go_frame)
        refine hTz MSpl.u 9 ?_; (try go_frame)
        refine hRy [11] (hCp (fun K hK => ?_) AllReadyH.nil); go_simp
        skip
        refine hK.out _ _ (by first | exact hH10 | exact hH5 | exact hH.ext (by assumption) | exact hH.row hle10 hlg3 hlt3 _) (fun hH => ?_); clear hK; (try go_frame)
        refine hTz MSpl.u 12 ?_; (try go_frame)
        refine wpAnyH_done (by kernel_rfl) ?_ _
        go_wp2
        go_meet
        case rel => exact ⟨rfl, hH.1⟩
      case rest =>
       obtain ⟨rfl, hx4⟩ := hcut
       clear hM0 HPY
       go_wp2
       go_ret
       exact ⟨by rw [← HPL.out]; rfl, _, by rw [← HPL.out]; exact HP3.out.ext hx4, HF3.out.exts hx4, HGR.out, by rw [← HPL.out]; exact HOK'.out⟩
     ·have hPY := playR_yes HOK'.out hi
      have hkp := legal_keeps HOK'.out (isB_legal HOK'.out hi)
      rw [hi, if_pos rfl] at HPL
      have HPY : ∀ (W : World) (n' : Nat), blk W n' = some (.cells (mvC x) 51 (0, 0)) → Calls Tryz.prog 30 #[.agg (posCells s'.at_), .slice (some ⟨n', 0, none⟩) 1 1] W (Ret (.tuple #[.agg (posCells (movedP s'.at_ x)), .int .i64 0]) W) := fun W n' hb' => by
       have := Play_any s'.at_ [x] (.slice (some ⟨n', 0, none⟩) 1 1) W (Sl.of_blk hb' 3 1 rfl 1) (by simp)
       rw [hPY] at this
       exact this
      clear hPY hi
      obtain ⟨q', hq'⟩ : ∃ q', movedP s'.at_ x = q' := ⟨_, rfl⟩
      rw [hq'] at hkp HPY
      have HQ := hid hq'
      clear hq'
      go_cut [8, 9] (fun v8 v9 wx => ∃ n, v8 = .pointer (some ⟨n, 0, none⟩) ∧ v9 = .int .i64 0 ∧ blk wx n = some (.cells (posCells q') 30 (0, 0)) ∧ w3.heap.size ≤ n ∧ Ext w3 wx)
      case first =>
       clear HS HD HB HT HOK HPG HOK' HFR HGR HFR2 HP3 HF3 HPL hlen HQ hkp
       refine held_row (S := MSpl g wr.heap.size (gmC (.pointer (some ⟨b, 0, none⟩)) s'.at_ (.slice am s'.ms.length cm) s'.res s'.why) x w3) (by kernel_rfl) (hM0) (fun W0 hH => ?_)
       refine hTz MSpl.u 0 ?_; (try go_frame)
       refine hTz MSpl.u 1 ?_; (try go_frame)
       refine hTz MSpl.u 2 ?_; (try go_frame)
       refine hTz MSpl.u 3 ?_; (try go_frame)
       refine hTz MSpl.u 4 ?_; (try go_frame)
       refine hRy [5, 10] (hCp (fun K hK => ?_) (hCp (fun K hK => ?_) AllReadyH.nil))
       ·go_simp
        obtain ⟨n5, W5, e5, f5, hb5, hx5⟩ := new_blk _ (.cells #[.int .i64 x.fr, .int .i64 x.to_, .int .i64 x.be] 51)
        have hH5 := hH.ext hx5
        rw [e5, f5]
        try have hz10 := (hx5.blk _ (blk_lt hz10)).trans hz10
        refine hK.out _ _ (by first | exact hH10 | exact hH5 | exact hH.ext (by assumption) | exact hH.row hle10 hlg3 hlt3 _) (fun hH => ?_); clear hK; (try go_frame)
        refine hRy [6, 10] (hCp (fun K hK => ?_) (hCp (fun K hK => ?_) AllReadyH.nil))
        ·go_simp
         refine (HPY _ _ hb5).mono ?_
         rintro e w9 ⟨rfl, hx9⟩
         try have hz10 := (hx9.blk _ (blk_lt hz10)).trans hz10
         refine hK.out _ _ (by first | exact hH10 | exact hH5 | exact hH.ext (by assumption) | exact hH.row hle10 hlg3 hlt3 _) (fun hH => ?_); clear hK; (try go_frame)
         refine hTz MSpl.u 7 ?_; (try go_frame)
         refine hTz MSpl.u 8 ?_; (try go_frame)
         refine hTz MSpl.u 9 ?_; (try go_frame)
         refine hRy [10] (hCp (fun K hK => ?_) AllReadyH.nil); go_simp
         obtain ⟨n10, W10, e10, f10, hz10, hx10⟩ := new_blk _ (.cells (posCells Pos.zero) 30)
         have hle10 := Nat.le_trans hH.1.le (Nat.le_of_eq e10)
         have hH10 := hH.ext hx10
         rw [e10, f10]
         try have hb5 := (hx10.blk _ (blk_lt hb5)).trans hb5
         refine hK.out _ _ (by first | exact hH10 | exact hH5 | exact hH.ext (by assumption) | exact hH.row hle10 hlg3 hlt3 _) (fun hH => ?_); clear hK; (try go_frame)
         refine hRy [11] (hCp (fun K hK => ?_) AllReadyH.nil); go_simp
         have hq11 := setRow_blk (cs := posCells q') hz10
         refine hK.out _ _ (by first | exact hH10 | exact hH5 | exact hH.ext (by assumption) | exact hH.row hle10 hlg3 hlt3 _) (fun hH => ?_); clear hK; (try go_frame)
         refine hTz MSpl.u 12 ?_; (try go_frame)
         refine wpAnyH_done (by kernel_rfl) ?_ _
         go_wp2
         go_meet
         case rel => exact ⟨n10, rfl, rfl, hq11, hle10, hH.1⟩
        ·go_simp
         obtain ⟨n10, W10, e10, f10, hz10, hx10⟩ := new_blk _ (.cells (posCells Pos.zero) 30)
         have hle10 := Nat.le_trans hH.1.le (Nat.le_of_eq e10)
         have hH10 := hH.ext hx10
         rw [e10, f10]
         try have hb5 := (hx10.blk _ (blk_lt hb5)).trans hb5
         refine hK.out _ _ (by first | exact hH10 | exact hH5 | exact hH.ext (by assumption) | exact hH.row hle10 hlg3 hlt3 _) (fun hH => ?_); clear hK; (try go_frame)
         refine hRy [6] (hCp (fun K hK => ?_) AllReadyH.nil); go_simp
         refine (HPY _ _ hb5).mono ?_
         rintro e w9 ⟨rfl, hx9⟩
         try have hz10 := (hx9.blk _ (blk_lt hz10)).trans hz10
         refine hK.out _ _ (by first | exact hH10 | exact hH5 | exact hH.ext (by assumption) | exact hH.row hle10 hlg3 hlt3 _) (fun hH => ?_); clear hK; (try go_frame)
         refine hTz MSpl.u 7 ?_; (try go_frame)
         refine hTz MSpl.u 8 ?_; (try go_frame)
         refine hTz MSpl.u 9 ?_; (try go_frame)
         refine hRy [11] (hCp (fun K hK => ?_) AllReadyH.nil); go_simp
         have hq11 := setRow_blk (cs := posCells q') hz10
         refine hK.out _ _ (by first | exact hH10 | exact hH5 | exact hH.ext (by assumption) | exact hH.row hle10 hlg3 hlt3 _) (fun hH => ?_); clear hK; (try go_frame)
         refine hTz MSpl.u 12 ?_; (try go_frame)
         refine wpAnyH_done (by kernel_rfl) ?_ _
         go_wp2
         go_meet
         case rel => exact ⟨n10, rfl, rfl, hq11, hle10, hH.1⟩
       ·go_simp
        obtain ⟨n10, W10, e10, f10, hz10, hx10⟩ := new_blk _ (.cells (posCells Pos.zero) 30)
        have hle10 := Nat.le_trans hH.1.le (Nat.le_of_eq e10)
        have hH10 := hH.ext hx10
        rw [e10, f10]
        try have hb5 := (hx10.blk _ (blk_lt hb5)).trans hb5
        refine hK.out _ _ (by first | exact hH10 | exact hH5 | exact hH.ext (by assumption) | exact hH.row hle10 hlg3 hlt3 _) (fun hH => ?_); clear hK; (try go_frame)
        refine hRy [5] (hCp (fun K hK => ?_) AllReadyH.nil); go_simp
        obtain ⟨n5, W5, e5, f5, hb5, hx5⟩ := new_blk _ (.cells #[.int .i64 x.fr, .int .i64 x.to_, .int .i64 x.be] 51)
        have hH5 := hH.ext hx5
        rw [e5, f5]
        try have hz10 := (hx5.blk _ (blk_lt hz10)).trans hz10
        refine hK.out _ _ (by first | exact hH10 | exact hH5 | exact hH.ext (by assumption) | exact hH.row hle10 hlg3 hlt3 _) (fun hH => ?_); clear hK; (try go_frame)
        refine hRy [6] (hCp (fun K hK => ?_) AllReadyH.nil); go_simp
        refine (HPY _ _ hb5).mono ?_
        rintro e w9 ⟨rfl, hx9⟩
        try have hz10 := (hx9.blk _ (blk_lt hz10)).trans hz10
        refine hK.out _ _ (by first | exact hH10 | exact hH5 | exact hH.ext (by assumption) | exact hH.row hle10 hlg3 hlt3 _) (fun hH => ?_); clear hK; (try go_frame)
        refine hTz MSpl.u 7 ?_; (try go_frame)
        refine hTz MSpl.u 8 ?_; (try go_frame)
        refine hTz MSpl.u 9 ?_; (try go_frame)
        refine hRy [11] (hCp (fun K hK => ?_) AllReadyH.nil); go_simp
        have hq11 := setRow_blk (cs := posCells q') hz10
        refine hK.out _ _ (by first | exact hH10 | exact hH5 | exact hH.ext (by assumption) | exact hH.row hle10 hlg3 hlt3 _) (fun hH => ?_); clear hK; (try go_frame)
        refine hTz MSpl.u 12 ?_; (try go_frame)
        refine wpAnyH_done (by kernel_rfl) ?_ _
        go_wp2
        go_meet
        case rel => exact ⟨n10, rfl, rfl, hq11, hle10, hH.1⟩
      case rest =>
       obtain ⟨n, rfl, rfl, hbn, hln, hx4⟩ := hcut
       clear hM0 HPY
       go_upto_region 14 with (fail)
       have hP4 := HP3.out.ext hx4
       have hF4 := HF3.out.exts hx4
       have hnw : w.heap.size ≤ n := Nat.le_trans HF3.out.size hln
       have hnf : ∀ k, footG g b m (.slice am s'.ms.length cm) k → k ≠ n := fun k hk => by have := HP3.out.foot_lt k hk; omega
       have ht4 := (hx4.blk _ (blk_lt ht3)).trans ht3
       have htn : wr.heap.size ≠ n := by omega
       have htf : ∀ k, footG g b m (.slice am s'.ms.length cm) k → k ≠ wr.heap.size := fun k hk => by have := HPG.out.foot_lt k hk; omega
       clear hg3 ht3 hlt3 hlg3 hlr hln hx4
       refine world_cut (fun W => PG g b m (.slice am s'.ms.length cm) s' W ∧ Fr (footG g b m mv) w W ∧ blk W wr.heap.size = some (.cells (mvC x) 51 (0, 0)) ∧ blk W n = some (.cells (posCells q') 30 (0, 0))) ⟨hP4, hF4, ht4, hbn⟩ ?_
       clear hP4 hF4 ht4 hbn
       rintro W4 ⟨hP4, hF4, ht4, hbn⟩
       have hg4 := hP4.game
       have hv4 := gm_134 (.pointer (some ⟨b, 0, none⟩)) s'.at_ (.slice am s'.ms.length cm) s'.res s'.why
       have HP4 := hid hP4
       have HF4 := hid hF4
       have hM0 : MSap g wr.heap.size (gmC (.pointer (some ⟨b, 0, none⟩)) s'.at_ (.slice am s'.ms.length cm) s'.res s'.why) (.slice am s'.ms.length cm) x W4 W4.drew := MSap.mk' (Fr.ext (Ext.refl _).drew) hg4 hv4 ht4
       have ho4 := own_ext hP4.own (Ext.refl W4).drew
       have hog : (Value.slice am s'.ms.length cm).ownBlock ≠ some g := own_ne hP4.own hg4 (by decide)
       have hot : (Value.slice am s'.ms.length cm).ownBlock ≠ some wr.heap.size := fun e => htf _ (.inr (.inr (.inr e))) rfl
       obtain ⟨i0, hi0, hz0, hz1, hz2⟩ := info_parts info_mv
       have hms8 : s'.ms.length ≤ 8191 := by omega
       clear hP4 hF4
       refine split_ini 8 (MSap g wr.heap.size (gmC (.pointer (some ⟨b, 0, none⟩)) s'.at_ (.slice am s'.ms.length cm) s'.res s'.why) (.slice am s'.ms.length cm) x W4) (fun W => W.ownsRow 0 51 3 (.slice am s'.ms.length cm) s'.ms.length (mvsC s'.ms)) (by kernel_rfl) (by kernel_rfl) (hM0) (ho4) (fun W0 hH hI => ?_)
       simp only [List.take_succ_cons, List.take_zero, List.drop_succ_cons, List.drop_zero]
       refine hTz MSap.u 0 ?_; (try go_frame)
       refine hTz MSap.u 1 ?_; (try go_frame)
       refine hTz MSap.u 2 ?_; (try go_frame)
       refine hTz MSap.u 3 ?_; (try go_frame)
       refine hTz MSap.u 4 ?_; (try go_frame)
       refine hTz MSap.u 5 ?_; (try go_frame)
       refine hRy [6] (hCp (fun K hK => ?_) AllReadyH.nil); go_simp
       obtain ⟨n6, W6, e6, f6, hb6, hx6⟩ := new_blk _ (.cells #[.int .i64 x.fr, .int .i64 x.to_, .int .i64 x.be] 51)
       have hH6 := hH.ext hv4 hx6
       rw [e6, f6]
       have hI := own_ext hI hx6
       refine hK.out _ _ (by first | exact hS7 | exact hH6) (fun hH => ?_); clear hK; (try go_frame)
       refine hRy [7] (hCp (fun K hK => ?_) AllReadyH.nil); rw [if_pos (show Region.wanted _ _ = true from rfl)]
       refine wp_append_far _ _ _ 45 rfl 0 51 i0 _ 3 24 Tryz.underlying45 hi0 hz0 hz1 hz2 rfl (by decide) _ _ _ rfl hI ⟨n6, 0, none⟩ 1 1 (mvsC [x]) rfl rfl (cells_row2 hb6) (mvs_one _) (by unfold maxLen; omega) (by omega) (Nat.zero_le _) (fun v' w10 hown10 hg10 hf10 => ?_)
       obtain ⟨ga, gc, rfl⟩ := (Sl.of_own hown10).form
       have hb10 := (hg10.block g (blk_lt hH.2.1) (fun e => hog e.symm)).trans hH.2.1
       have hS7 : MSap g wr.heap.size (gmC (.pointer (some ⟨b, 0, none⟩)) s'.at_ (.slice am s'.ms.length cm) s'.res s'.why) (.slice am s'.ms.length cm) x W4 w10 := MSap.mk' (hH.1.trans (Fr.grown (F := fun k => (Value.slice am s'.ms.length cm).ownBlock = some k) hg10 (fun k e => e)) (fun _ _ e => e)) hb10 hv4 ((hg10.block _ (blk_lt hH.2.2.2.2.2.2) (fun e => hot e.symm)).trans hH.2.2.2.2.2.2)
       have hle6 := Nat.le_trans hH.1.size (Nat.le_refl _)
       refine hK.out _ _ (by first | exact hS7 | exact hH6) (fun hH => ?_); clear hK; (try go_frame)
       refine wpAnyH_done (by kernel_rfl) ?_ _
       simp only [splitQ]
       have d134 := hH.2.2.1
       have fz := blk_froz hb10
       have hf10' : Fr (fun k => (Value.slice am s'.ms.length cm).ownBlock = some k) W4 w10 := hH.1
       have hown11 : w10.ownsRow 0 51 3 (.slice ga (s'.ms.length + 1) gc) (s'.ms ++ [x]).length (mvsC (s'.ms ++ [x])) := by rw [mvsC_append, List.length_append]; exact hown10
       have hP11 := HP4.out.app hf10' hown11
       have hb11 : blk (w10.setCell ⟨g, 134, none⟩ (.slice ga (s'.ms.length + 1) gc)) n = some (.cells (posCells q') 30 (0, 0)) := (blk_setCell_past _ _ _ _ (fun e => hnf g (.inl rfl) e.symm)).trans ((hf10'.keep n (blk_lt hbn) (fun e => hnf n (.inr (.inr (.inr e))) rfl)).trans hbn)
       have hF11 : Fr (footG g b m mv) w (w10.setCell ⟨g, 134, none⟩ (.slice ga (s'.ms.length + 1) gc)) := (HF4.out.trans hf10' (fun k hk e => (HGR.out k (.inr (.inr (.inr e)))).resolve_right (by omega))).set (fun _ => .inl rfl) _
       have hgrow : ∀ k, (Value.slice ga (s'.ms.length + 1) gc).ownBlock = some k → footG g b m mv k ∨ w.heap.size ≤ k := fun k e => (hf10 k e).elim (fun e => HGR.out k (.inr (.inr (.inr e)))) (fun e => .inr (Nat.le_trans (Nat.le_trans HF4.out.size hle6) e))
       have hBw : B ≤ w.heap.size := Nat.le_trans (HB.out g (.inl rfl)) (Nat.le_of_lt hgl)
       have hC := come_any g b m _ { s' with ms := s'.ms ++ [x] } q' B _ hP11 (rng_pos hkp) (HB.out g (.inl rfl)) (HB.out m (.inr (.inr (.inl rfl)))) (HT.out.fr hF11 (fun k hk => HB.out k hk) hBw) (by show s'.ps.length ≤ 900; omega)
       have HST := hid (show stepS s' x = comeS { s' with ms := s'.ms ++ [x] } q' by unfold stepS; rw [HQ.out])
       have HF11 := hid hF11
       have HGW := hid hgrow
       have hlq : (stepS s' x).ps.length = s'.ps.length + 1 := by unfold stepS comeS; simp
       clear hM0 hH hP11 hF11 hgrow hown11 hown10 hf10 hg10 hI hf10'
       go_wp2_with (go_at_call 82; (with_reducible refine hC.mono ?_); rintro e w12 ⟨rfl, hp12, hf12⟩)
       go_roundw
       case rel => exact ⟨k + 1, stepS s' x, _, by go_num, by omega, HPL.out, by rw [HST.out]; exact hp12, by rw [HST.out]; exact hkp, HF11.out.trans hf12 (fun k _ e => e.elim (fun e => .inl e) (fun e => .inr (.inr (.inl e)))), fun j hj => (by
        rcases hj with h | h | h | h
        ·exact .inl (.inl h)
        ·exact .inl (.inr (.inl h))
        ·exact .inl (.inr (.inr (.inl h)))
        ·exact HGW.out j h), by omega⟩
       case measure => simp [intOf]; omega
   ·rw [show openS s' = 9 from if_neg h0] at hO
    rw [if_pos h0] at HPL
    have HP2 := hid hpg
    clear hpg htb h0
    go_wp2_with (go_at_call 84; (with_reducible refine hO.mono ?_); rintro e w3 ⟨rfl, hx3⟩)
    go_ret
    exact ⟨by rw [← HPL.out]; rfl, _, by rw [← HPL.out]; exact HP2.out.ext hx3, HFR2.out.exts hx3, HGR.out, by rw [← HPL.out]; exact HOK'.out⟩
  ·obtain rfl : k = l.length := by omega
   rw [List.drop_length, playG] at hpl
   have HE := hid hpl
   have HF := hid (And.intro hpg (And.intro hfr (And.intro hgr hok)))
   clear hpl hpg hok hfr hgr
   go_wp2
   go_ret
   exact ⟨by rw [← HE.out]; rfl, mv', by rw [← HE.out]; exact HF.out.1, HF.out.2.1, HF.out.2.2.1, by rw [← HE.out]; exact HF.out.2.2.2⟩
theorem footR_new {g B : Nat} {bv : Value} (hg : B ≤ g) (hb : ∀ k, bv.ownBlock = some k → B ≤ k) : ∀ k, footR g bv (.slice none 0 0) k → B ≤ k := by
 rintro k (rfl | e | e)
 ·exact hg
 ·exact hb k e
 ·cases e
theorem rFrom_no (p : Pos) (w : World) (hp : positionB p = false) : Calls Tryz.prog 41 #[.agg (posCells p)] w (Ret (.tuple #[.pointer none, .int .i64 2]) w) := by
 have hPO : ∀ W, Calls Tryz.prog 73 #[.agg (posCells p)] W (Ret (.bool (positionB p)) W) := fun W => rPosition_any p W
 rw [hp] at hPO
 clear hp
 go_enter Tryz.func41, Tryz.ntmps41
 go_wp2_with (go_at_call 73; (with_reducible refine (hPO _).mono ?_); rintro e w1 ⟨rfl, hx1⟩)
 go_ret2
 exact Ret.mk' rfl (Ext.trans (Ext.auto) hx1)
theorem rFrom_yes (p : Pos) (w : World) (hp : positionB p = true) :
 Calls Tryz.prog 41 #[.agg (posCells p)] w (fun e w' => ∃ g bv, e = .returned (.tuple #[.pointer (some ⟨g, 0, none⟩), .int .i64 0]) ∧ RG g bv (.slice none 0 0) (fromS p) w' ∧ (∀ k, footR g bv (.slice none 0 0) k → w.heap.size ≤ k) ∧ Ext w w') := by
 have hPO : ∀ W, Calls Tryz.prog 73 #[.agg (posCells p)] W (Ret (.bool (positionB p)) W) := fun W => rPosition_any p W
 rw [hp] at hPO
 clear hp
 have hE0 : Ext w (w.alloc (.cells (posCells p) 30)) := Ext.alloc (Ext.refl w) _
 go_enter Tryz.func41, Tryz.ntmps41
 go_upto_region 4 with (go_at_call 73; (with_reducible refine (hPO _).mono ?_); rintro e w1 ⟨rfl, hx1⟩; (have hp1 := (hx1.blk w.heap.size (by simp)).trans (blk_alloc_at w (.cells (posCells p) 30) _ rfl)))
 have hE1 := hE0.trans hx1
 have l1 := hE1.le
 have hx3 : Ext w1 (w1.alloc (.cells rgZ 65)) := Ext.alloc (Ext.refl _) _
 have hrg : RG w1.heap.size (.slice none 0 0) (.slice none 0 0) zeroS (w1.alloc (.cells rgZ 65)) := ⟨blk_alloc_at _ _ _ rfl, World.ownsRow_nil _ _ _ _, World.ownsRow_nil _ _ _ _⟩
 have hp3 := (hx3.blk _ (blk_lt hp1)).trans hp1
 have hC := rCome_any w1.heap.size (.slice none 0 0) (.slice none 0 0) zeroS p _ hrg (by simp [zeroS])
 clear hrg
 go_wp2_with (go_at_call 78; (with_reducible refine hC.mono ?_); rintro e w4 ⟨rfl, bv, hp4, hf4, hg4⟩)
 go_ret2
 exact ⟨_, bv, rfl, hp4, footR_new l1 (fun k hk => (hg4 k hk).elim (fun e => by cases e) (fun e => Nat.le_trans l1 (Nat.le_trans hx3.le e))), hf4.toExt (hE1.trans hx3) (fun k hk => hk.elim (fun e => by omega) (fun e => by cases e))⟩
abbrev MSrm.T (g : Nat) (cs : Array Value) (w W : World) : Prop := Ext w W ∧ blk W g = some (.cells cs 65 (0, 0))
def MSrm (g : Nat) (cs : Array Value) (w W : World) : Prop := MSrm.T g cs w W
theorem MSrm.u {g cs w} (W) (h : MSrm g cs w W) : MSrm.T g cs w W := h
theorem MSrm.ext {g : Nat} {cs : Array Value} {w W W' : World} (h : MSrm g cs w W) (hx : Ext W W') : MSrm g cs w W' := ⟨h.1.trans hx, (hx.blk _ (blk_lt h.2)).trans h.2⟩
theorem rMayG_any {g : Nat} {bv mv : Value} {s : GS} {w : World} (y : Int) (h : RG g bv mv s w) (hn : s.ps.length ≤ 1000) : Calls Tryz.prog 85 #[.pointer (some ⟨g, 0, none⟩), .int .i64 y] w (Ret (.bool (mayS s y)) w) := by
 have hg := h.game
 have c135 := (blk_cell hg 135).trans (rg_135 ..)
 by_cases h0 : s.res = 0
 ·have hQ := fun W (hx : Ext w W) => rMany_at g 133 bv s.ps s.at_ W (Nat.lt_of_lt_of_le (blk_lt hg) hx.le) ((blk_cell ((hx.blk _ (blk_lt hg)).trans hg) 133).trans (rg_133 ..)) (SlP.of_own (own_ext h.book hx)) (by omega)
  have hF := fun W => rFifty_any s.at_ W
  have hM0 : MSrm g (rgC s.at_ bv mv s.res s.why) w w.drew := ⟨(Ext.refl _).drew, hg⟩
  rw [h0] at c135
  by_cases h6 : y = 6
  ·subst h6
   by_cases h3 : 3 ≤ manyB s.ps s.at_
   ·have HE := hid (show mayS s 6 = true by unfold mayS; rw [decide_eq_true h0]; simp [h3])
    have h3' : (3 : Int) ≤ (manyB s.ps s.at_ : Nat) := by omega
    clear h h0 hF h3
    generalize ((manyB s.ps s.at_ : Nat) : Int) = M at *
    go_enter Tryz.func85, Tryz.ntmps85
    go_upto_region 3 with (fail)
    clear c135
    refine wp_region_held_drew (S := MSrm g (rgC s.at_ bv mv s.res s.why) w) (by kernel_rfl) (hM0) (fun hH => ?_)
    refine hTz MSrm.u 0 ?_; (try go_frame)
    refine hTz MSrm.u 1 ?_; (try go_frame)
    refine hTz MSrm.u 2 ?_; (try go_frame)
    refine hTz MSrm.u 3 ?_; (try go_frame)
    refine hTz MSrm.u 4 ?_; (try go_frame)
    refine hTz MSrm.u 5 ?_; (try go_frame)
    refine hTz MSrm.u 6 ?_; (try go_frame)
    refine hTz MSrm.u 7 ?_; (try go_frame)
    refine hTz MSrm.u 8 ?_; (try go_frame)
    refine hTz MSrm.u 9 ?_; (try go_frame)
    refine hRy [10] (hCp (fun K hK => ?_) AllReadyH.nil); go_simp
    refine (hQ _ hH.1).mono ?_
    rintro e w8 ⟨rfl, hx8⟩
    refine hK.out _ _ (hH.ext (by assumption)) (fun hH => ?_); clear hK; (try go_frame)
    refine hTz MSrm.u 11 ?_; (try go_frame)
    refine hTz MSrm.u 12 ?_; (try go_frame)
    refine hTz MSrm.u 13 ?_; (try go_frame)
    refine hTn 14 ?_; (try go_frame)
    refine hTn 15 ?_; (try go_frame)
    refine hTn 16 ?_; (try go_frame)
    refine hTn 17 ?_; (try go_frame)
    refine hTn 18 ?_; (try go_frame)
    refine hTn 19 ?_; (try go_frame)
    refine hTn 20 ?_; (try go_frame)
    refine hTn 21 ?_; (try go_frame)
    refine hTn 22 ?_; (try go_frame)
    refine hTz MSrm.u 23 ?_; (try go_frame)
    refine hTz MSrm.u 24 ?_; (try go_frame)
    refine wpAnyH_done (by kernel_rfl) ?_ _
    have hx9 := hH.1
    clear hH hM0
    go_wp2
    go_ret
    exact Ret.mk' (vbool HE.out.symm) hx9
   ·have HE := hid (show mayS s 6 = false by unfold mayS; rw [decide_eq_true h0]; simp; omega)
    have h3' : ¬ (3 : Int) ≤ (manyB s.ps s.at_ : Nat) := by omega
    clear h h0 hF h3
    generalize ((manyB s.ps s.at_ : Nat) : Int) = M at *
    go_enter Tryz.func85, Tryz.ntmps85
    go_upto_region 3 with (fail)
    clear c135
    refine wp_region_held_drew (S := MSrm g (rgC s.at_ bv mv s.res s.why) w) (by kernel_rfl) (hM0) (fun hH => ?_)
    refine hTz MSrm.u 0 ?_; (try go_frame)
    refine hTz MSrm.u 1 ?_; (try go_frame)
    refine hTz MSrm.u 2 ?_; (try go_frame)
    refine hTz MSrm.u 3 ?_; (try go_frame)
    refine hTz MSrm.u 4 ?_; (try go_frame)
    refine hTz MSrm.u 5 ?_; (try go_frame)
    refine hTz MSrm.u 6 ?_; (try go_frame)
    refine hTz MSrm.u 7 ?_; (try go_frame)
    refine hTz MSrm.u 8 ?_; (try go_frame)
    refine hTz MSrm.u 9 ?_; (try go_frame)
    refine hRy [10] (hCp (fun K hK => ?_) AllReadyH.nil); go_simp
    refine (hQ _ hH.1).mono ?_
    rintro e w8 ⟨rfl, hx8⟩
    refine hK.out _ _ (hH.ext (by assumption)) (fun hH => ?_); clear hK; (try go_frame)
    refine hTz MSrm.u 11 ?_; (try go_frame)
    refine hTz MSrm.u 12 ?_; (try go_frame)
    refine hTz MSrm.u 13 ?_; (try go_frame)
    refine hTz MSrm.u 14 ?_; (try go_frame)
    refine hTz MSrm.u 15 ?_; (try go_frame)
    refine hTz MSrm.u 16 ?_; (try go_frame)
    refine hTn 17 ?_; (try go_frame)
    refine hTn 18 ?_; (try go_frame)
    refine hTn 19 ?_; (try go_frame)
    refine hTn 20 ?_; (try go_frame)
    refine hTn 21 ?_; (try go_frame)
    refine hTz MSrm.u 22 ?_; (try go_frame)
    refine hTz MSrm.u 23 ?_; (try go_frame)
    refine hTz MSrm.u 24 ?_; (try go_frame)
    refine wpAnyH_done (by kernel_rfl) ?_ _
    have hx9 := hH.1
    clear hH hM0
    go_wp2
    go_ret
    exact Ret.mk' (vbool HE.out.symm) hx9
  ·have g6 : (y == 6) = false := by simpa using h6
   by_cases h7 : y = 7
   ·subst h7
    have HE := hid (show mayS s 7 = beyondB s.at_ [100] by unfold mayS; rw [decide_eq_true h0]; simp)
    clear h h0 hQ
    generalize beyondB s.at_ [100] = M at *
    go_enter Tryz.func85, Tryz.ntmps85
    go_upto_region 3 with (fail)
    clear c135
    refine wp_region_held_drew (S := MSrm g (rgC s.at_ bv mv s.res s.why) w) (by kernel_rfl) (hM0) (fun hH => ?_)
    refine hTz MSrm.u 0 ?_; (try go_frame)
    refine hTz MSrm.u 1 ?_; (try go_frame)
    refine hTz MSrm.u 2 ?_; (try go_frame)
    refine hTn 3 ?_; (try go_frame)
    refine hTn 4 ?_; (try go_frame)
    refine hTn 5 ?_; (try go_frame)
    refine hTn 6 ?_; (try go_frame)
    refine hTn 7 ?_; (try go_frame)
    refine hTn 8 ?_; (try go_frame)
    refine hTn 9 ?_; (try go_frame)
    refine hTn 10 ?_; (try go_frame)
    refine hTn 11 ?_; (try go_frame)
    refine hTz MSrm.u 12 ?_; (try go_frame)
    refine hTz MSrm.u 13 ?_; (try go_frame)
    refine hTz MSrm.u 14 ?_; (try go_frame)
    refine hTz MSrm.u 15 ?_; (try go_frame)
    refine hTz MSrm.u 16 ?_; (try go_frame)
    refine hTz MSrm.u 17 ?_; (try go_frame)
    refine hTz MSrm.u 18 ?_; (try go_frame)
    refine hTz MSrm.u 19 ?_; (try go_frame)
    refine hTz MSrm.u 20 ?_; (try go_frame)
    refine hRy [21] (hCp (fun K hK => ?_) AllReadyH.nil); go_simp
    refine (hF _).mono ?_
    rintro e w8 ⟨rfl, hx8⟩
    refine hK.out _ _ (hH.ext (by assumption)) (fun hH => ?_); clear hK; (try go_frame)
    refine hTz MSrm.u 22 ?_; (try go_frame)
    refine hTz MSrm.u 23 ?_; (try go_frame)
    refine hTz MSrm.u 24 ?_; (try go_frame)
    refine wpAnyH_done (by kernel_rfl) ?_ _
    have hx9 := hH.1
    clear hH hM0
    go_wp2
    go_ret
    exact Ret.mk' (vbool HE.out.symm) hx9
   ·have HE := hid (show mayS s y = false by unfold mayS; simp [h6, h7])
    have g7 : (y == 7) = false := by simpa using h7
    clear h h0 hQ hF h6 h7
    go_enter Tryz.func85, Tryz.ntmps85
    go_upto_region 3 with (fail)
    clear c135
    refine wp_region_held_drew (S := MSrm g (rgC s.at_ bv mv s.res s.why) w) (by kernel_rfl) (hM0) (fun hH => ?_)
    refine hTz MSrm.u 0 ?_; (try go_frame)
    refine hTz MSrm.u 1 ?_; (try go_frame)
    refine hTz MSrm.u 2 ?_; (try go_frame)
    refine hTn 3 ?_; (try go_frame)
    refine hTn 4 ?_; (try go_frame)
    refine hTn 5 ?_; (try go_frame)
    refine hTn 6 ?_; (try go_frame)
    refine hTn 7 ?_; (try go_frame)
    refine hTn 8 ?_; (try go_frame)
    refine hTn 9 ?_; (try go_frame)
    refine hTn 10 ?_; (try go_frame)
    refine hTn 11 ?_; (try go_frame)
    refine hTz MSrm.u 12 ?_; (try go_frame)
    refine hTz MSrm.u 13 ?_; (try go_frame)
    refine hTz MSrm.u 14 ?_; (try go_frame)
    refine hTz MSrm.u 15 ?_; (try go_frame)
    refine hTz MSrm.u 16 ?_; (try go_frame)
    refine hTn 17 ?_; (try go_frame)
    refine hTn 18 ?_; (try go_frame)
    refine hTn 19 ?_; (try go_frame)
    refine hTn 20 ?_; (try go_frame)
    refine hTn 21 ?_; (try go_frame)
    refine hTz MSrm.u 22 ?_; (try go_frame)
    refine hTz MSrm.u 23 ?_; (try go_frame)
    refine hTz MSrm.u 24 ?_; (try go_frame)
    refine wpAnyH_done (by kernel_rfl) ?_ _
    have hx9 := hH.1
    clear hH hM0
    go_wp2
    go_ret
    exact Ret.mk' (vbool HE.out.symm) hx9
 ·have hb : (s.res == 0) = false := by simpa using h0
  have HE := hid (show mayS s y = false by unfold mayS; simp [h0])
  clear h h0
  go_enter Tryz.func85, Tryz.ntmps85
  go_wp2
  go_ret
  exact Ret.mk' (vbool HE.out.symm) (Ext.refl _)
theorem RG.set {g : Nat} {bv mv : Value} {s : GS} {W : World} (h : RG g bv mv s W) (r y : Int) : RG g bv mv { s with res := r, why := y } ((W.setCell ⟨g, 135, none⟩ (.int .i64 r)).setCell ⟨g, 136, none⟩ (.int .i64 y)) := by
 have k4 := own_ne h.book h.game (by decide)
 have k5 := own_ne h.own h.game (by decide)
 refine ⟨?_, ?_, ?_⟩
 ·rw [blk_setCell_same _ _ _ _ _ _ (blk_setCell_same _ _ _ _ _ _ h.game), rg_set135, rg_set136]
 ·exact own_blocks h.book fun k hk => (blk_setCell_past _ _ _ _ (fun e => k4 (by rw [hk, e]))).trans (blk_setCell_past _ _ _ _ (fun e => k4 (by rw [hk, e])))
 ·exact own_blocks h.own fun k hk => (blk_setCell_past _ _ _ _ (fun e => k5 (by rw [hk, e]))).trans (blk_setCell_past _ _ _ _ (fun e => k5 (by rw [hk, e])))
theorem RG.set1 {g : Nat} {bv mv : Value} {s : GS} {W : World} (h : RG g bv mv s W) (r : Int) : RG g bv mv { s with res := r } (W.setCell ⟨g, 135, none⟩ (.int .i64 r)) := by
 have k4 := own_ne h.book h.game (by decide)
 have k5 := own_ne h.own h.game (by decide)
 refine ⟨?_, ?_, ?_⟩
 ·rw [blk_setCell_same _ _ _ _ _ _ h.game, rg_set135]
 ·exact own_blocks h.book fun k hk => blk_setCell_past _ _ _ _ (fun e => k4 (by rw [hk, e]))
 ·exact own_blocks h.own fun k hk => blk_setCell_past _ _ _ _ (fun e => k5 (by rw [hk, e]))
theorem rClaim_any {g : Nat} {bv mv : Value} {s : GS} {w : World} (y : Int) (h : RG g bv mv s w) (hn : s.ps.length ≤ 1000) : Calls Tryz.prog 55 #[.pointer (some ⟨g, 0, none⟩), .int .i64 y] w (fun e w' => e = .returned (.int .i64 (claimE s y)) ∧ RG g bv mv (claimS s y) w' ∧ Fr (fun k => k = g) w w') := by
 have hM := rMayG_any y h hn
 have hg := h.game
 have c135 := (blk_cell hg 135).trans (rg_135 ..)
 have HP := hid h
 clear h
 by_cases h67 : y ≠ 6 ∧ y ≠ 7
 ·have HE := hid (show claimE s y = 2 from if_pos h67)
  have HS := hid (show claimS s y = s from if_neg (by rw [HE.out]; decide))
  have g6 : (y == 6) = false := by simpa using h67.1
  have g7 : (y == 7) = false := by simpa using h67.2
  have m6 : (y != 6) = true := by simpa using h67.1
  have m7 : (y != 7) = true := by simpa using h67.2
  clear h67 hM c135
  go_enter Tryz.func55, Tryz.ntmps55
  go_wp2
  go_ret
  exact ⟨by rw [HE.out]; rfl, by rw [HS.out]; exact HP.out, Fr.refl _ _⟩
 ·have HY := hid (show y = 6 ∨ y = 7 by omega)
  by_cases h0 : s.res = 0
  ·rw [h0] at c135
   cases hm : mayS s y
   ·have HE := hid (show claimE s y = 8 by unfold claimE; rw [if_neg h67, if_neg (by omega), hm]; rfl)
    have HS := hid (show claimS s y = s from if_neg (by rw [HE.out]; decide))
    rw [hm] at hM
    clear hm h0 h67
    rcases HY.out with rfl | rfl
    all_goals
     go_enter Tryz.func55, Tryz.ntmps55
     go_wp2_with (go_at_call 85; (with_reducible refine hM.mono ?_); rintro e w3 ⟨rfl, hx3⟩)
     go_ret
     exact ⟨by rw [HE.out]; rfl, by rw [HS.out]; exact HP.out.ext hx3, Fr.ext hx3⟩
   ·have HE := hid (show claimE s y = 0 by unfold claimE; rw [if_neg h67, if_neg (by omega), hm]; rfl)
    have HS := hid (show claimS s y = { s with res := 3, why := y } from if_pos HE.out)
    rw [hm] at hM
    clear hm h0 h67
    rcases HY.out with rfl | rfl
    all_goals
     go_enter Tryz.func55, Tryz.ntmps55
     go_wp2_with (go_at_call 85; (with_reducible refine hM.mono ?_); rintro e w3 ⟨rfl, hx3⟩; (have hg3 := (hx3.blk _ (blk_lt hg)).trans hg); (have fz3 := blk_froz hg3); (have d135 := (blk_cell hg3 135).trans (rg_135 ..)); (have d136 := (blk_cell hg3 136).trans (rg_136 ..)))
     go_ret
     exact ⟨by rw [HE.out]; rfl, by rw [HS.out]; exact (HP.out.ext hx3).set 3 _, ((Fr.ext (F := fun k => k = g) hx3).set (fun _ => rfl) _).set (fun _ => rfl) _⟩
  ·have hb : (s.res == 0) = false := by simpa using h0
   have hb2 : (s.res != 0) = true := by simpa using h0
   have HE := hid (show claimE s y = 9 by unfold claimE; rw [if_neg h67, if_pos h0])
   have HS := hid (show claimS s y = s from if_neg (by rw [HE.out]; decide))
   clear h0 hM h67
   rcases HY.out with rfl | rfl
   all_goals
    go_enter Tryz.func55, Tryz.ntmps55
    go_wp2
    go_ret
    exact ⟨by rw [HE.out]; rfl, by rw [HS.out]; exact HP.out, Fr.refl _ _⟩
theorem rStop_any {g : Nat} {bv mv : Value} {s : GS} {w : World} (y : Int) (h : RG g bv mv s w) : Calls Tryz.prog 92 #[.pointer (some ⟨g, 0, none⟩), .int .i64 y] w (fun e w' => e = .returned (.int .i64 (stopE s y)) ∧ RG g bv mv (stopS s y) w' ∧ Fr (fun k => k = g) w w') := by
 have hOT := fun W => rOther_any s.at_.turn W
 have hWI := fun W => rWins_any (otherOf s.at_.turn) W
 have hg := h.game
 have c128 := (blk_cell hg 128).trans (rg_128 ..)
 have c135 := (blk_cell hg 135).trans (rg_135 ..)
 have c136 := (blk_cell hg 136).trans (rg_136 ..)
 have fz := blk_froz hg
 have HP := hid h
 clear h
 by_cases h8 : y ≠ 8 ∧ y ≠ 9 ∧ y ≠ 10
 ·have HE := hid (show stopE s y = 2 from if_pos h8)
  have HS := hid (show stopS s y = s from if_neg (by rw [HE.out]; decide))
  have m8 : (y != 8) = true := by simpa using h8.1
  have m9 : (y != 9) = true := by simpa using h8.2.1
  have m10 : (y != 10) = true := by simpa using h8.2.2
  clear h8 hOT hWI
  go_enter Tryz.func92, Tryz.ntmps92
  go_wp2
  go_ret
  exact ⟨by rw [HE.out]; rfl, by rw [HS.out]; exact HP.out, Fr.refl _ _⟩
 ·have HY := hid (show y = 8 ∨ y = 9 ∨ y = 10 by omega)
  by_cases h0 : s.res = 0
  ·rw [h0] at c135
   have HE := hid (show stopE s y = 0 by unfold stopE; rw [if_neg h8, if_neg (by omega)])
   have HS := hid (show stopS s y = { s with res := if y = 8 then 3 else winsOf (otherOf s.at_.turn), why := y } from if_pos HE.out)
   generalize winsOf (otherOf s.at_.turn) = X at *
   clear h8
   rcases HY.out with rfl | rfl | rfl
   ·clear hOT hWI
    go_enter Tryz.func92, Tryz.ntmps92
    go_wp2
    go_ret
    exact ⟨by rw [HE.out]; rfl, by rw [HS.out]; exact HP.out.set 3 8, ((Fr.refl (fun k => k = g) w).set (fun _ => rfl) _).set (fun _ => rfl) _⟩
   ·have hp1 := HP.out.set1 3
    have hg1 := hp1.game
    have t1 := (blk_cell hg1 128).trans (rg_128 ..)
    have HP1 := hid hp1
    clear hp1
    go_enter Tryz.func92, Tryz.ntmps92
    go_wp2_with (first
     | (go_at_call 112; (with_reducible refine (hOT _).mono ?_); rintro e w2 ⟨rfl, hx2⟩)
     | (go_at_call 139; (with_reducible refine (hWI _).mono ?_); rintro e w3 ⟨rfl, hx3⟩; (have hp3 := HP1.out.ext (hx2.trans hx3)); (have hg3 := hp3.game); (have fz3 := blk_froz hg3); (have d135 := (blk_cell hg3 135).trans (rg_135 ..)); (have d136 := (blk_cell hg3 136).trans (rg_136 ..)); (have HP3 := hid hp3); clear hp3))
    go_ret
    exact ⟨by rw [HE.out]; rfl, by rw [HS.out]; exact HP3.out.set X 9, ((((Fr.refl (fun k => k = g) w).set (fun _ => rfl) _).exts (hx2.trans hx3)).set (fun _ => rfl) _).set (fun _ => rfl) _⟩
   ·have hp1 := HP.out.set1 3
    have hg1 := hp1.game
    have t1 := (blk_cell hg1 128).trans (rg_128 ..)
    have HP1 := hid hp1
    clear hp1
    go_enter Tryz.func92, Tryz.ntmps92
    go_wp2_with (first
     | (go_at_call 112; (with_reducible refine (hOT _).mono ?_); rintro e w2 ⟨rfl, hx2⟩)
     | (go_at_call 139; (with_reducible refine (hWI _).mono ?_); rintro e w3 ⟨rfl, hx3⟩; (have hp3 := HP1.out.ext (hx2.trans hx3)); (have hg3 := hp3.game); (have fz3 := blk_froz hg3); (have d135 := (blk_cell hg3 135).trans (rg_135 ..)); (have d136 := (blk_cell hg3 136).trans (rg_136 ..)); (have HP3 := hid hp3); clear hp3))
    go_ret
    exact ⟨by rw [HE.out]; rfl, by rw [HS.out]; exact HP3.out.set X 10, ((((Fr.refl (fun k => k = g) w).set (fun _ => rfl) _).exts (hx2.trans hx3)).set (fun _ => rfl) _).set (fun _ => rfl) _⟩
  ·have hb : (s.res == 0) = false := by simpa using h0
   have hb2 : (s.res != 0) = true := by simpa using h0
   have HE := hid (show stopE s y = 9 by unfold stopE; rw [if_neg h8, if_pos h0])
   have HS := hid (show stopS s y = s from if_neg (by rw [HE.out]; decide))
   clear h0 h8 hOT hWI
   rcases HY.out with rfl | rfl | rfl
   all_goals
    go_enter Tryz.func92, Tryz.ntmps92
    go_wp2
    go_ret
    exact ⟨by rw [HE.out]; rfl, by rw [HS.out]; exact HP.out, Fr.refl _ _⟩
abbrev MSrl.T (g gv iz : Nat) (cs : Array Value) (x : Mv) (w0 W : World) : Prop := Ext w0 W ∧ blk W g = some (.cells cs 65 (0, 0)) ∧ W.cell? ⟨gv, iz, none⟩ = some (.int .i64 x.fr) ∧ W.cell? ⟨gv, iz + 1, none⟩ = some (.int .i64 x.to_) ∧ W.cell? ⟨gv, iz + 2, none⟩ = some (.int .i64 x.be) ∧ gv < w0.heap.size
def MSrl (g gv iz : Nat) (cs : Array Value) (x : Mv) (w0 W : World) : Prop := MSrl.T g gv iz cs x w0 W
theorem MSrl.u {g gv iz cs x w0} (W) (h : MSrl g gv iz cs x w0 W) : MSrl.T g gv iz cs x w0 W := h
theorem MSrl.ext {g gv iz : Nat} {cs : Array Value} {x : Mv} {w0 W W' : World} (h : MSrl g gv iz cs x w0 W) (hx : Ext W W') : MSrl g gv iz cs x w0 W' := by
 obtain ⟨h1, h2, h3, h4, h5, h6⟩ := h
 have l := Nat.lt_of_lt_of_le h6 h1.le
 exact ⟨h1.trans hx, (hx.blk _ (blk_lt h2)).trans h2, (hx.cell _ _ l).trans h3, (hx.cell _ _ l).trans h4, (hx.cell _ _ l).trans h5, h6⟩
theorem MSrl.row {g gv iz : Nat} {cs : Array Value} {x : Mv} {w0 W : World} (h : MSrl g gv iz cs x w0 W) {n : Nat} (hn : w0.heap.size ≤ n) (hg : g < w0.heap.size) (ds : Array Value) : MSrl g gv iz cs x w0 (W.setRow n ds) := by
 obtain ⟨h1, h2, h3, h4, h5, h6⟩ := h
 have kc : ∀ o, (W.setRow n ds).cell? ⟨gv, o, none⟩ = W.cell? ⟨gv, o, none⟩ := fun o => World.cell?_of_block (setRow_other W n gv ds (by omega))
 exact ⟨Ext.setRow h1 hn ds, (setRow_blk_past (by omega)).trans h2, (kc _).trans h3, (kc _).trans h4, (kc _).trans h5, h6⟩
abbrev MSra.T (g gv iz : Nat) (cs : Array Value) (mv : Value) (x : Mv) (w0 W : World) : Prop := Fr (fun k => mv.ownBlock = some k) w0 W ∧ blk W g = some (.cells cs 65 (0, 0)) ∧ W.cell? ⟨g, 134, none⟩ = some mv ∧ W.cell? ⟨gv, iz, none⟩ = some (.int .i64 x.fr) ∧ W.cell? ⟨gv, iz + 1, none⟩ = some (.int .i64 x.to_) ∧ W.cell? ⟨gv, iz + 2, none⟩ = some (.int .i64 x.be) ∧ gv < w0.heap.size
def MSra (g gv iz : Nat) (cs : Array Value) (mv : Value) (x : Mv) (w0 W : World) : Prop := MSra.T g gv iz cs mv x w0 W
theorem MSra.u {g gv iz cs mv x w0} (W) (h : MSra g gv iz cs mv x w0 W) : MSra.T g gv iz cs mv x w0 W := h
theorem MSra.fr {g gv iz : Nat} {cs : Array Value} {mv : Value} {x : Mv} {w0 W W' : World} (h : MSra g gv iz cs mv x w0 W) (hx : Fr (fun k => mv.ownBlock = some k) W W') (hg : mv.ownBlock ≠ some g) (hv : mv.ownBlock ≠ some gv) : MSra g gv iz cs mv x w0 W' := by
 obtain ⟨h1, h2, h3, h4, h5, h6, h7⟩ := h
 have l := Nat.lt_of_lt_of_le h7 h1.size
 have kg : ∀ o, W'.cell? ⟨g, o, none⟩ = W.cell? ⟨g, o, none⟩ := fun o => World.cell?_of_block (hx.keep g (blk_lt h2) hg)
 have kv : ∀ o, W'.cell? ⟨gv, o, none⟩ = W.cell? ⟨gv, o, none⟩ := fun o => World.cell?_of_block (hx.keep gv l hv)
 exact ⟨h1.trans hx fun _ _ e => e, (hx.keep g (blk_lt h2) hg).trans h2, (kg _).trans h3, (kv _).trans h4, (kv _).trans h5, (kv _).trans h6, h7⟩
theorem MSra.ext {g gv iz : Nat} {cs : Array Value} {mv : Value} {x : Mv} {w0 W W' : World} (h : MSra g gv iz cs mv x w0 W) (hx : Ext W W') : MSra g gv iz cs mv x w0 W' := by
 obtain ⟨h1, h2, h3, h4, h5, h6, h7⟩ := h
 have l := Nat.lt_of_lt_of_le h7 h1.size
 exact ⟨h1.exts hx, (hx.blk _ (blk_lt h2)).trans h2, (hx.cell _ _ (blk_lt h2)).trans h3, (hx.cell _ _ l).trans h4, (hx.cell _ _ l).trans h5, (hx.cell _ _ l).trans h6, h7⟩
theorem RG.app {g : Nat} {bv mv mv' : Value} {s : GS} {W W' : World} {x : Mv} (h : RG g bv mv s W) (hf : Fr (fun k => mv.ownBlock = some k) W W') (ho : W'.ownsRow 0 51 3 mv' (s.ms ++ [x]).length (mvsC (s.ms ++ [x]))) :
 RG g bv mv' { s with ms := s.ms ++ [x] } (W'.setCell ⟨g, 134, none⟩ mv') := by
 have n1 := own_ne h.own h.game (by decide)
 have hg' := (hf.keep _ (blk_lt h.game) n1).trans h.game
 have hb' : W'.ownsRow 0 30 133 bv s.ps.length (posL s.ps) := own_blocks h.book fun k hk => by
  obtain ⟨-, cs, fr, h1⟩ := own_type h.book k hk
  exact hf.keep k (blk_lt h1) (own_ne h.own h1 (by decide))
 have k4 := own_ne hb' hg' (by decide)
 have k5 := own_ne ho hg' (by decide)
 exact ⟨by rw [blk_setCell_same _ _ _ _ _ _ hg', rg_set134], own_blocks hb' fun k hk => blk_setCell_past _ _ _ _ fun e => k4 (by rw [hk, e]), own_blocks ho fun k hk => blk_setCell_past _ _ _ _ fun e => k5 (by rw [hk, e])⟩
theorem castle_bd {p : Pos} (h : positionB p = true) : 0 ≤ p.castle ∧ p.castle ≤ 15 := by
 have hc := (parts_iff.1 h).castles
 unfold castlesB at hc
 rw [Bool.and_eq_true, decide_eq_true_eq] at hc
 exact hc.1
theorem rPlayG_any (g : Nat) (bv mv : Value) (s : GS) (l : List Mv) (v : Value) (w : World) (h : RG g bv mv s w) (hok : positionB s.at_ = true) (hS : SlMv w v l) (hd : 0 < l.length → ∀ gb off c, v = .slice (some ⟨gb, off, none⟩) l.length c → ¬ footR g bv mv gb)
 (hn : s.ps.length + l.length ≤ 800) :
 Calls Tryz.prog 37 #[.pointer (some ⟨g, 0, none⟩), v] w (fun e w' => e = .returned (.int .i64 (playG s l).2) ∧ ∃ bv' mv', RG g bv' mv' (playG s l).1 w' ∧ Fr (footR g bv mv) w w' ∧ (∀ k, footR g bv' mv' k → footR g bv mv k ∨ w.heap.size ≤ k) ∧ positionB (playG s l).1.at_ = true) := by
 obtain ⟨a, cap, rfl⟩ := hS.1
 have HP := hid h
 have HS := hid hS
 have HD := hid hd
 have HOK := hid hok
 have hgl := blk_lt h.game
 clear h hS hd hok
 go_enter Tryz.func37, Tryz.ntmps37
 go_wp2
 go_loopw [5] (fun i wr => ∃ (k : Nat) (s' : GS) (bv' mv' : Value), i = .int .i64 k ∧ k ≤ l.length ∧ playG s' (l.drop k) = playG s l ∧ RG g bv' mv' s' wr ∧ positionB s'.at_ = true ∧ Fr (footR g bv mv) w wr ∧ (∀ j, footR g bv' mv' j → footR g bv mv j ∨ w.heap.size ≤ j) ∧ s'.ps.length + l.length ≤ 800 + k) (fun i _ => l.length - (intOf i).toNat)
 case atStart => exact ⟨0, s, bv, mv, rfl, by omega, rfl, HP.out, HOK.out, Fr.refl _ _, fun j h => .inl h, by omega⟩
 case round =>
  obtain ⟨k, s', bv', mv', rfl, hk, hpl, hpg, hok, hfr, hgr, hlen⟩ := hrel
  by_cases hlt : k < l.length
  ·obtain ⟨x, hx⟩ : ∃ x, l[k]? = some x := ⟨_, List.getElem?_eq_getElem hlt⟩
   rw [playG_step hx] at hpl
   have hSr : Sl wr 3 (.slice a l.length cap) l.length (mvsC l) := (HS.out.2 (by omega)).stay (fun gb off c e => hfr.keep _ (by
    rcases (HS.out.2 (by omega)).2 with ⟨h1, h2⟩ | ⟨b', o', c', h1, h2, h3⟩
    ·omega
    ·rw [e] at h1
     injection h1 with h1
     injection h1 with h1
     injection h1 with h1
     omega) (HD.out (by omega) gb off c e)) hfr.size
   obtain ⟨gv, ov, rfl, hgv, hcv⟩ := hSr.pos (by omega)
   have hgw : gv < w.heap.size := by
    rcases (HS.out.2 (by omega)).2 with ⟨h1, h2⟩ | ⟨b', o', c', h1, h2, h3⟩
    ·omega
    ·injection h1 with h1
     injection h1 with h1
     injection h1 with h1
     omega
   have hnd : ∀ j, footR g bv' mv' j → j ≠ gv := fun j hj e => by
    subst e
    rcases hgr j hj with h | h
    ·exact HD.out (by omega) _ _ _ rfl h
    ·omega
   have c0 := hcv (k * 3) _ (mvsC_at hx 0 (by omega))
   have c1 := hcv (k * 3 + 1) _ (mvsC_at hx 1 (by omega))
   have c2 := hcv (k * 3 + 2) _ (mvsC_at hx 2 (by omega))
   simp only [mvE, List.getElem!_cons_zero, List.getElem!_cons_succ] at c0 c1 c2
   rw [← Nat.add_assoc] at c1 c2
   obtain ⟨am, cm, rfl⟩ := (Sl.of_own hpg.own).form
   have hg := hpg.game
   have d134 := (blk_cell hg 134).trans (rg_134 ..)
   have d135 := (blk_cell hg 135).trans (rg_135 ..)
   have HPL := hid hpl
   have HPG := hid hpg
   have HOK' := hid hok
   have HFR := hid hfr
   have HGR := hid hgr
   clear hx hcv hSr hpl hpg hok hfr hgr
   by_cases h0 : s'.res = 0
   ·rw [if_neg (by simp [h0])] at HPL
    by_cases h8 : 8192 ≤ s'.ms.length
    ·rw [if_pos h8] at HPL
     rw [h0] at d135
     go_wp2
     go_ret
     exact ⟨by rw [← HPL.out]; rfl, _, _, by rw [← HPL.out]; exact HPG.out, HFR.out, HGR.out, by rw [← HPL.out]; exact HOK'.out⟩
    ·rw [if_neg h8] at HPL
     rw [h0] at d135
     have hIS := fun W => rIs10_any s'.at_ x W
     have hM0 : MSrl g gv (ov + k * 3) (rgC s'.at_ bv' (.slice am s'.ms.length cm) s'.res s'.why) x wr wr.drew := ⟨(Ext.refl _).drew, hg, c0, c1, c2, hgv⟩
     go_upto_region 8 with (fail)
     clear d134 d135 c0 c1 c2
     cases hi : isB s'.at_ x
     ·rw [hi, if_neg (by simp)] at HPL
      rw [hi] at hIS
      clear hi
      refine wp_region_held_drew (S := MSrl g gv (ov + k * 3) (rgC s'.at_ bv' (.slice am s'.ms.length cm) s'.res s'.why) x wr) (by kernel_rfl) (hM0) (fun hH => ?_)
      refine hTz MSrl.u 0 ?_; (try go_frame)
      refine hTz MSrl.u 1 ?_; (try go_frame)
      refine hTz MSrl.u 2 ?_; (try go_frame)
      refine hTz MSrl.u 3 ?_; (try go_frame)
      refine hTz MSrl.u 4 ?_; (try go_frame)
      refine hTz MSrl.u 5 ?_; (try go_frame)
      refine hTz MSrl.u 6 ?_; (try go_frame)
      refine hTz MSrl.u 7 ?_; (try go_frame)
      refine hRy [8] (hCp (fun K hK => ?_) AllReadyH.nil); go_simp
      refine (hIS _).mono ?_
      rintro e w8 ⟨rfl, hx8⟩
      refine hK.out _ _ (hH.ext (by assumption)) (fun hH => ?_); clear hK; (try go_frame)
      refine hTz MSrl.u 9 ?_; (try go_frame)
      refine hTz MSrl.u 10 ?_; (try go_frame)
      refine wpAnyH_done (by kernel_rfl) ?_ _
      have hx9 := hH.1
      clear hH hM0 hg
      go_wp2
      go_ret
      exact ⟨by rw [← HPL.out]; rfl, _, _, by rw [← HPL.out]; exact HPG.out.ext hx9, HFR.out.exts hx9, HGR.out, by rw [← HPL.out]; exact HOK'.out⟩
     ·have hkp := legal_keeps HOK'.out (isB_legal HOK'.out hi)
      obtain ⟨-, htk, -⟩ := legal_parts (isB_legal HOK'.out hi)
      obtain ⟨hc0, hc1⟩ := castle_bd HOK'.out
      have hMO := fun W => rMove_any s'.at_ x W htk hc0 hc1
      rw [hi, if_pos rfl] at HPL
      rw [hi] at hIS
      clear hi htk hc0 hc1
      obtain ⟨q', hq'⟩ : ∃ q', movedP s'.at_ x = q' := ⟨_, rfl⟩
      rw [hq'] at hkp hMO
      have HQ := hid hq'
      clear hq'
      refine wp_region_held_drew (S := MSrl g gv (ov + k * 3) (rgC s'.at_ bv' (.slice am s'.ms.length cm) s'.res s'.why) x wr) (by kernel_rfl) (hM0) (fun hH => ?_)
      refine hTz MSrl.u 0 ?_; (try go_frame)
      refine hTz MSrl.u 1 ?_; (try go_frame)
      refine hTz MSrl.u 2 ?_; (try go_frame)
      refine hTz MSrl.u 3 ?_; (try go_frame)
      refine hTz MSrl.u 4 ?_; (try go_frame)
      refine hTz MSrl.u 5 ?_; (try go_frame)
      refine hTz MSrl.u 6 ?_; (try go_frame)
      refine hTz MSrl.u 7 ?_; (try go_frame)
      refine hRy [8] (hCp (fun K hK => ?_) AllReadyH.nil); go_simp
      refine (hIS _).mono ?_
      rintro e w8 ⟨rfl, hx8⟩
      refine hK.out _ _ (hH.ext (by assumption)) (fun hH => ?_); clear hK; (try go_frame)
      refine hTz MSrl.u 9 ?_; (try go_frame)
      refine hTz MSrl.u 10 ?_; (try go_frame)
      refine wpAnyH_done (by kernel_rfl) ?_ _
      have hM1 := hH
      clear hH hM0 hg hIS
      go_upto_region 10 with (fail)
      go_cut [6, 7] (fun v6 v7 wx => ∃ n, v6 = .pointer (some ⟨n, 0, none⟩) ∧ blk wx n = some (.cells (posCells q') 30 (0, 0)) ∧ wr.heap.size ≤ n ∧ MSrl g gv (ov + k * 3) (rgC s'.at_ bv' (.slice am s'.ms.length cm) s'.res s'.why) x wr wx)
      case first =>
       have hgr9 := blk_lt HPG.out.game
       clear HS HD HOK HPG HOK' HFR HGR HPL hlen HQ hkp hnd
       refine held_row (S := MSrl g gv (ov + k * 3) (rgC s'.at_ bv' (.slice am s'.ms.length cm) s'.res s'.why) x wr) (by kernel_rfl) (hM1.ext (Ext.refl _).drew) (fun W0 hH => ?_)
       refine hTz MSrl.u 0 ?_; (try go_frame)
       refine hTz MSrl.u 1 ?_; (try go_frame)
       refine hTz MSrl.u 2 ?_; (try go_frame)
       refine hTz MSrl.u 3 ?_; (try go_frame)
       refine hTz MSrl.u 4 ?_; (try go_frame)
       refine hTz MSrl.u 5 ?_; (try go_frame)
       refine hTz MSrl.u 6 ?_; (try go_frame)
       refine hTz MSrl.u 7 ?_; (try go_frame)
       refine hRy [8, 12] (hCp (fun K hK => ?_) (hCp (fun K hK => ?_) AllReadyH.nil))
       ·go_simp
        refine (hMO _).mono ?_
        rintro e w9 ⟨rfl, hx9⟩
        try have hz12 := (hx9.blk _ (blk_lt hz12)).trans hz12
        refine hK.out _ _ (by first | exact hH12 | exact hH.ext (by assumption) | exact hH.row hle12 hgr9 _) (fun hH => ?_); clear hK; (try go_frame)
        refine hTz MSrl.u 9 ?_; (try go_frame)
        refine hTz MSrl.u 10 ?_; (try go_frame)
        refine hTz MSrl.u 11 ?_; (try go_frame)
        refine hRy [12] (hCp (fun K hK => ?_) AllReadyH.nil); go_simp
        obtain ⟨n12, W12, e12, f12, hz12, hx12⟩ := new_blk _ (.cells (posCells Pos.zero) 30)
        have hle12 := Nat.le_trans hH.1.le (Nat.le_of_eq e12)
        have hH12 := hH.ext hx12
        rw [e12, f12]
        refine hK.out _ _ (by first | exact hH12 | exact hH.ext (by assumption) | exact hH.row hle12 hgr9 _) (fun hH => ?_); clear hK; (try go_frame)
        refine hRy [13] (hCp (fun K hK => ?_) AllReadyH.nil); go_simp
        have hq13 := setRow_blk (cs := posCells q') hz12
        refine hK.out _ _ (by first | exact hH12 | exact hH.ext (by assumption) | exact hH.row hle12 hgr9 _) (fun hH => ?_); clear hK; (try go_frame)
        refine hTz MSrl.u 14 ?_; (try go_frame)
        refine wpAnyH_done (by kernel_rfl) ?_ _
        go_wp2
        go_meet
        case rel => exact ⟨n12, rfl, hq13, hle12, hH⟩
       ·go_simp
        obtain ⟨n12, W12, e12, f12, hz12, hx12⟩ := new_blk _ (.cells (posCells Pos.zero) 30)
        have hle12 := Nat.le_trans hH.1.le (Nat.le_of_eq e12)
        have hH12 := hH.ext hx12
        rw [e12, f12]
        refine hK.out _ _ (by first | exact hH12 | exact hH.ext (by assumption) | exact hH.row hle12 hgr9 _) (fun hH => ?_); clear hK; (try go_frame)
        refine hRy [8] (hCp (fun K hK => ?_) AllReadyH.nil); go_simp
        refine (hMO _).mono ?_
        rintro e w9 ⟨rfl, hx9⟩
        try have hz12 := (hx9.blk _ (blk_lt hz12)).trans hz12
        refine hK.out _ _ (by first | exact hH12 | exact hH.ext (by assumption) | exact hH.row hle12 hgr9 _) (fun hH => ?_); clear hK; (try go_frame)
        refine hTz MSrl.u 9 ?_; (try go_frame)
        refine hTz MSrl.u 10 ?_; (try go_frame)
        refine hTz MSrl.u 11 ?_; (try go_frame)
        refine hRy [13] (hCp (fun K hK => ?_) AllReadyH.nil); go_simp
        have hq13 := setRow_blk (cs := posCells q') hz12
        refine hK.out _ _ (by first | exact hH12 | exact hH.ext (by assumption) | exact hH.row hle12 hgr9 _) (fun hH => ?_); clear hK; (try go_frame)
        refine hTz MSrl.u 14 ?_; (try go_frame)
        refine wpAnyH_done (by kernel_rfl) ?_ _
        go_wp2
        go_meet
        case rel => exact ⟨n12, rfl, hq13, hle12, hH⟩
      case rest =>
       obtain ⟨n, rfl, hbn, hln, hM4⟩ := hcut
       clear hM1 hMO
       go_upto_region 11 with (fail)
       have hx4 := hM4.1
       have hnw : w.heap.size ≤ n := Nat.le_trans HFR.out.size hln
       have hnf : ∀ j, footR g bv' (.slice am s'.ms.length cm) j → j ≠ n := fun j hj => by have := HPG.out.foot_lt j hj; omega
       refine world_cut (fun W => RG g bv' (.slice am s'.ms.length cm) s' W ∧ Fr (footR g bv mv) w W ∧ MSrl g gv (ov + k * 3) (rgC s'.at_ bv' (.slice am s'.ms.length cm) s'.res s'.why) x wr W ∧ blk W n = some (.cells (posCells q') 30 (0, 0))) ⟨HPG.out.ext hx4, HFR.out.exts hx4, hM4, hbn⟩ ?_
       clear hx4 hM4 hbn
       rintro W4 ⟨hP4, hF4, hM4, hbn⟩
       have hg4 := hP4.game
       have hv4 := rg_134 s'.at_ bv' (.slice am s'.ms.length cm) s'.res s'.why
       have HP4 := hid hP4
       have HF4 := hid hF4
       have hgv4 : gv < W4.heap.size := Nat.lt_of_lt_of_le hgv hM4.1.le
       have hM0 : MSra g gv (ov + k * 3) (rgC s'.at_ bv' (.slice am s'.ms.length cm) s'.res s'.why) (.slice am s'.ms.length cm) x W4 W4.drew := by
        obtain ⟨m1, m2, m3, m4, m5, m6⟩ := hM4
        exact ⟨Fr.ext (Ext.refl _).drew, hg4, (blk_cell hg4 134).trans hv4, m3, m4, m5, hgv4⟩
       have ho4 := own_ext hP4.own (Ext.refl W4).drew
       have hog : (Value.slice am s'.ms.length cm).ownBlock ≠ some g := own_ne hP4.own hg4 (by decide)
       have hov : (Value.slice am s'.ms.length cm).ownBlock ≠ some gv := fun e => hnd _ (.inr (.inr e)) rfl
       obtain ⟨i0, hi0, hz0, hz1, hz2⟩ := info_parts info_mv
       have hms8 : s'.ms.length ≤ 8191 := by omega
       clear hP4 hF4 hM4
       refine split_ini 11 (MSra g gv (ov + k * 3) (rgC s'.at_ bv' (.slice am s'.ms.length cm) s'.res s'.why) (.slice am s'.ms.length cm) x W4) (fun W => W.ownsRow 0 51 3 (.slice am s'.ms.length cm) s'.ms.length (mvsC s'.ms)) (by kernel_rfl) (by kernel_rfl) (hM0) (ho4) (fun W0 hH hI => ?_)
       simp only [List.take_succ_cons, List.take_zero, List.drop_succ_cons, List.drop_zero]
       refine hTz MSra.u 0 ?_; (try go_frame)
       refine hTz MSra.u 1 ?_; (try go_frame)
       refine hTz MSra.u 2 ?_; (try go_frame)
       refine hTz MSra.u 3 ?_; (try go_frame)
       refine hTz MSra.u 4 ?_; (try go_frame)
       refine hTz MSra.u 5 ?_; (try go_frame)
       refine hTz MSra.u 6 ?_; (try go_frame)
       refine hTz MSra.u 7 ?_; (try go_frame)
       refine hTz MSra.u 8 ?_; (try go_frame)
       refine hRy [9] (hCp (fun K hK => ?_) AllReadyH.nil); go_simp
       obtain ⟨n6, W6, e6, f6, hb6, hx6⟩ := new_blk _ (.cells #[.int .i64 x.fr, .int .i64 x.to_, .int .i64 x.be] 51)
       have hH9 := hH.ext hx6
       rw [e6, f6]
       have hI := own_ext hI hx6
       refine hK.out _ _ (by first | exact hS10 | exact hH9) (fun hH => ?_); clear hK; (try go_frame)
       refine hRy [10] (hCp (fun K hK => ?_) AllReadyH.nil); rw [if_pos (show Region.wanted _ _ = true from rfl)]
       refine wp_append_far _ _ _ 45 rfl 0 51 i0 _ 3 24 Tryz.underlying45 hi0 hz0 hz1 hz2 rfl (by decide) _ _ _ rfl hI ⟨n6, 0, none⟩ 1 1 (mvsC [x]) rfl rfl (cells_row2 hb6) (mvs_one _) (by unfold maxLen; omega) (by omega) (Nat.zero_le _) (fun v' w10 hown10 hg10 hf10 => ?_)
       obtain ⟨ga, gc, rfl⟩ := (Sl.of_own hown10).form
       have hS10 : MSra g gv (ov + k * 3) (rgC s'.at_ bv' (.slice am s'.ms.length cm) s'.res s'.why) (.slice am s'.ms.length cm) x W4 w10 := hH.fr (Fr.grown (F := fun k => (Value.slice am s'.ms.length cm).ownBlock = some k) hg10 (fun k e => e)) hog hov
       have hle6 := hH.1.size
       refine hK.out _ _ (by first | exact hS10 | exact hH9) (fun hH => ?_); clear hK; (try go_frame)
       refine wpAnyH_done (by kernel_rfl) ?_ _
       simp only [splitQ]
       have hb10 := hH.2.1
       have d134 := hH.2.2.1
       have fz := blk_froz hb10
       have hf10' : Fr (fun k => (Value.slice am s'.ms.length cm).ownBlock = some k) W4 w10 := hH.1
       have hown11 : w10.ownsRow 0 51 3 (.slice ga (s'.ms.length + 1) gc) (s'.ms ++ [x]).length (mvsC (s'.ms ++ [x])) := by rw [mvsC_append, List.length_append]; exact hown10
       have hP11 := HP4.out.app hf10' hown11
       have hb11 : blk (w10.setCell ⟨g, 134, none⟩ (.slice ga (s'.ms.length + 1) gc)) n = some (.cells (posCells q') 30 (0, 0)) := (blk_setCell_past _ _ _ _ (fun e => hnf g (.inl rfl) e.symm)).trans ((hf10'.keep n (blk_lt hbn) (fun e => hnf n (.inr (.inr e)) rfl)).trans hbn)
       have hF11 : Fr (footR g bv mv) w (w10.setCell ⟨g, 134, none⟩ (.slice ga (s'.ms.length + 1) gc)) := (HF4.out.trans hf10' (fun j hj e => (HGR.out j (.inr (.inr e))).resolve_right (by omega))).set (fun _ => .inl rfl) _
       have hgrow : ∀ j, (Value.slice ga (s'.ms.length + 1) gc).ownBlock = some j → footR g bv mv j ∨ w.heap.size ≤ j := fun j e => (hf10 j e).elim (fun e => HGR.out j (.inr (.inr e))) (fun e => .inr (Nat.le_trans (Nat.le_trans HF4.out.size hle6) e))
       have hC := rCome_any g bv' _ { s' with ms := s'.ms ++ [x] } q' _ hP11 (by show s'.ps.length ≤ 900; omega)
       have HST := hid (show stepS s' x = comeS { s' with ms := s'.ms ++ [x] } q' by unfold stepS; rw [HQ.out])
       have HF11 := hid hF11
       have HGW := hid hgrow
       have hlq : (stepS s' x).ps.length = s'.ps.length + 1 := by unfold stepS comeS; simp
       clear hM0 hH hP11 hF11 hgrow hown11 hown10 hf10 hg10 hI hf10'
       go_wp2_with (go_at_call 78; (with_reducible refine hC.mono ?_); rintro e w12 ⟨rfl, bv12, hp12, hf12, hg12⟩)
       go_roundw
       case rel => exact ⟨k + 1, stepS s' x, bv12, _, by go_num, by omega, HPL.out, by rw [HST.out]; exact hp12, by rw [HST.out]; exact hkp, HF11.out.trans hf12 (fun j hj e => e.elim (fun e => .inl e) (fun e => (HGR.out j (.inr (.inl e))).resolve_right (by omega))), fun j hj => (by
        rcases hj with h | h | h
        ·exact .inl (.inl h)
        ·rcases hg12 j h with h | h
         ·exact HGR.out j (.inr (.inl h))
         ·exact .inr (Nat.le_trans HF11.out.size h)
        ·exact HGW.out j h), by omega⟩
       case measure => simp [intOf]; omega
   ·rw [if_pos h0] at HPL
    have hb : (s'.res == 0) = false := by simpa using h0
    have hb2 : (s'.res != 0) = true := by simpa using h0
    clear h0
    go_wp2
    go_ret
    exact ⟨by rw [← HPL.out]; rfl, _, _, by rw [← HPL.out]; exact HPG.out, HFR.out, HGR.out, by rw [← HPL.out]; exact HOK'.out⟩
  ·obtain rfl : k = l.length := by omega
   rw [List.drop_length, playG] at hpl
   have HE := hid hpl
   have HF := hid (And.intro hpg (And.intro hfr (And.intro hgr hok)))
   clear hpl hpg hok hfr hgr
   go_wp2
   go_ret
   exact ⟨by rw [← HE.out]; rfl, bv', mv', by rw [← HE.out]; exact HF.out.1, HF.out.2.1, HF.out.2.2.1, by rw [← HE.out]; exact HF.out.2.2.2⟩
end Go.Proofs.YtdmgimfgoajmjaaGreatDoor
namespace Go.Proofs.YtdmgimfgoajmjaaGreatDoor
def gawM (i : Nat) : Mv := [⟨13, 21, 0⟩, ⟨52, 36, 0⟩, ⟨14, 30, 0⟩, ⟨59, 31, 0⟩].getD i ⟨0, 0, 0⟩
def gaw : Nat → GS
 | 0 => fromS startP
 | i + 1 => stepS (gaw i) (gawM i)
def stuckK (p : Pos) : Bool := positionB p && !(rAllL p).any (legalB p)
theorem stuck_K (p : Pos) : stuckB p = stuckK p := by
 unfold stuckB stuckK movesP
 cases hp : positionB p
 ·rfl
 ·rw [if_pos rfl, legalL, All_eq, Bool.true_and, Bool.true_and, List.any_eq_not_all_not, Bool.not_not, Bool.eq_iff_iff, decide_eq_true_iff, List.length_eq_zero_iff, List.filter_eq_nil_iff, List.all_eq_true]
  simp
def yK (p : Pos) : Int := if stuckK p then (if checkB p p.turn then 1 else 2) else 0
def rK (p : Pos) : Int := if stuckK p then (if checkB p p.turn then winsOf (otherOf p.turn) else 3) else 0
def outYK (n : Int) (p : Pos) : Int := if yK p ≠ 0 then yK p else if deadB (leftUp p 64) then 3 else if 5 ≤ n then 4 else if beyondB p [150] then 5 else 0
def outRK (n : Int) (p : Pos) : Int := if yK p ≠ 0 then rK p else if outYK n p = 0 then 0 else 3
theorem y_K (p : Pos) : endY p = yK p := by unfold endY yK; rw [stuck_K]
theorem r_K (p : Pos) : endR p = rK p := by unfold endR rK; rw [stuck_K]
theorem outY_K (n : Int) (p : Pos) : outY n p = outYK n p := by unfold outY outYK; rw [y_K]
theorem outR_K (n : Int) (p : Pos) : outR n p = outRK n p := by unfold outR outRK; rw [y_K, r_K, outY_K]
theorem outYK_few {n : Int} {p : Pos} (h : n < 5) : outYK n p = outYK 0 p := by unfold outYK; rw [if_neg (show ¬ 5 ≤ n by omega), if_neg (show ¬ (5 : Int) ≤ 0 by omega)]
theorem outRK_few {n : Int} {p : Pos} (h : n < 5) : outRK n p = outRK 0 p := by unfold outRK; rw [outYK_few h]
theorem outYK_end {n : Int} {p : Pos} (h : yK p ≠ 0) : outYK n p = yK p := if_pos h
theorem outRK_end {n : Int} {p : Pos} (h : yK p ≠ 0) : outRK n p = rK p := if_pos h
def gaS : Nat → Pos
 | 0 => startP
 | i + 1 => movedP (gaS i) (gawM i)
def gaL (k : Nat) : List Pos := (List.range (k + 1)).map gaS
theorem gaL_succ (k : Nat) : gaL (k + 1) = gaL k ++ [gaS (k + 1)] := by unfold gaL; rw [List.range_succ (n := k + 1), List.map_append]; rfl
theorem gaw_is (i : Nat) : gaw i = { at_ := gaS i, ps := gaL i, ms := (List.range i).map gawM, res := outRK (manyB (gaL i) (gaS i)) (gaS i), why := outYK (manyB (gaL i) (gaS i)) (gaS i) } := by
 induction i with
 | zero =>
   unfold gaw fromS comeS
   rw [outR_K, outY_K]
   rfl
 | succ k ih =>
   unfold gaw
   rw [ih]
   unfold stepS comeS
   dsimp only
   rw [outR_K, outY_K, show movedP (gaS k) (gawM k) = gaS (k + 1) from rfl, ← gaL_succ, List.range_succ, List.map_append]
   rfl
set_option maxRecDepth 100000
theorem gaw_pos : positionB startP = true := by decide +kernel
theorem gaw_step {i : Nat} (h : i < 4) : (gaw i).res = 0 ∧ (gaw i).ms.length < 8192 ∧ isB (gaw i).at_ (gawM i) = true := by
 have e : ∀ i < 4, outRK 0 (gaS i) = 0 ∧ positionB (gaS i) = true ∧ (rAllL (gaS i)).contains (gawM i) = true ∧ legalB (gaS i) (gawM i) = true := by decide +kernel
 obtain ⟨h1, h3, h4, h5⟩ := e i h
 have hn : manyB (gaL i) (gaS i) ≤ i + 1 := Nat.le_trans (List.countP_le_length ..) (by simp [gaL])
 rw [gaw_is]
 exact ⟨(outRK_few (by omega)).trans h1, by simp; omega, isB_of h3 h4 h5⟩
theorem gaw_end : (gaw 4).res = 2 ∧ (gaw 4).why = 1 ∧ (gaw 4).ms.length = 4 := by
 have e : rK (gaS 4) = 2 ∧ yK (gaS 4) = 1 := by decide +kernel
 have e0 : yK (gaS 4) ≠ 0 := by rw [e.2]; decide
 rw [gaw_is]
 exact ⟨(outRK_end e0).trans e.1, (outYK_end e0).trans e.2, by simp⟩
theorem playG_cons {s : GS} {m : Mv} {r : List Mv} (h : s.res = 0 ∧ s.ms.length < 8192 ∧ isB s.at_ m = true) : playG s (m :: r) = playG (stepS s m) r := by
 conv => lhs; unfold playG
 rw [if_neg (by simp [h.1]), if_neg (by omega), if_pos h.2.2]
theorem gaw_play : playG (fromS startP) [gawM 0, gawM 1, gawM 2, gawM 3] = (gaw 4, 0) := by
 have h0 := playG_cons (r := [gawM 1, gawM 2, gawM 3]) (gaw_step (i := 0) (by omega))
 have h1 := playG_cons (r := [gawM 2, gawM 3]) (gaw_step (i := 1) (by omega))
 have h2 := playG_cons (r := [gawM 3]) (gaw_step (i := 2) (by omega))
 have h3 := playG_cons (r := []) (gaw_step (i := 3) (by omega))
 have e : playG (gaw 4) [] = (gaw 4, 0) := by unfold playG; rfl
 exact h0.trans (h1.trans (h2.trans (h3.trans e)))
end Go.Proofs.YtdmgimfgoajmjaaGreatDoor
