/- GameTells: the law's function, whatever the position and the deeds. -/
import Derived.Test.YtdmgimfgoajmjaaGreatDoorC44
import Derived.Test.YtdmgimfgoajmjaaGreatDoorC43
set_option linter.unusedVariables false
set_option linter.unusedSimpArgs false
set_option maxRecDepth 100000
set_option maxHeartbeats 4000000
namespace Go.Proofs.YtdmgimfgoajmjaaGreatDoor
open Go.RowKit Go.Maps
def ddsL (ds : List Dd) : List Value := ds.flatMap fun d => (ddC d).toList
theorem ddsL_len (ds : List Dd) : (ddsL ds).length = ds.length * 5 := by
 induction ds with
 | nil => rfl
 | cons d r ih => simp only [ddsL, List.flatMap_cons, List.length_append, List.length_cons] at *; simp [ddC] at *; omega
theorem ddsL_at {ds : List Dd} {k : Nat} {d : Dd} (h : ds[k]? = some d) (j : Nat) (hj : j < 5) : (ddsL ds)[k * 5 + j]? = (ddC d)[j]? := by
 have hk := (List.getElem?_eq_some_iff.1 h).1
 have e : ds = ds.take k ++ (d :: ds.drop (k + 1)) := by
  have := List.drop_eq_getElem_cons hk
  rw [(List.getElem?_eq_some_iff.1 h).2] at this
  rw [← this, List.take_append_drop]
 have e2 : ddsL ds = ddsL (ds.take k) ++ ((ddC d).toList ++ ddsL (ds.drop (k + 1))) := by
  rw [show ddsL ds = ddsL (ds.take k ++ (d :: ds.drop (k + 1))) from by rw [← e]]
  simp [ddsL]
 have hl : (ddsL (ds.take k)).length = k * 5 := by rw [ddsL_len, List.length_take]; omega
 rw [e2, List.getElem?_append_right (by omega), hl, show k * 5 + j - k * 5 = j by omega, List.getElem?_append_left (by simp [ddC]; omega), Array.getElem?_toList]
def SlDd (w : World) (v : Value) (ds : List Dd) : Prop := (∃ a cap, v = .slice a ds.length cap) ∧ (0 < ds.length → Sl w 5 v ds.length (ddsL ds))
theorem playG_one (s : GS) (x : Mv) : (playG s [x]).1.ps.length ≤ s.ps.length + 1 ∧ (playG s [x]).1.ms.length ≤ s.ms.length + 1 := by
 unfold playG
 split
 ·exact ⟨by dsimp only; omega, by dsimp only; omega⟩
 ·split
  ·exact ⟨by dsimp only; omega, by dsimp only; omega⟩
  ·split
   ·unfold playG stepS comeS; simp
   ·exact ⟨by dsimp only; omega, by dsimp only; omega⟩
theorem doS_len (s : GS) (d : Dd) : (doS s d).ps.length ≤ s.ps.length + 1 ∧ (doS s d).ms.length ≤ s.ms.length + 1 := by
 unfold doS
 split
 ·exact playG_one s d.mv
 ·split
  ·unfold claimS; split <;> exact ⟨by first | omega | (dsimp only; omega), by first | omega | (dsimp only; omega)⟩
  ·unfold stopS; split <;> exact ⟨by first | omega | (dsimp only; omega), by first | omega | (dsimp only; omega)⟩
abbrev MSgt.T (gd od tb : Nat) (d : Dd) (p : Pos) (w W : World) : Prop := Ext w W ∧ W.cell? ⟨gd, od, none⟩ = some (.int .i64 d.what) ∧ W.cell? ⟨gd, od + 1, none⟩ = some (.int .i64 d.mv.fr) ∧ W.cell? ⟨gd, od + 2, none⟩ = some (.int .i64 d.mv.to_) ∧ W.cell? ⟨gd, od + 3, none⟩ = some (.int .i64 d.mv.be) ∧ W.cell? ⟨gd, od + 4, none⟩ = some (.int .i64 d.why) ∧ blk W tb = some (.cells (posCells p) 30 (0, 0)) ∧ gd < w.heap.size
def MSgt (gd od tb : Nat) (d : Dd) (p : Pos) (w W : World) : Prop := MSgt.T gd od tb d p w W
theorem MSgt.u {gd od tb d p w} (W) (h : MSgt gd od tb d p w W) : MSgt.T gd od tb d p w W := h
theorem MSgt.fr {gd od tb : Nat} {d : Dd} {p : Pos} {w W W' : World} {F : Nat → Prop} (h : MSgt gd od tb d p w W) (hx : Fr F W W') (hF : ∀ k, F k → w.heap.size ≤ k) (ht : ¬ F tb) : MSgt gd od tb d p w W' := by
 obtain ⟨h1, h2, h3, h4, h5, h6, h7, h8⟩ := h
 have kc : ∀ o, W'.cell? ⟨gd, o, none⟩ = W.cell? ⟨gd, o, none⟩ := fun o => World.cell?_of_block (hx.keep gd (Nat.lt_of_lt_of_le h8 h1.le) fun e => by have := hF _ e; omega)
 exact ⟨hx.toExt h1 hF, (kc _).trans h2, (kc _).trans h3, (kc _).trans h4, (kc _).trans h5, (kc _).trans h6, (hx.keep tb (blk_lt h7) ht).trans h7, h8⟩
theorem MSgt.ext {gd od tb : Nat} {d : Dd} {p : Pos} {w W W' : World} (h : MSgt gd od tb d p w W) (hx : Ext W W') : MSgt gd od tb d p w W' := h.fr (Fr.ext (F := fun _ => False) hx) (fun _ h => h.elim) (fun h => h)
theorem from_ok {p : Pos} (h : positionB p = true) : positionB (fromS p).at_ = true := h
theorem GameTells_any (p : Pos) (ds : List Dd) (v : Value) (w : World) (hS : SlDd w v ds) (hds : ∀ d ∈ ds, inI d.what) (ht : Tab10 w.heap.size w) (hA : ∀ W, Ext w W → Calls Tryz.prog 39 #[] W (Ret (.bool true) W)) :
 Calls Tryz.prog 9 #[.agg (posCells p), v] w (Ret (.bool true) w) := by
 obtain ⟨a, cap, rfl⟩ := hS.1
 have hE0 : Ext w (w.alloc (.cells (posCells p) 30)) := Ext.alloc (Ext.refl w) _
 have HT := hid ht
 have HA := hid hA
 have HSS := hid hS
 have HDS := hid hds
 clear ht hA hS hds
 by_cases hbig : 30 < ds.length
 ·have hA1 := HA.out _ hE0
  go_enter Tryz.func9, Tryz.ntmps9
  go_wp2_with (go_at_call 39; (with_reducible refine hA1.mono ?_); rintro e w1 ⟨rfl, hx1⟩)
  go_ret
  exact Ret.mk' rfl (hE0.trans hx1)
 ·cases hpos : positionB p
  ·have hF := fun W => FromG_no p W hpos
   have hR := fun W => rFrom_no p W hpos
   clear hpos
   go_enter Tryz.func9, Tryz.ntmps9
   go_wp2_with (first
    | (go_at_call 40; (with_reducible refine (hF _).mono ?_); rintro e w1 ⟨rfl, hx1⟩; (have hp1 := (hx1.blk w.heap.size (by simp)).trans (blk_alloc_at w (.cells (posCells p) 30) _ rfl)))
    | (go_at_call 41; (with_reducible refine (hR _).mono ?_); rintro e w2 ⟨rfl, hx2⟩; (have hA2 := HA.out w2 (hE0.trans (hx1.trans hx2))))
    | (go_at_call 39; (with_reducible refine hA2.mono ?_); rintro e w3 ⟨rfl, hx3⟩))
   go_ret
   exact Ret.mk' rfl (hE0.trans (hx1.trans (hx2.trans hx3)))
  ·have hF := fun W (h : Ext w W) => FromG_yes p W hpos (HT.out.up h)
   have hR := fun W => rFrom_yes p W hpos
   have HOK := hid (from_ok hpos)
   clear hpos
   have hF0 := hF _ hE0
   go_enter Tryz.func9, Tryz.ntmps9
   go_upto_region 5 with (first
    | (go_at_call 40; (with_reducible refine hF0.mono ?_); rintro e w1 ⟨g, b, m, rfl, hP1, hf1, hx1⟩; (have hp1 := (hx1.blk w.heap.size (by simp)).trans (blk_alloc_at w (.cells (posCells p) 30) _ rfl)); (have HP1 := hid hP1); (have HF1 := hid hf1); clear hP1 hf1)
    | (go_at_call 41; (with_reducible refine (hR _).mono ?_); rintro e w2 ⟨gr, bv, rfl, hQ2, hf2, hx2⟩))
   have hE2 : Ext w w2 := hE0.trans (hx1.trans hx2)
   have hTw : Two g b m gr (.slice none 0 0) bv (.slice none 0 0) (fromS p) w2 := ⟨HP1.out.ext hx2, hQ2, fun k h1 h2 => by have := HP1.out.foot_lt k h1; have := hf2 k h2; omega⟩
   have hFT : ∀ k, footT g b m gr (.slice none 0 0) bv (.slice none 0 0) k → w.heap.size ≤ k := fun k hk => hk.elim (fun h => Nat.le_trans (by simp) (HF1.out k h)) (fun h => Nat.le_trans (hE0.trans hx1).le (hf2 k h))
   have hSM := sameG_any hTw.p hTw.r HOK.out (HT.out.up hE2) (by simp [fromS, comeS, zeroS]) (by simp [fromS, comeS, zeroS])
   have HTw := hid hTw
   have HFT := hid hFT
   clear hF hF0 hR hQ2 hf2 hTw hFT hp1 HP1 HF1
   go_upto_block 0 with (go_at_call 43; (with_reducible refine hSM.mono ?_); rintro e w3 ⟨rfl, hx3⟩)
   go_wp2
   go_loopw [9] (fun i wr => ∃ (k : Nat) (s : GS) (mv bv mvr : Value), i = .int .i64 k ∧ k ≤ ds.length ∧ Two g b m gr mv bv mvr s wr ∧ Ext w wr ∧ (∀ k, footT g b m gr mv bv mvr k → w.heap.size ≤ k) ∧ positionB s.at_ = true ∧ s.ps.length ≤ 1 + k ∧ s.ms.length ≤ k) (fun i _ => ds.length - (intOf i).toNat)
   case atStart => exact ⟨0, fromS p, _, bv, _, rfl, by omega, HTw.out.ext hx3, hE2.trans hx3, HFT.out, HOK.out, by simp [fromS, comeS, zeroS], by simp [fromS, comeS, zeroS]⟩
   case round =>
    obtain ⟨k, s, mv, bv', mvr, rfl, hk, hTw, hEr, hFT, hok, hps, hms⟩ := hrel
    by_cases hlt : k < ds.length
    ·obtain ⟨d, hd⟩ : ∃ d, ds[k]? = some d := ⟨_, List.getElem?_eq_getElem hlt⟩
     have hdi := HDS.out d (List.mem_of_getElem? hd)
     obtain ⟨gd, od, rfl, hgd, hcd⟩ := (HSS.out.2 (by omega)).pos (by omega)
     have c0 := hcd (k * 5) _ ((ddsL_at hd 0 (by omega)).trans rfl)
     have c1 := hcd (k * 5 + 1) _ ((ddsL_at hd 1 (by omega)).trans rfl)
     have c2 := hcd (k * 5 + 2) _ ((ddsL_at hd 2 (by omega)).trans rfl)
     have c3 := hcd (k * 5 + 3) _ ((ddsL_at hd 3 (by omega)).trans rfl)
     have c4 := hcd (k * 5 + 4) _ ((ddsL_at hd 4 (by omega)).trans rfl)
     rw [← Nat.add_assoc] at c1 c2 c3 c4
     have hCP := CopyG_any hTw.p (by omega)
     have HTw := hid hTw
     have HER := hid hEr
     have HFT := hid hFT
     have HOK' := hid hok
     have hlen := doS_len s d
     clear hd hcd hTw hEr hFT hok
     go_upto_region 15 with (go_at_call 52; (with_reducible refine hCP.mono ?_); rintro e w4 ⟨c, b2, m2, mv2, rfl, hC4, hfc4, hx4⟩)
     have hN := fun W (hx : Ext wr W) => Now_any (HTw.out.p.ext hx)
     have hM := fun W (hx : Ext wr W) => MovesG_any (HTw.out.p.ext hx) (by omega)
     go_upto_region 16 with (first
      | (go_at_call 48; (with_reducible refine (hN _ hx4).mono ?_); rintro e w5 ⟨rfl, hx5⟩)
      | (go_at_call 49; (with_reducible refine (hM _ (hx4.trans hx5)).mono ?_); rintro e w6 ⟨v6, rfl, ho6, hx6⟩; obtain ⟨a6, c6, rfl⟩ := (Sl.of_own ho6).form))
     have hE6 : Ext wr w6 := hx4.trans (hx5.trans hx6)
     have hx7 : Ext w6 (w6.alloc (.cells (posCells s.at_) 30)) := Ext.alloc (Ext.refl _) _
     have hfl := HTw.out.foot_lt
     have hwr := hE6.le
     have htb : ¬ footT g b m gr mv bv' mvr w6.heap.size := fun h => by have := hfl _ h; omega
     have k0 := fun o => (hE6.trans hx7).cell gd o (Nat.lt_of_lt_of_le hgd HER.out.le)
     have k1 := fun o => HER.out.cell gd o hgd
     have hM7 : MSgt gd (od + k * 5) w6.heap.size d s.at_ w (w6.alloc (.cells (posCells s.at_) 30)) := ⟨HER.out.trans (hE6.trans hx7), (k0 _).trans ((k1 _).trans c0), (k0 _).trans ((k1 _).trans c1), (k0 _).trans ((k1 _).trans c2), (k0 _).trans ((k1 _).trans c3), (k0 _).trans ((k1 _).trans c4), blk_alloc_at _ _ _ rfl, hgd⟩
     have hI7 := And.intro (HTw.out.ext (hE6.trans hx7)) (hC4.ext ((hx5.trans hx6).trans hx7))
     refine world_cut (fun W => MSgt gd (od + k * 5) w6.heap.size d s.at_ w W ∧ Two g b m gr mv bv' mvr s W ∧ PG c b2 m2 mv2 s W) ⟨hM7, hI7⟩ ?_
     clear hM7 hI7 hx7 k0 k1 c0 c1 c2 c3 c4 hC4 hN hM ho6 hCP
     rintro W8 ⟨hM8, hT8, hC8⟩
     have hx8 := (Ext.refl W8).drew
     refine held_ini (S := MSgt gd (od + k * 5) w6.heap.size d s.at_ w) (fun W => Two g b m gr mv bv' mvr s W ∧ PG c b2 m2 mv2 s W) (by kernel_rfl) (hM8.ext hx8) (⟨hT8.ext hx8, hC8.ext hx8⟩) (fun W0 hH hI => ?_)
     refine hTz MSgt.u 0 ?_; (try go_frame)
     refine hTz MSgt.u 1 ?_; (try go_frame)
     refine hTz MSgt.u 2 ?_; (try go_frame)
     refine hTz MSgt.u 3 ?_; (try go_frame)
     refine hTz MSgt.u 4 ?_; (try go_frame)
     refine hTz MSgt.u 5 ?_; (try go_frame)
     refine hRy [6] (hCp (fun K hK => ?_) AllReadyH.nil); go_simp
     have hE9 := hH.1
     refine (doG_any (B := w.heap.size) d hI.1 HOK'.out HFT.out (HT.out.on hE9) (by omega) hdi).mono ?_
     rintro e w9 ⟨rfl, mv9, bv9, mvr9, hT9, hf9, hg9, hok9⟩
     have hC9 := hI.2.fr hf9 (fun k' hk' h => by have := hfc4 k' hk'; have := hfl k' h; omega)
     have hH6 := hH.fr hf9 HFT.out htb
     have hF9 : ∀ k', footT g b m gr mv9 bv9 mvr9 k' → w.heap.size ≤ k' := fun k' hk' => (hg9 k' hk').elim (HFT.out k') (Nat.le_trans hE9.le)
     clear hI
     refine hK.out _ _ (by first | exact hH6 | exact hH.ext (by assumption)) (fun hH => ?_); clear hK; (try go_frame)
     refine hTz MSgt.u 7 ?_; (try go_frame)
     refine hTz MSgt.u 8 ?_; (try go_frame)
     refine hTz MSgt.u 9 ?_; (try go_frame)
     refine hTz MSgt.u 10 ?_; (try go_frame)
     refine hRy [11] (hCp (fun K hK => ?_) AllReadyH.nil); go_simp
     refine (sameG_any hT9.p hT9.r hok9 (HT.out.up hH.1) (by omega) (by omega)).mono ?_
     rintro e w11 ⟨rfl, hx11⟩
     have hT9 := hT9.ext hx11
     have hC9 := hC9.ext hx11
     refine hK.out _ _ (by first | exact hH6 | exact hH.ext (by assumption)) (fun hH => ?_); clear hK; (try go_frame)
     refine hTz MSgt.u 12 ?_; (try go_frame)
     refine hTz MSgt.u 13 ?_; (try go_frame)
     refine hTz MSgt.u 14 ?_; (try go_frame)
     refine hTz MSgt.u 15 ?_; (try go_frame)
     refine hTz MSgt.u 17 ?_; (try go_frame)
     refine hRy [16] (hCp (fun K hK => ?_) AllReadyH.nil); go_simp
     refine (Now_any hC9).mono ?_
     rintro e w16 ⟨rfl, hx16⟩
     have hT9 := hT9.ext hx16
     have hC9 := hC9.ext hx16
     refine hK.out _ _ (by first | exact hH6 | exact hH.ext (by assumption)) (fun hH => ?_); clear hK; (try go_frame)
     refine hTz MSgt.u 18 ?_; (try go_frame)
     refine hTz MSgt.u 19 ?_; (try go_frame)
     refine hTz MSgt.u 20 ?_; (try go_frame)
     refine hTz MSgt.u 21 ?_; (try go_frame)
     refine hTz MSgt.u 24 ?_; (try go_frame)
     refine hRy [22] (hCp (fun K hK => ?_) AllReadyH.nil); go_simp
     refine (MovesG_any hC9 (by omega)).mono ?_
     rintro e w22 ⟨v22, rfl, ho22, hx22⟩
     obtain ⟨a22, c22, rfl⟩ := (Sl.of_own ho22).form
     have hT9 := hT9.ext hx22
     refine hK.out _ _ (by first | exact hH6 | exact hH.ext (by assumption)) (fun hH => ?_); clear hK; (try go_frame)
     refine hTz MSgt.u 23 ?_; (try go_frame)
     refine hTz MSgt.u 25 ?_; (try go_frame)
     refine hTz MSgt.u 26 ?_; (try go_frame)
     refine wpAnyH_done (by kernel_rfl) ?_ _
     have hE30 := hH.1
     have HT9 := hid hT9
     clear hH hM8 hT8 hC8 hC9 hT9 ho22
     go_wp2
     go_roundw
     case rel => exact ⟨k + 1, doS s d, mv9, bv9, mvr9, by go_num, by omega, HT9.out, hE30, hF9, hok9, by omega, by omega⟩
     case measure => simp [intOf]; omega
    ·have hA1 := HA.out _ hEr
     clear hTw hFT hok
     go_wp2_with (go_at_call 39; (with_reducible refine hA1.mono ?_); rintro e w4 ⟨rfl, hx4⟩)
     go_ret
     exact Ret.mk' rfl (hEr.trans hx4)
end Go.Proofs.YtdmgimfgoajmjaaGreatDoor
