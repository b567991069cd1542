/- The program's book of positions. -/
import Derived.Test.YtdmgimfgoajmjaaGreatDoorC28
import Derived.Maps.Own
import Derived.Maps.OwnOps
import Derived.StringKeys
import Derived.Maps.Views
set_option linter.unusedVariables false
set_option linter.unusedSimpArgs false
set_option maxRecDepth 100000
set_option maxHeartbeats 2000000
namespace Go.Proofs.YtdmgimfgoajmjaaGreatDoor
open Go.RowKit
@[go_sem high] theorem neq_book_map (r : Nat) (w : World) : (binOp .neq 97 (.map (some r)) (.map none)).run Tryz.prog w = .ok (.bool true) w :=
  Go.run_neq_map_nil w _ _ _ (some r) Tryz.underlying97
theorem there_any (b m : Nat) (w : World) (hb : blk w b = some (.cells #[.map (some m)] 101 (0, 0))) : Calls Tryz.prog 64 #[.pointer (some ⟨b, 0, none⟩)] w (Ret (.bool true) w) := by
 have hc := blk_cell hb 0
 simp only [List.getElem?_toArray, List.getElem?_cons_zero] at hc
 go_enter Tryz.func64, Tryz.ntmps64
 go_wp2
 go_ret
 exact Ret.mk' rfl (Ext.refl _)
end Go.Proofs.YtdmgimfgoajmjaaGreatDoor
namespace Go.Proofs.YtdmgimfgoajmjaaGreatDoor
open Go.RowKit Go.Maps
def Cnt (w : World) (m n : Nat) (D : DataW Unit) : Prop := w.ownsMap Tryz.prog 9 (plainElem Tryz.prog 3) m n D
theorem Cnt.ext {w w' : World} {m n : Nat} {D : DataW Unit} (h : Cnt w m n D) (hx : Ext w w') : Cnt w' m n D := by
 obtain ⟨es, cl, h1, h2⟩ := h
 exact ⟨es, cl, (hx.blk _ (blk_lt h1)).trans h1, h2⟩
theorem lawS : Keyed Tryz.prog 9 := string_keyed Tryz.underlying9
theorem zeroI (w : World) : (zeroValue 3).run Tryz.prog w = .ok (.int .i64 0) w := by kernel_rfl
theorem more_any (m n : Nat) (D : DataW Unit) (s : ByteArray) (c : Int) (w : World) (hown : Cnt w m n D) (hn : n < 1000000) (hlen : s.size ≤ maxLen) (hc : D.atKey (.string s.data.toList) (.lit (.int .i64 0)) = .lit (.int .i64 c)) (c0 : 0 ≤ c) (c1 : c ≤ 1000000) :
 Calls Tryz.prog 65 #[.agg #[.map (some m)], .string s] w (fun e w' => e = .returned (.int .i64 (c + 1)) ∧ Cnt w' m (n + 1) (D.put (.string s.data.toList) (.lit (.int .i64 (c + 1)))) ∧ w.grownBy w' (some m)) := by
 have hkey : keyOf Tryz.prog 9 (.string s) = some (.string s.data.toList) := Go.WideMaps.keyOf_string_mk Tryz.underlying9 hlen
 go_enter Tryz.func65, Tryz.ntmps65
 have hown1 : Cnt (w.alloc (.cells #[.map (some m)] 99)) m n D := hown.ext (Ext.alloc (Ext.refl _) _)
 go_wp2_with (first
  | (at_lookup; refine wpList_lookup_own_int _ rfl _ _ 97 rfl 9 3 .i64 lawS Tryz.underlying97 Tryz.underlying3 (zeroI _) m n D rfl hown1 _ _ rfl hkey ?_
     intro c' hat hwc
     have e1 : c' = c := (by have := hat.symm.trans hc; injection this with this; injection this)
     subst e1)
  | (at_mapUpdate; refine wpList_mapUpdate_own _ rfl _ _ _ 97 rfl 9 3 lawS Tryz.underlying97 _ m n _ rfl hown1 (by unfold maxLen; omega) _ _ _ rfl rfl hkey _ [] (plainElem_int Tryz.underlying3 (WalkArith.wf_i64 (by omega))) ?_
     intro w2 hown2 hgrow2
     have hlm : m < w.heap.size := (by obtain ⟨es, cl, h1, h2⟩ := hown; exact blk_lt h1)
     have hbx : blk w2 w.heap.size = some (.cells #[.map (some m)] 99 (0, 0)) := (hgrow2.block w.heap.size (by simp) (by simp; omega)).trans (blk_alloc_at _ _ _ rfl)
     have hcx := blk_cell hbx 0
     simp only [List.getElem?_toArray, List.getElem?_cons_zero] at hcx)
  | (at_lookup; refine wpList_lookup_own_int _ rfl _ _ 97 rfl 9 3 .i64 lawS Tryz.underlying97 Tryz.underlying3 (zeroI _) m (n + 1) _ rfl hown2 _ _ rfl hkey ?_
     intro c2 hat2 hwc2))
 have hD : IsMap D := by
  obtain ⟨es, cl, h1, h2, h3, h4⟩ := hown
  rw [h4]; exact ⟨_, rfl⟩
 have e2 : c2 = c' + 1 := by
  have h := hat2.symm.trans (atKey_put_same hD (by trivial) _ _)
  injection h with h; injection h
 subst e2
 go_ret
 refine ⟨rfl, hown2, ⟨hgrow2.os, hgrow2.tape, hgrow2.output, ?_, fun k hk hne => (hgrow2.block k (by simp; omega) hne).trans (blk_alloc_past _ _ _ hk)⟩⟩
 have := hgrow2.size
 simp at this
 omega
abbrev MSbp.T (p : Pos) (b pb m : Nat) (w W : World) : Prop := Ext w W ∧ blk W pb = some (.cells (posCells p) 30 (0, 0)) ∧ blk W b = some (.cells #[.map (some m)] 101 (0, 0)) ∧ W.cell? ⟨b, 0, none⟩ = some (.map (some m))
def MSbp (p : Pos) (b pb m : Nat) (w W : World) : Prop := MSbp.T p b pb m w W
theorem MSbp.u {p b pb m w} (W) (h : MSbp p b pb m w W) : MSbp.T p b pb m w W := h
theorem MSbp.mk' {p : Pos} {b pb m : Nat} {w W : World} (h : Ext w W) (h1 : blk W pb = some (.cells (posCells p) 30 (0, 0))) (h2 : blk W b = some (.cells #[.map (some m)] 101 (0, 0))) : MSbp p b pb m w W := ⟨h, h1, h2, blk_cell h2 0⟩
theorem MSbp.ext {p : Pos} {b pb m : Nat} {w W W' : World} (h : MSbp p b pb m w W) (hx : Ext W W') : MSbp p b pb m w W' := MSbp.mk' (h.1.trans hx) ((hx.blk _ (blk_lt h.2.1)).trans h.2.1) ((hx.blk _ (blk_lt h.2.2.1)).trans h.2.2.1)
theorem grown_ext {a c d : World} {r : Option Nat} (h : Ext a c) (g : c.grownBy d r) : a.grownBy d r :=
 ⟨g.os.trans h.os, g.tape.trans h.tape, g.output.trans h.output, Nat.le_trans h.le g.size, fun k hk hne => (g.block k (Nat.lt_of_lt_of_le hk h.le) hne).trans (h.blk k hk)⟩
theorem Put_any (b m n : Nat) (D : DataW Unit) (p : Pos) (c : Int) (w : World) (hb : blk w b = some (.cells #[.map (some m)] 101 (0, 0))) (hown : Cnt w m n D) (hn : n < 1000000) (hr : Rng p) (ht : Tab10 w.heap.size w)
 (hc : D.atKey (.string (keyT p)) (.lit (.int .i64 0)) = .lit (.int .i64 c)) (c0 : 0 ≤ c) (c1 : c ≤ 1000000) :
 Calls Tryz.prog 19 #[.pointer (some ⟨b, 0, none⟩), .agg (posCells p)] w (fun e w' => e = .returned (.int .i64 (c + 1)) ∧ Cnt w' m (n + 1) (D.put (.string (keyT p)) (.lit (.int .i64 (c + 1)))) ∧ w.grownBy w' (some m)) := by
 have hlb := blk_lt hb
 have hE0 : Ext w (w.alloc (.cells (posCells p) 30)) := Ext.alloc (Ext.refl _) _
 have hb0 := (hE0.blk _ hlb).trans hb
 have hp0 : blk (w.alloc (.cells (posCells p) 30)) w.heap.size = some (.cells (posCells p) 30 (0, 0)) := blk_alloc_at _ _ _ rfl
 have hTH := there_any b m _ hb0
 go_enter Tryz.func19, Tryz.ntmps19
 go_upto_region 3 with (go_at_call 64; (with_reducible refine hTH.mono ?_); rintro e w1 ⟨rfl, hx1⟩)
 have hM0 : MSbp p b w.heap.size m w w1.drew := MSbp.mk' ((hE0.trans hx1).drew) ((hx1.blk _ (blk_lt hp0)).trans hp0) ((hx1.blk _ (blk_lt hb0)).trans hb0)
 have hkl := keyT_len hr
 refine wp_region_split 6 (MSbp p b w.heap.size m w) (by kernel_rfl) (by kernel_rfl) (hM0) (fun hH => ?_)
 simp only [List.take_succ_cons, List.take_zero, List.drop_succ_cons, List.drop_zero]
 refine hTz MSbp.u 0 ?_; (try go_frame)
 refine hTz MSbp.u 1 ?_; (try go_frame)
 refine hTz MSbp.u 2 ?_; (try go_frame)
 refine hTz MSbp.u 3 ?_; (try go_frame)
 refine hTz MSbp.u 4 ?_; (try go_frame)
 refine hRy [5] (hCp (fun K hK => ?_) AllReadyH.nil); go_simp
 refine (Key_any p _ hr (ht.up hH.1)).mono ?_
 rintro e w8 ⟨rfl, hx8⟩
 refine hK.out _ _ (hH.ext (by first | assumption | exact Ext.alloc (Ext.refl _) _)) (fun hH => ?_); clear hK; (try go_frame)
 refine wpAnyH_done (by kernel_rfl) ?_ _
 simp only [splitQ]
 have hxw := hH.1
 have hMO := more_any m n D ⟨(keyT p).toArray⟩ c w8 (hown.ext hxw) hn (show (keyT p).toArray.size ≤ maxLen by rw [List.size_toArray]; unfold maxLen; omega) hc c0 c1
 clear hM0 hH
 go_wp2_with (go_at_call 65; (with_reducible refine hMO.mono ?_); rintro e w9 ⟨rfl, hc9, hg9⟩)
 go_ret
 exact ⟨rfl, hc9, grown_ext hxw hg9⟩
theorem Many_any (b m n : Nat) (D : DataW Unit) (p : Pos) (c : Int) (w : World) (hb : blk w b = some (.cells #[.map (some m)] 101 (0, 0))) (hown : Cnt w m n D) (hr : Rng p) (ht : Tab10 w.heap.size w)
 (hc : D.atKey (.string (keyT p)) (.lit (.int .i64 0)) = .lit (.int .i64 c)) :
 Calls Tryz.prog 23 #[.pointer (some ⟨b, 0, none⟩), .agg (posCells p)] w (Ret (.int .i64 c) w) := by
 have hlb := blk_lt hb
 have hE0 : Ext w (w.alloc (.cells (posCells p) 30)) := Ext.alloc (Ext.refl _) _
 have hb0 := (hE0.blk _ hlb).trans hb
 have hp0 : blk (w.alloc (.cells (posCells p) 30)) w.heap.size = some (.cells (posCells p) 30 (0, 0)) := blk_alloc_at _ _ _ rfl
 have hTH := there_any b m _ hb0
 have hkl := keyT_len hr
 have hkey : keyOf Tryz.prog 9 (.string ⟨(keyT p).toArray⟩) = some (.string (keyT p)) := WideMaps.keyOf_string_mk Tryz.underlying9 (s := ⟨(keyT p).toArray⟩) (show (keyT p).toArray.size ≤ maxLen by rw [List.size_toArray]; unfold maxLen; omega)
 go_enter Tryz.func23, Tryz.ntmps23
 go_upto_region 3 with (go_at_call 64; (with_reducible refine hTH.mono ?_); rintro e w1 ⟨rfl, hx1⟩)
 have hM0 : MSbp p b w.heap.size m w w1.drew := MSbp.mk' ((hE0.trans hx1).drew) ((hx1.blk _ (blk_lt hp0)).trans hp0) ((hx1.blk _ (blk_lt hb0)).trans hb0)
 refine wp_region_split 7 (MSbp p b w.heap.size m w) (by kernel_rfl) (by kernel_rfl) (hM0) (fun hH => ?_)
 simp only [List.take_succ_cons, List.take_zero, List.drop_succ_cons, List.drop_zero]
 refine hTz MSbp.u 0 ?_; (try go_frame)
 refine hTz MSbp.u 1 ?_; (try go_frame)
 refine hTz MSbp.u 2 ?_; (try go_frame)
 refine hTz MSbp.u 3 ?_; (try go_frame)
 refine hTz MSbp.u 4 ?_; (try go_frame)
 refine hTz MSbp.u 5 ?_; (try go_frame)
 refine hRy [6] (hCp (fun K hK => ?_) AllReadyH.nil); go_simp
 refine (Key_any p _ hr (ht.up hH.1)).mono ?_
 rintro e w8 ⟨rfl, hx8⟩
 refine hK.out _ _ (hH.ext (by first | assumption | exact Ext.alloc (Ext.refl _) _)) (fun hH => ?_); clear hK; (try go_frame)
 refine wpAnyH_done (by kernel_rfl) ?_ _
 simp only [splitQ]
 have hxw := hH.1
 have hown8 := hown.ext hxw
 clear hM0 hH
 go_wp2_with (first
  | (at_lookup; refine wpList_lookup_own_int _ rfl _ _ 97 rfl 9 3 .i64 lawS Tryz.underlying97 Tryz.underlying3 (zeroI _) m n D rfl hown8 _ _ rfl hkey ?_
     intro c' hat hwc
     have e1 : c' = c := (by have := hat.symm.trans hc; injection this with this; injection this)
     subst e1) | fail)
 go_ret
 exact Ret.mk' rfl hxw
end Go.Proofs.YtdmgimfgoajmjaaGreatDoor
