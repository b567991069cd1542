/- A position that is put into the document's book: the walk. -/
import Derived.Test.YtdmgimfgoajmjaaGreatDoorC30
import Derived.Test.YtdmgimfgoajmjaaGreatDoorC33
import Derived.Test.YtdmgimfgoajmjaaGreatDoorC34
import Derived.Test.YtdmgimfgoajmjaaGreatDoorC20
import Derived.Test.YtdmgimfgoajmjaaGreatDoorC07
import Derived.Test.YtdmgimfgoajmjaaGreatDoorC09
set_option linter.unusedVariables false
set_option linter.unusedSimpArgs false
set_option maxRecDepth 100000
set_option maxHeartbeats 4000000
namespace Go.Proofs.YtdmgimfgoajmjaaGreatDoor
open Go.RowKit
abbrev MSput.T (p : Pos) (b pb : Nat) (v : Value) (B : Nat) (wr W : World) : Prop := WrP B b wr W ∧ blk W pb = some (.cells (posCells p) 30 (0, 0)) ∧ blk W b = some (.cells #[v] 36 (0, 0)) ∧ W.cell? ⟨b, 0, none⟩ = some v
def MSput (p : Pos) (b pb : Nat) (v : Value) (B : Nat) (wr W : World) : Prop := MSput.T p b pb v B wr W
theorem MSput.u {p b pb v B wr} (W) (h : MSput p b pb v B wr W) : MSput.T p b pb v B wr W := h
theorem MSput.ext {p : Pos} {b pb : Nat} {v : Value} {B : Nat} {wr W W' : World} (h : MSput p b pb v B wr W) (hx : Ext W W') : MSput p b pb v B wr W' := by
 obtain ⟨h1, h2, h3, h4⟩ := h
 have e := (hx.blk _ (blk_lt h3)).trans h3
 exact ⟨h1.trans (WrP.ext hx), (hx.blk _ (blk_lt h2)).trans h2, e, blk_cell e 0⟩
theorem cells_row {w : World} {b : Nat} {cs : Array Value} {T : TypeId} {fr : Nat × Nat} (h : blk w b = some (.cells cs T fr)) : ∀ j u, cs.toList[j]? = some u → w.cell? ((⟨b, 0, none⟩ : Addr).add j) = some u := by
 intro j u hj
 have hadd : (⟨b, 0, none⟩ : Addr).add j = ⟨b, j, none⟩ := by unfold Addr.add; split <;> simp_all
 rw [hadd, blk_cell h]; simpa using hj
theorem posL_one (Ps : List Pos) : ∀ u ∈ posL Ps, u.oneCell' = true := by
 intro u hu
 unfold posL at hu
 rw [List.mem_flatMap] at hu
 obtain ⟨p, _, h⟩ := hu
 have := posCells_one p
 simp only [rowOk, Array.all_eq_true_iff_forall_mem] at this
 exact this u (by simpa using h)
theorem rPut_any (B b : Nat) (Ps : List Pos) (p : Pos) (w : World) (h : Bk B b Ps w) (hn : Ps.length ≤ 1000) (hBw : B ≤ w.heap.size) :
 Calls Tryz.prog 20 #[.pointer (some ⟨b, 0, none⟩), .agg (posCells p)] w (fun e w' => e = .returned (.int .i64 (manyB (Ps ++ [p]) p)) ∧ Bk B b (Ps ++ [p]) w' ∧ WrP B b w w') := by
 obtain ⟨v, hb, hown⟩ := h.st
 have hB := h.hB
 have hlb := blk_lt hb
 obtain ⟨a, cap, rfl⟩ := (Sl.of_own hown).form
 go_enter Tryz.func20, Tryz.ntmps20
 go_upto_region 1 with (fail)
 have hE0 : Ext w (w.alloc (.cells (posCells p) 30)).drew := (Ext.alloc (Ext.refl _) _).drew
 have hb0 := (hE0.blk _ hlb).trans hb
 have hp0 : blk (w.alloc (.cells (posCells p) 30)).drew w.heap.size = some (.cells (posCells p) 30 (0, 0)) := blk_alloc_at _ _ _ rfl
 have hM0 : MSput p b w.heap.size (.slice a Ps.length cap) B w (w.alloc (.cells (posCells p) 30)).drew := ⟨WrP.ext hE0, hp0, hb0, blk_cell hb0 0⟩
 obtain ⟨i0, hi, hz0, hz1, hz2⟩ := info_parts info_pos
 have hpo : posL [p] = (posCells p).toList := by simp [posL]
 have hne9 : (Value.slice a Ps.length cap).ownBlock ≠ some b := fun e => by
  obtain ⟨-, cs, fr, h⟩ := own_pos hown b e
  rw [hb] at h
  injection h with h
  injection h with _ h
  exact absurd h (by decide)
 have hnp : (Value.slice a Ps.length cap).ownBlock ≠ some w.heap.size := fun e => by
  obtain ⟨-, cs, fr, h⟩ := own_pos hown _ e
  exact absurd (blk_lt h) (by omega)
 clear hE0 hb0 hp0
 refine wp_region_split 8 (MSput p b w.heap.size (.slice a Ps.length cap) B w) (by kernel_rfl) (by kernel_rfl) (hM0) (fun hH => ?_)
 simp only [List.take_succ_cons, List.take_zero, List.drop_succ_cons, List.drop_zero]
 refine hTz MSput.u 0 ?_; (try go_frame)
 refine hTz MSput.u 1 ?_; (try go_frame)
 refine hTz MSput.u 2 ?_; (try go_frame)
 refine hTz MSput.u 3 ?_; (try go_frame)
 refine hTz MSput.u 4 ?_; (try go_frame)
 refine hTz MSput.u 5 ?_; (try go_frame)
 refine hRy [6] (hCp (fun K hK => ?_) AllReadyH.nil); go_simp
 refine hK.out _ _ (by first | exact hS7 | exact hH.ext (by first | assumption | exact Ext.alloc (Ext.refl _) _)) (fun hH => ?_); clear hK; (try go_frame)
 refine hRy [7] (hCp (fun K hK => ?_) AllReadyH.nil); rw [if_pos (show Region.wanted _ _ = true from rfl)]
 have hle9 := hH.1.size
 have hown9 : ((w.alloc (.cells (posCells p) 30)).alloc (.cells (posCells p) 30)).drew.ownsRow B 30 133 (.slice a Ps.length cap) Ps.length (posL Ps) := own_drew (own_alloc (own_alloc hown _) _)
 refine wp_append_own _ _ _ 22 rfl B 30 i0 _ 133 1064 Tryz.underlying22 hi hz0 hz1 hz2 (by simp [Value.cells]) (by decide) _ _ _ rfl hown9 ⟨w.heap.size + 1, 0, none⟩ 1 1 (posL [p]) rfl (by rw [posL_len]; rfl) (by rw [hpo]; exact cells_row (blk_alloc_at _ _ _ (by simp [size_drew]))) (posL_one _) (by unfold maxLen; omega) (by omega) (Nat.le_trans hBw hle9) (fun v' w10 hown10 hg10 _ => ?_)
 obtain ⟨ga, gc, rfl⟩ := (Sl.of_own hown10).form
 have hp9 := hH.2.1
 have hb9 := hH.2.2.1
 have hb10 := (hg10.block b (blk_lt hb9) (fun e => hne9 e.symm)).trans hb9
 have hp10 : blk w10 w.heap.size = some (.cells (posCells p) 30 (0, 0)) := (hg10.block w.heap.size (blk_lt hp9) (fun e => hnp e.symm)).trans hp9
 have hS7 : MSput p b w.heap.size (.slice a Ps.length cap) B w w10 := ⟨hH.1.grown hg10 hown9, hp10, hb10, blk_cell hb10 0⟩
 refine hK.out _ _ (by first | exact hS7 | exact hH.ext (by first | assumption | exact Ext.alloc (Ext.refl _) _)) (fun hH => ?_); clear hK; (try go_frame)
 refine wpAnyH_done (by kernel_rfl) ?_ _
 simp only [splitQ]
 have hW10 := hH.1
 have d1 := blk_cell hb10 0
 have fz := blk_froz hb10
 have lb := blk_lt hb10
 have hnb : w.heap.size ≠ b := (by omega)
 have hp11 : blk (w10.setCell ⟨b, 0, none⟩ (.slice ga (Ps.length + 1) gc)) w.heap.size = some (.cells (posCells p) 30 (0, 0)) := (blk_setCell_past _ _ _ _ hnb).trans hp10
 have hown11 : w10.ownsRow B 30 133 (.slice ga (Ps.length + 1) gc) (Ps ++ [p]).length (posL (Ps ++ [p])) := (by rw [posL_append, List.length_append]; exact hown10)
 have hb11 : blk (w10.setCell ⟨b, 0, none⟩ (.slice ga (Ps.length + 1) gc)) b = some (.cells #[.slice ga (Ps.length + 1) gc] 36 (0, 0)) := (by rw [blk_setCell_same _ _ _ _ _ _ hb10]; rfl)
 have hBK := Bk.put hB hb10 hown11
 have hne11 : (Value.slice ga (Ps.length + 1) gc).ownBlock ≠ some b := (fun e => by
  obtain ⟨-, cs, fr, h⟩ := own_pos hown11 b e
  rw [show blk w10 b = _ from hb10] at h
  injection h with h
  injection h with _ h
  exact absurd h (by decide))
 have hMC := rMany_any b _ (Ps ++ [p]) p _ hb11 (SlP.of_own (own_past2 hown11 hne11 0 _)) (by rw [List.length_append, List.length_singleton]; omega)
 have hWP : WrP B b w (w10.setCell ⟨b, 0, none⟩ (.slice ga (Ps.length + 1) gc)) := hW10.set _
 clear hM0 hH hown10
 go_wp2_with (go_at_call 24; (with_reducible refine hMC.mono ?_); rintro e w12 ⟨rfl, hx12⟩)
 go_ret
 obtain ⟨v2, hv1, hv2⟩ := hBK.st
 exact ⟨rfl, ⟨hB, v2, (hx12.blk _ (blk_lt hv1)).trans hv1, own_ext hv2 hx12⟩, hWP.trans (WrP.ext hx12)⟩
end Go.Proofs.YtdmgimfgoajmjaaGreatDoor
namespace Go.Proofs.YtdmgimfgoajmjaaGreatDoor
open Go.RowKit Go.Maps
theorem Cnt.keep {w w' : World} {m n : Nat} {D : DataW Unit} (h : Cnt w m n D) (hk : blk w' m = blk w m) : Cnt w' m n D := by
 obtain ⟨es, cl, h1, h2⟩ := h
 exact ⟨es, cl, hk.trans h1, h2⟩
theorem Cnt.lt {w : World} {m n : Nat} {D : DataW Unit} (h : Cnt w m n D) : m < w.heap.size := by
 obtain ⟨es, cl, h1, -⟩ := h
 exact blk_lt h1
theorem Bk.ext {B b : Nat} {Ps : List Pos} {w w' : World} (h : Bk B b Ps w) (hx : Ext w w') : Bk B b Ps w' := by
 obtain ⟨v, h1, h2⟩ := h.st
 exact ⟨h.hB, v, (hx.blk _ (blk_lt h1)).trans h1, own_ext h2 hx⟩
theorem Bk.grown {B b m : Nat} {Ps : List Pos} {w w' : World} (h : Bk B b Ps w) (g : w.grownBy w' (some m)) (hm : m < B) : Bk B b Ps w' := by
 obtain ⟨v, h1, h2⟩ := h.st
 refine ⟨h.hB, v, (g.block b (blk_lt h1) (by have := h.hB; simp; omega)).trans h1, own_blocks h2 fun k hk => ?_⟩
 obtain ⟨h3, cs, fr, h4⟩ := own_pos h2 k hk
 exact g.block k (blk_lt h4) (by simp; omega)
theorem Bk.lt {B b : Nat} {Ps : List Pos} {w : World} (h : Bk B b Ps w) : b < w.heap.size := by
 obtain ⟨v, h1, -⟩ := h.st
 exact blk_lt h1
structure TS (w : World) (p : Pos) (b m B : Nat) (Ps Qs : List Pos) (D : DataW Unit) (W : World) : Prop where
 ext : Ext w W
 pos : blk W w.heap.size = some (.cells (posCells p) 30 (0, 0))
 book : blk W b = some (.cells #[.map (some m)] 101 (0, 0))
 cnt : Cnt W m Ps.length D
 good : Good D Ps
 bk : Bk B B Qs W
 lo : w.heap.size < b ∧ w.heap.size < m ∧ b ≠ m ∧ b < B ∧ m < B
theorem TS.up {w W W' : World} {p : Pos} {b m B : Nat} {Ps Qs : List Pos} {D : DataW Unit} (h : TS w p b m B Ps Qs D W) (hx : Ext W W') : TS w p b m B Ps Qs D W' :=
 ⟨h.ext.trans hx, (hx.blk _ (blk_lt h.pos)).trans h.pos, (hx.blk _ (blk_lt h.book)).trans h.book, h.cnt.ext hx, h.good, h.bk.ext hx, h.lo⟩
theorem TS.put {w W : World} {p x : Pos} {b m B : Nat} {Ps Qs : List Pos} {D : DataW Unit} (h : TS w p b m B Ps Qs D W) (hx : Rng x) (ht : Tab10 w.heap.size w) (hn : Ps.length ≤ 1000) :
 Calls Tryz.prog 19 #[.pointer (some ⟨b, 0, none⟩), .agg (posCells x)] W (fun e W' => e = .returned (.int .i64 (manyB (Ps ++ [x]) x)) ∧ ∃ D', TS w p b m B (Ps ++ [x]) Qs D' W') := by
 have hl := many_le Ps x
 refine (Put_any b m Ps.length D x (manyB Ps x) W h.book h.cnt (by omega) hx (ht.up h.ext) (h.good.at_ x) (by omega) (by omega)).mono ?_
 rintro e W' ⟨rfl, hc, hg⟩
 obtain ⟨l1, l2, l3, l4, l5⟩ := h.lo
 refine ⟨by rw [many_add, if_pos rfl]; rfl, _, ⟨?_, (hg.block _ (blk_lt h.pos) (by simp; omega)).trans h.pos, (hg.block _ (blk_lt h.book) (by simp; omega)).trans h.book, by rw [List.length_append]; exact hc, h.good.put x, h.bk.grown hg l5, h.lo⟩⟩
 have he := h.ext
 exact ⟨hg.os.trans he.os, hg.tape.trans he.tape, hg.output.trans he.output, Nat.le_trans he.le hg.size, fun k hk => (hg.block k (Nat.lt_of_lt_of_le hk he.le) (by simp; omega)).trans (he.blk k hk)⟩
theorem TS.rput {w W : World} {p x : Pos} {b m B : Nat} {Ps Qs : List Pos} {D : DataW Unit} (h : TS w p b m B Ps Qs D W) (hn : Qs.length ≤ 1000) :
 Calls Tryz.prog 20 #[.pointer (some ⟨B, 0, none⟩), .agg (posCells x)] W (fun e W' => e = .returned (.int .i64 (manyB (Qs ++ [x]) x)) ∧ TS w p b m B Ps (Qs ++ [x]) D W') := by
 obtain ⟨l1, l2, l3, l4, l5⟩ := h.lo
 refine (rPut_any B B Qs x W h.bk hn (Nat.le_of_lt h.bk.lt)).mono ?_
 rintro e W' ⟨rfl, hb, hw⟩
 have kp : ∀ k, k < B → k < W.heap.size → blk W' k = blk W k := fun k h1 h2 => hw.keep k h2 (by omega) (.inl h1)
 have he := h.ext
 refine ⟨rfl, ⟨hw.os.trans he.os, hw.tape.trans he.tape, hw.output.trans he.output, Nat.le_trans he.le hw.size, fun k hk => (kp k (by omega) (Nat.lt_of_lt_of_le hk he.le)).trans (he.blk k hk)⟩, (kp _ (by omega) (blk_lt h.pos)).trans h.pos, (kp _ l4 (blk_lt h.book)).trans h.book, h.cnt.keep (kp _ l5 h.cnt.lt), h.good, hb, h.lo⟩
theorem TS.most {w W : World} {p : Pos} {b m B : Nat} {Ps Qs : List Pos} {D : DataW Unit} (h : TS w p b m B Ps Qs D W) (hn : Ps.length ≤ 1000) : Calls Tryz.prog 21 #[.pointer (some ⟨b, 0, none⟩)] W (Ret (.int .i64 (mostB Ps)) W) :=
 Most_any b m _ D Ps W h.book h.cnt h.good hn
theorem TS.rmost {w W : World} {p : Pos} {b m B : Nat} {Ps Qs : List Pos} {D : DataW Unit} (h : TS w p b m B Ps Qs D W) (hn : Qs.length ≤ 1000) : Calls Tryz.prog 22 #[.pointer (some ⟨B, 0, none⟩)] W (Ret (.int .i64 (mostB Qs)) W) := by
 obtain ⟨v, h1, h2⟩ := h.bk.st
 exact rMost_any B v Qs W h1 (SlP.of_own h2) (by omega)
theorem TS.many {w W : World} {p : Pos} {b m B : Nat} {Ps Qs : List Pos} {D : DataW Unit} (h : TS w p b m B Ps Qs D W) (q : Pos) (hq : Rng q) (ht : Tab10 w.heap.size w) : Calls Tryz.prog 23 #[.pointer (some ⟨b, 0, none⟩), .agg (posCells q)] W (Ret (.int .i64 (manyB Ps q)) W) :=
 Many_any b m _ D q _ W h.book h.cnt hq (ht.up h.ext) (h.good.at_ q)
theorem TS.rmany {w W : World} {p : Pos} {b m B : Nat} {Ps Qs : List Pos} {D : DataW Unit} (h : TS w p b m B Ps Qs D W) (q : Pos) (hn : Qs.length ≤ 1000) : Calls Tryz.prog 24 #[.pointer (some ⟨B, 0, none⟩), .agg (posCells q)] W (Ret (.int .i64 (manyB Qs q)) W) := by
 obtain ⟨v, h1, h2⟩ := h.bk.st
 exact rMany_any B v Qs q W h1 (SlP.of_own h2) (by omega)
theorem Bk.start (w : World) : Bk w.heap.size w.heap.size [] (w.alloc (.cells #[.slice none 0 0] 36)) :=
 ⟨Nat.le_refl _, .slice none 0 0, blk_alloc_at _ _ _ rfl, by rfl, .inl ⟨rfl, rfl⟩⟩
abbrev MSl.T (p : Pos) (g : Nat) (cur : Array Value) (T : TypeId) (fr : Nat × Nat) (w W : World) : Prop := Ext w W ∧ blk W w.heap.size = some (.cells (posCells p) 30 (0, 0)) ∧ blk W g = some (.cells cur T fr)
def MSl (p : Pos) (g : Nat) (cur : Array Value) (T : TypeId) (fr : Nat × Nat) (w W : World) : Prop := MSl.T p g cur T fr w W
theorem MSl.u {p g cur T fr w} (W) (h : MSl p g cur T fr w W) : MSl.T p g cur T fr w W := h
theorem TS.ms {w W : World} {p : Pos} {b m B : Nat} {Ps Qs : List Pos} {D : DataW Unit} (h : TS w p b m B Ps Qs D W) {g : Nat} {cur : Array Value} {T : TypeId} {fr : Nat × Nat} (hg : blk w g = some (.cells cur T fr)) : MSl p g cur T fr w W :=
 ⟨h.ext, h.pos, (h.ext.blk _ (blk_lt hg)).trans hg⟩
abbrev MSw.T (p : Pos) (pb : Nat) (w W : World) : Prop := Ext w W ∧ blk W pb = some (.cells (posCells p) 30 (0, 0))
def MSw (p : Pos) (pb : Nat) (w W : World) : Prop := MSw.T p pb w W
theorem MSw.u {p pb w} (W) (h : MSw p pb w W) : MSw.T p pb w W := h
theorem MSw.ext {p : Pos} {pb : Nat} {w W W' : World} (h : MSw p pb w W) (hx : Ext W W') : MSw p pb w W' := ⟨h.1.trans hx, (hx.blk _ (blk_lt h.2)).trans h.2⟩
theorem Copy_any (b m n : Nat) (D : DataW Unit) (w : World) (hb : blk w b = some (.cells #[.map (some m)] 101 (0, 0))) (hown : Cnt w m n D) :
 Calls Tryz.prog 32 #[.pointer (some ⟨b, 0, none⟩)] w (fun e w' => ∃ b2 m2, e = .returned (.pointer (some ⟨b2, 0, none⟩)) ∧ w.heap.size ≤ b2 ∧ w.heap.size ≤ m2 ∧ b2 ≠ m2 ∧ blk w' b2 = some (.cells #[.map (some m2)] 101 (0, 0)) ∧ Cnt w' m2 n D ∧ Ext w w') := by
 have hlb := blk_lt hb
 have hTH := there_any b m _ hb
 have hCL := fun W (h : Cnt W m n D) => AnyW.maps_Clone_owns Tryz.layClone 9 (plainElem Tryz.prog 3) m n D W h
 go_enter Tryz.func32, Tryz.ntmps32
 go_wp2_with (first
  | (go_at_call 64; (with_reducible refine hTH.mono ?_); rintro e w1 ⟨rfl, hx1⟩; (have hb1 := (hx1.blk _ hlb).trans hb); (have hc1 := blk_cell hb1 0); (simp only [List.getElem?_toArray, List.getElem?_cons_zero] at hc1); (have hown1 := hown.ext hx1))
  | (go_at_call 70; (refine (hCL _ hown1).mono ?_); rintro e w2 ⟨rfl, hc2, hc3, hB2⟩))
 have hc4 : Cnt w2 w1.heap.size n D := hc2
 have l1 := hx1.le
 have l2 := hB2.size
 have l3 := hc4.lt
 have hE2 : Ext w w2 := hx1.trans hB2
 go_ret
 exact ⟨_, _, rfl, by omega, by omega, by omega, blk_alloc_at _ _ _ rfl, hc4.ext (Ext.alloc (Ext.refl _) _), hE2.alloc _⟩
end Go.Proofs.YtdmgimfgoajmjaaGreatDoor
namespace Go.Proofs.YtdmgimfgoajmjaaGreatDoor
open Go.RowKit
theorem cells_row2 {w : World} {b : Nat} {cs : Array Value} {T : TypeId} {fr : Nat × Nat} (h : blk w b = some (.cells cs T fr)) : ∀ j u, cs.toList[j]? = some u → w.cell? ((⟨b, 0, none⟩ : Addr).add j) = some u := by
 intro j u hj
 have hadd : (⟨b, 0, none⟩ : Addr).add j = ⟨b, j, none⟩ := by unfold Addr.add; split <;> simp_all
 rw [hadd, blk_cell h]; simpa using hj
theorem posL_one2 (Ps : List Pos) : ∀ u ∈ posL Ps, u.oneCell' = true := by
 intro u hu
 unfold posL at hu
 rw [List.mem_flatMap] at hu
 obtain ⟨p, _, h⟩ := hu
 have := posCells_one p
 simp only [rowOk, Array.all_eq_true_iff_forall_mem] at this
 exact this u (by simpa using h)
theorem own_not {w : World} {B n b : Nat} {v : Value} {xs : List Value} {cs : Array Value} {T0 : TypeId} {fr : Nat × Nat} (h : w.ownsRow B 30 133 v n xs) (hb : blk w b = some (.cells cs T0 fr)) (hT : T0 ≠ 30) : v.ownBlock ≠ some b := fun e => by
 obtain ⟨-, cs2, fr2, h2⟩ := own_pos h b e
 rw [hb] at h2
 injection h2 with h2
 injection h2 with _ h2
 exact hT h2
theorem wp_append_far {P : Program} (w : World) {o : Oper} {a : Act} {K : Act → World → Prop} {Q : Exit → Act → World → Prop} (s x : Operand) (t : TypeId)
 (ho : o.op = .call { callee := .builtin .append, args := #[s, x], argTypes := #[t, t] })
 (base : Nat) (e : TypeId) (i : TypeInfo) (z : Value) (size bytes : Nat) (ht : P.underlying t = some (.slice e)) (hi : P.info? e = some i) (hz : i.zero = some z)
 (hsize : i.size = size) (hby : i.bytes = bytes) (hzs : z.cells.size = size) (hsz : 0 < size)
 (v : Value) (n : Nat) (xs : List Value) (hs : a.eval s = v) (hown : w.ownsRow base e size v n xs)
 (ad : Addr) (m c : Nat) (news : List Value) (hx : a.eval x = .slice (some ad) m c) (hl : news.length = m * size) (hnews : ∀ j u, news[j]? = some u → w.cell? (ad.add j) = some u) (h1 : ∀ u ∈ news, u.oneCell' = true)
 (h63 : n + m ≤ maxLen) (hbytes : (n + m) * bytes ≤ 140737488355328) (hbase : base ≤ w.heap.size)
 (h : ∀ v' w', w'.ownsRow base e size v' (n + m) (xs ++ news) → w.grownBy w' v.ownBlock → (∀ k, v'.ownBlock = some k → v.ownBlock = some k ∨ w.heap.size ≤ k) → K (a.put o.dst v') w') : o.wp P a w K Q := by
 obtain ⟨v', w', hr, h2, h3, h4⟩ := run_append_far (P := P) w base t o.type e i z size bytes ht hi hz hsize hby hzs hsz v n xs hown ad m c news hl hnews h1 h63 hbytes hbase
 unfold Oper.wp execOp
 simp only [ho, resolve, invoke, builtin, Sem.run_bind, Sem.run_pure, Result.andThen_ok, List.map_toArray, List.map_cons, List.map_nil, hs, hx, hr]
 exact h v' w' h2 h3 h4
abbrev MSpo.T (p : Pos) (b off pb : Nat) (cs : Array Value) (T0 : TypeId) (v : Value) (w W : World) : Prop := Fr (fun k => k = b ∨ v.ownBlock = some k) w W ∧ blk W pb = some (.cells (posCells p) 30 (0, 0)) ∧ blk W b = some (.cells cs T0 (0, 0)) ∧ W.cell? ⟨b, off, none⟩ = some v
def MSpo (p : Pos) (b off pb : Nat) (cs : Array Value) (T0 : TypeId) (v : Value) (w W : World) : Prop := MSpo.T p b off pb cs T0 v w W
theorem MSpo.u {p b off pb cs T0 v w} (W) (h : MSpo p b off pb cs T0 v w W) : MSpo.T p b off pb cs T0 v w W := h
theorem MSpo.ext {p : Pos} {b off pb : Nat} {cs : Array Value} {T0 : TypeId} {v : Value} {w W W' : World} (h : MSpo p b off pb cs T0 v w W) (hx : Ext W W') : MSpo p b off pb cs T0 v w W' := by
 obtain ⟨h1, h2, h3, h4⟩ := h
 exact ⟨h1.exts hx, (hx.blk _ (blk_lt h2)).trans h2, (hx.blk _ (blk_lt h3)).trans h3, (hx.cell _ _ (blk_lt h3)).trans h4⟩
theorem rPut_at (b off : Nat) (cs : Array Value) (T0 : TypeId) (v : Value) (Ps : List Pos) (p : Pos) (w : World) (hb : blk w b = some (.cells cs T0 (0, 0))) (hv : cs[off]? = some v) (hT : T0 ≠ 30) (hown : w.ownsRow 0 30 133 v Ps.length (posL Ps)) (hn : Ps.length ≤ 1000) :
 Calls Tryz.prog 20 #[.pointer (some ⟨b, off, none⟩), .agg (posCells p)] w (fun e w' => e = .returned (.int .i64 (manyB (Ps ++ [p]) p)) ∧ ∃ v', blk w' b = some (.cells (cs.setIfInBounds off v') T0 (0, 0)) ∧ w'.ownsRow 0 30 133 v' (Ps ++ [p]).length (posL (Ps ++ [p])) ∧ Fr (fun k => k = b ∨ v.ownBlock = some k) w w' ∧ ∀ k, v'.ownBlock = some k → v.ownBlock = some k ∨ w.heap.size ≤ k) := by
 have hlb := blk_lt hb
 obtain ⟨a, cap, rfl⟩ := (Sl.of_own hown).form
 go_enter Tryz.func20, Tryz.ntmps20
 go_upto_region 1 with (fail)
 have hE0 : Ext w (w.alloc (.cells (posCells p) 30)).drew := (Ext.alloc (Ext.refl _) _).drew
 have hb0 := (hE0.blk _ hlb).trans hb
 have hp0 : blk (w.alloc (.cells (posCells p) 30)).drew w.heap.size = some (.cells (posCells p) 30 (0, 0)) := blk_alloc_at _ _ _ rfl
 have hM0 : MSpo p b off w.heap.size cs T0 (.slice a Ps.length cap) w (w.alloc (.cells (posCells p) 30)).drew := ⟨Fr.ext hE0, hp0, hb0, (blk_cell hb0 off).trans hv⟩
 obtain ⟨i0, hi, hz0, hz1, hz2⟩ := info_parts info_pos
 have hpo : posL [p] = (posCells p).toList := by simp [posL]
 have hne9 := own_not hown hb hT
 have hnp : (Value.slice a Ps.length cap).ownBlock ≠ some w.heap.size := fun e => by
  obtain ⟨-, cs, fr, h⟩ := own_pos hown _ e
  exact absurd (blk_lt h) (by omega)
 clear hE0 hb0 hp0
 refine wp_region_split 8 (MSpo p b off w.heap.size cs T0 (.slice a Ps.length cap) w) (by kernel_rfl) (by kernel_rfl) (hM0) (fun hH => ?_)
 simp only [List.take_succ_cons, List.take_zero, List.drop_succ_cons, List.drop_zero]
 refine hTz MSpo.u 0 ?_; (try go_frame)
 refine hTz MSpo.u 1 ?_; (try go_frame)
 refine hTz MSpo.u 2 ?_; (try go_frame)
 refine hTz MSpo.u 3 ?_; (try go_frame)
 refine hTz MSpo.u 4 ?_; (try go_frame)
 refine hTz MSpo.u 5 ?_; (try go_frame)
 refine hRy [6] (hCp (fun K hK => ?_) AllReadyH.nil); go_simp
 refine hK.out _ _ (by first | exact hS7 | exact hH.ext (by first | assumption | exact Ext.alloc (Ext.refl _) _)) (fun hH => ?_); clear hK; (try go_frame)
 refine hRy [7] (hCp (fun K hK => ?_) AllReadyH.nil); rw [if_pos (show Region.wanted _ _ = true from rfl)]
 have hle9 := hH.1.size
 have hown9 : ((w.alloc (.cells (posCells p) 30)).alloc (.cells (posCells p) 30)).drew.ownsRow 0 30 133 (.slice a Ps.length cap) Ps.length (posL Ps) := own_drew (own_alloc (own_alloc hown _) _)
 refine wp_append_far _ _ _ 22 rfl 0 30 i0 _ 133 1064 Tryz.underlying22 hi hz0 hz1 hz2 (by simp [Value.cells]) (by decide) _ _ _ rfl hown9 ⟨w.heap.size + 1, 0, none⟩ 1 1 (posL [p]) rfl (by rw [posL_len]; rfl) (by rw [hpo]; exact cells_row2 (blk_alloc_at _ _ _ (by simp [size_drew]))) (posL_one2 _) (by unfold maxLen; omega) (by omega) (Nat.zero_le _) (fun v' w10 hown10 hg10 hf10 => ?_)
 obtain ⟨ga, gc, rfl⟩ := (Sl.of_own hown10).form
 have hp9 := hH.2.1
 have hb9 := hH.2.2.1
 have hb10 := (hg10.block b (blk_lt hb9) (fun e => hne9 e.symm)).trans hb9
 have hp10 : blk w10 w.heap.size = some (.cells (posCells p) 30 (0, 0)) := (hg10.block w.heap.size (blk_lt hp9) (fun e => hnp e.symm)).trans hp9
 have hS7 : MSpo p b off w.heap.size cs T0 (.slice a Ps.length cap) w w10 := ⟨hH.1.trans (Fr.grown (F := fun k => (Value.slice a Ps.length cap).ownBlock = some k) hg10 (fun k e => e)) (fun k _ e => .inr e), hp10, hb10, (blk_cell hb10 off).trans hv⟩
 refine hK.out _ _ (by first | exact hS7 | exact hH.ext (by first | assumption | exact Ext.alloc (Ext.refl _) _)) (fun hH => ?_); clear hK; (try go_frame)
 refine wpAnyH_done (by kernel_rfl) ?_ _
 simp only [splitQ]
 have hW10 := hH.1
 have d1 := (blk_cell hb10 off).trans hv
 have fz := blk_froz hb10
 have lb := blk_lt hb10
 have hnb : w.heap.size ≠ b := (by omega)
 have hp11 : blk (w10.setCell ⟨b, off, none⟩ (.slice ga (Ps.length + 1) gc)) w.heap.size = some (.cells (posCells p) 30 (0, 0)) := (blk_setCell_past _ _ _ _ hnb).trans hp10
 have hown11 : w10.ownsRow 0 30 133 (.slice ga (Ps.length + 1) gc) (Ps ++ [p]).length (posL (Ps ++ [p])) := (by rw [posL_append, List.length_append]; exact hown10)
 have hb11 : blk (w10.setCell ⟨b, off, none⟩ (.slice ga (Ps.length + 1) gc)) b = some (.cells (cs.setIfInBounds off (.slice ga (Ps.length + 1) gc)) T0 (0, 0)) := blk_setCell_same _ _ _ _ _ _ hb10
 have hlo := (Array.getElem?_eq_some_iff.1 hv).1
 have hne11 := own_not hown11 hb10 hT
 have hown12 : (w10.setCell ⟨b, off, none⟩ (.slice ga (Ps.length + 1) gc)).ownsRow 0 30 133 (.slice ga (Ps.length + 1) gc) (Ps ++ [p]).length (posL (Ps ++ [p])) := own_past2 hown11 hne11 off _
 have hMC := rMany_at b off _ (Ps ++ [p]) p _ (blk_lt hb11) ((blk_cell hb11 off).trans (by simp [hlo])) (SlP.of_own hown12) (by rw [List.length_append, List.length_singleton]; omega)
 have hWP : Fr (fun k => k = b ∨ (Value.slice a Ps.length cap).ownBlock = some k) w (w10.setCell ⟨b, off, none⟩ (.slice ga (Ps.length + 1) gc)) := hW10.set (fun _ => .inl rfl) _
 have hfin : ∀ k, (Value.slice ga (Ps.length + 1) gc).ownBlock = some k → (Value.slice a Ps.length cap).ownBlock = some k ∨ w.heap.size ≤ k := fun k hk => (by
  rcases hf10 k hk with h | h
  ·exact .inl h
  ·exact .inr (Nat.le_trans (by simp [size_drew]; omega) h))
 have HF := hid hfin
 have HB := hid hb11
 have HO := hid hown12
 clear hM0 hH hown10 hb11 hown12 hfin
 go_wp2_with (go_at_call 24; (with_reducible refine hMC.mono ?_); rintro e w12 ⟨rfl, hx12⟩)
 go_ret
 exact ⟨rfl, _, (hx12.blk _ (blk_lt HB.out)).trans HB.out, own_ext HO.out hx12, hWP.exts hx12, HF.out⟩
end Go.Proofs.YtdmgimfgoajmjaaGreatDoor
