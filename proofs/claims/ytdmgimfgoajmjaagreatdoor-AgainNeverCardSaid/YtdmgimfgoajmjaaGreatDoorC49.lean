/- Both books beside each other: what the law's loop keeps of the world. -/
import Derived.Test.YtdmgimfgoajmjaaGreatDoorC46
import Derived.Test.YtdmgimfgoajmjaaGreatDoorC44
set_option linter.unusedVariables false
set_option linter.unusedSimpArgs false
namespace Go.Proofs.YtdmgimfgoajmjaaGreatDoor
open Go.RowKit Go.Maps
theorem Cnt.keep {w w' : World} {m n : Nat} {D : DataW Unit} (h : Cnt w m n D) (hk : blk w' m = blk w m) : Cnt w' m n D := by
  obtain ⟨es, cl, h1, h2⟩ := h
  exact ⟨es, cl, hk.trans h1, h2⟩
theorem Cnt.lt {w : World} {m n : Nat} {D : DataW Unit} (h : Cnt w m n D) : m < w.heap.size := by
  obtain ⟨es, cl, h1, -⟩ := h
  exact blk_lt h1
theorem Bk.ext {B b : Nat} {Ps : List Pos} {w w' : World} (h : Bk B b Ps w) (hx : Ext w w') : Bk B b Ps w' := by
  obtain ⟨v, h1, h2⟩ := h.st
  exact ⟨h.hB, v, (hx.blk _ (blk_lt h1)).trans h1, own_ext h2 hx⟩
theorem Bk.grown {B b m : Nat} {Ps : List Pos} {w w' : World} (h : Bk B b Ps w) (g : w.grownBy w' (some m)) (hm : m < B) : Bk B b Ps w' := by
  obtain ⟨v, h1, h2⟩ := h.st
  refine ⟨h.hB, v, (g.block b (blk_lt h1) (by have := h.hB; simp; omega)).trans h1, own_blocks h2 fun k hk => ?_⟩
  obtain ⟨h3, cs, fr, h4⟩ := own_pos h2 k hk
  exact g.block k (blk_lt h4) (by simp; omega)
theorem Bk.lt {B b : Nat} {Ps : List Pos} {w : World} (h : Bk B b Ps w) : b < w.heap.size := by
  obtain ⟨v, h1, -⟩ := h.st
  exact blk_lt h1
structure TS (w : World) (p : Pos) (b m B : Nat) (Ps Qs : List Pos) (D : DataW Unit) (W : World) : Prop where
  ext : Ext w W
  pos : blk W w.heap.size = some (.cells (posCells p) 30 (0, 0))
  book : blk W b = some (.cells #[.map (some m)] 101 (0, 0))
  cnt : Cnt W m Ps.length D
  good : Good D Ps
  bk : Bk B B Qs W
  lo : w.heap.size < b ∧ w.heap.size < m ∧ b ≠ m ∧ b < B ∧ m < B
theorem TS.up {w W W' : World} {p : Pos} {b m B : Nat} {Ps Qs : List Pos} {D : DataW Unit} (h : TS w p b m B Ps Qs D W) (hx : Ext W W') : TS w p b m B Ps Qs D W' :=
  ⟨h.ext.trans hx, (hx.blk _ (blk_lt h.pos)).trans h.pos, (hx.blk _ (blk_lt h.book)).trans h.book, h.cnt.ext hx, h.good, h.bk.ext hx, h.lo⟩
theorem TS.put {w W : World} {p x : Pos} {b m B : Nat} {Ps Qs : List Pos} {D : DataW Unit} (h : TS w p b m B Ps Qs D W) (hx : Rng x) (ht : Tab10 w.heap.size w) (hn : Ps.length ≤ 1000) :
    Calls Tryz.prog 19 #[.pointer (some ⟨b, 0, none⟩), .agg (posCells x)] W (fun e W' => e = .returned (.int .i64 (manyB (Ps ++ [x]) x)) ∧ ∃ D', TS w p b m B (Ps ++ [x]) Qs D' W') := by
  have hl := many_le Ps x
  refine (Put_any b m Ps.length D x (manyB Ps x) W h.book h.cnt (by omega) hx (ht.up h.ext) (h.good.at_ x) (by omega) (by omega)).mono ?_
  rintro e W' ⟨rfl, hc, hg⟩
  obtain ⟨l1, l2, l3, l4, l5⟩ := h.lo
  refine ⟨by rw [many_add, if_pos rfl]; rfl, _, ⟨?_, (hg.block _ (blk_lt h.pos) (by simp; omega)).trans h.pos, (hg.block _ (blk_lt h.book) (by simp; omega)).trans h.book, by rw [List.length_append]; exact hc, h.good.put x, h.bk.grown hg l5, h.lo⟩⟩
  have he := h.ext
  exact ⟨hg.os.trans he.os, hg.tape.trans he.tape, hg.output.trans he.output, Nat.le_trans he.le hg.size, fun k hk => (hg.block k (Nat.lt_of_lt_of_le hk he.le) (by simp; omega)).trans (he.blk k hk)⟩
theorem TS.rput {w W : World} {p x : Pos} {b m B : Nat} {Ps Qs : List Pos} {D : DataW Unit} (h : TS w p b m B Ps Qs D W) (hn : Qs.length ≤ 1000) :
    Calls Tryz.prog 20 #[.pointer (some ⟨B, 0, none⟩), .agg (posCells x)] W (fun e W' => e = .returned (.int .i64 (manyB (Qs ++ [x]) x)) ∧ TS w p b m B Ps (Qs ++ [x]) D W') := by
  obtain ⟨l1, l2, l3, l4, l5⟩ := h.lo
  refine (rPut_any B B Qs x W h.bk hn (Nat.le_of_lt h.bk.lt)).mono ?_
  rintro e W' ⟨rfl, hb, hw⟩
  have kp : ∀ k, k < B → k < W.heap.size → blk W' k = blk W k := fun k h1 h2 => hw.keep k h2 (by omega) (.inl h1)
  have he := h.ext
  refine ⟨rfl, ⟨hw.os.trans he.os, hw.tape.trans he.tape, hw.output.trans he.output, Nat.le_trans he.le hw.size, fun k hk => (kp k (by omega) (Nat.lt_of_lt_of_le hk he.le)).trans (he.blk k hk)⟩, (kp _ (by omega) (blk_lt h.pos)).trans h.pos, (kp _ l4 (blk_lt h.book)).trans h.book, h.cnt.keep (kp _ l5 h.cnt.lt), h.good, hb, h.lo⟩
theorem TS.most {w W : World} {p : Pos} {b m B : Nat} {Ps Qs : List Pos} {D : DataW Unit} (h : TS w p b m B Ps Qs D W) (hn : Ps.length ≤ 1000) : Calls Tryz.prog 21 #[.pointer (some ⟨b, 0, none⟩)] W (Ret (.int .i64 (mostB Ps)) W) :=
  Most_any b m _ D Ps W h.book h.cnt h.good hn
theorem TS.rmost {w W : World} {p : Pos} {b m B : Nat} {Ps Qs : List Pos} {D : DataW Unit} (h : TS w p b m B Ps Qs D W) (hn : Qs.length ≤ 1000) : Calls Tryz.prog 22 #[.pointer (some ⟨B, 0, none⟩)] W (Ret (.int .i64 (mostB Qs)) W) := by
  obtain ⟨v, h1, h2⟩ := h.bk.st
  exact rMost_any B v Qs W h1 (SlP.of_own h2) (by omega)
theorem TS.many {w W : World} {p : Pos} {b m B : Nat} {Ps Qs : List Pos} {D : DataW Unit} (h : TS w p b m B Ps Qs D W) (q : Pos) (hq : Rng q) (ht : Tab10 w.heap.size w) : Calls Tryz.prog 23 #[.pointer (some ⟨b, 0, none⟩), .agg (posCells q)] W (Ret (.int .i64 (manyB Ps q)) W) :=
  Many_any b m _ D q _ W h.book h.cnt hq (ht.up h.ext) (h.good.at_ q)
theorem TS.rmany {w W : World} {p : Pos} {b m B : Nat} {Ps Qs : List Pos} {D : DataW Unit} (h : TS w p b m B Ps Qs D W) (q : Pos) (hn : Qs.length ≤ 1000) : Calls Tryz.prog 24 #[.pointer (some ⟨B, 0, none⟩), .agg (posCells q)] W (Ret (.int .i64 (manyB Qs q)) W) := by
  obtain ⟨v, h1, h2⟩ := h.bk.st
  exact rMany_any B v Qs q W h1 (SlP.of_own h2) (by omega)
theorem Bk.start (w : World) : Bk w.heap.size w.heap.size [] (w.alloc (.cells #[.slice none 0 0] 36)) :=
  ⟨Nat.le_refl _, .slice none 0 0, blk_alloc_at _ _ _ rfl, by rfl, .inl ⟨rfl, rfl⟩⟩
def MSl (p : Pos) (g : Nat) (cur : Array Value) (T : TypeId) (fr : Nat × Nat) (w W : World) : Prop := Ext w W ∧ blk W w.heap.size = some (.cells (posCells p) 30 (0, 0)) ∧ blk W g = some (.cells cur T fr)
theorem TS.ms {w W : World} {p : Pos} {b m B : Nat} {Ps Qs : List Pos} {D : DataW Unit} (h : TS w p b m B Ps Qs D W) {g : Nat} {cur : Array Value} {T : TypeId} {fr : Nat × Nat} (hg : blk w g = some (.cells cur T fr)) : MSl p g cur T fr w W :=
  ⟨h.ext, h.pos, (h.ext.blk _ (blk_lt hg)).trans hg⟩
def MSw (p : Pos) (pb : Nat) (w W : World) : Prop := Ext w W ∧ blk W pb = some (.cells (posCells p) 30 (0, 0))
theorem MSw.ext {p : Pos} {pb : Nat} {w W W' : World} (h : MSw p pb w W) (hx : Ext W W') : MSw p pb w W' := ⟨h.1.trans hx, (hx.blk _ (blk_lt h.2)).trans h.2⟩
end Go.Proofs.YtdmgimfgoajmjaaGreatDoor
