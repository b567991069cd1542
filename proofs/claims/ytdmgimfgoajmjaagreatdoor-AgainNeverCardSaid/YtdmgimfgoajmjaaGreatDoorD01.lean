/- A run of legal moves, and the book that follows it. -/
import Derived.Test.YtdmgimfgoajmjaaGreatDoorD00
import Derived.Test.YtdmgimfgoajmjaaGreatDoorC50
set_option linter.unusedVariables false
set_option linter.unusedSimpArgs false
namespace Go.Proofs.YtdmgimfgoajmjaaGreatDoor
open Go.RowKit Go.Maps
def MSN (q : Pos) (pb gz iz : Nat) (z : Int) (ga im : Nat) (x : Mv) (w0 W : World) : Prop := Ext w0 W ∧ blk W pb = some (.cells (posCells q) 30 (0, 0)) ∧ W.cell? ⟨gz, iz, none⟩ = some (.int .i64 z) ∧ W.cell? ⟨ga, im, none⟩ = some (.int .i64 x.fr) ∧ W.cell? ⟨ga, im + 1, none⟩ = some (.int .i64 x.to_) ∧ W.cell? ⟨ga, im + 2, none⟩ = some (.int .i64 x.be) ∧ gz < w0.heap.size ∧ ga < w0.heap.size ∧ pb < w0.heap.size
theorem MSN.ext {q : Pos} {pb gz iz : Nat} {z : Int} {ga im : Nat} {x : Mv} {w0 W W' : World} (h : MSN q pb gz iz z ga im x w0 W) (hx : Ext W W') : MSN q pb gz iz z ga im x w0 W' := by
  obtain ⟨h1, h2, h3, h4, h5, h6, h7, h8, h9⟩ := h
  have l1 := h1.le
  exact ⟨h1.trans hx, (hx.blk _ (blk_lt h2)).trans h2, by rw [hx.cell _ _ (by omega)]; exact h3, by rw [hx.cell _ _ (by omega)]; exact h4, by rw [hx.cell _ _ (by omega)]; exact h5, by rw [hx.cell _ _ (by omega)]; exact h6, h7, h8, h9⟩
theorem MSN.row {q : Pos} {pb gz iz : Nat} {z : Int} {ga im : Nat} {x : Mv} {w0 W : World} (h : MSN q pb gz iz z ga im x w0 W) {n : Nat} (hn : w0.heap.size ≤ n) (cs : Array Value) : MSN q pb gz iz z ga im x w0 (W.setRow n cs) := by
  obtain ⟨h1, h2, h3, h4, h5, h6, h7, h8, h9⟩ := h
  have kc : ∀ k o, k < w0.heap.size → (W.setRow n cs).cell? ⟨k, o, none⟩ = W.cell? ⟨k, o, none⟩ := fun k o hk => World.cell?_of_block (setRow_other W n k cs (by show k ≠ n; omega))
  exact ⟨Ext.setRow h1 hn cs, (setRow_blk_past (by omega)).trans h2, (kc _ _ h7).trans h3, (kc _ _ h8).trans h4, (kc _ _ h8).trans h5, (kc _ _ h8).trans h6, h7, h8, h9⟩
theorem MSN.al {q : Pos} {pb gz iz : Nat} {z : Int} {ga im : Nat} {x : Mv} {w0 W : World} (h : MSN q pb gz iz z ga im x w0 W) : ∃ n W', W.heap.size = n ∧ W.alloc (.cells (posCells Pos.zero) 30) = W' ∧ MSN q pb gz iz z ga im x w0 W' ∧ blk W' n = some (.cells (posCells Pos.zero) 30 (0, 0)) ∧ w0.heap.size ≤ n ∧ Ext W W' :=
  ⟨_, _, rfl, rfl, h.ext (Ext.alloc (Ext.refl _) _), blk_alloc_at _ _ _ rfl, h.1.le, Ext.alloc (Ext.refl _) _⟩
theorem MSN.bl {q : Pos} {pb gz iz : Nat} {z : Int} {ga im : Nat} {x : Mv} {w0 W : World} (h : MSN q pb gz iz z ga im x w0 W) : ∃ n W', W.heap.size = n ∧ W.alloc (.cells #[.int .i64 x.fr, .int .i64 x.to_, .int .i64 x.be] 51) = W' ∧ MSN q pb gz iz z ga im x w0 W' ∧ blk W' n = some (.cells #[.int .i64 x.fr, .int .i64 x.to_, .int .i64 x.be] 51 (0, 0)) ∧ Ext W W' :=
  ⟨_, _, rfl, rfl, h.ext (Ext.alloc (Ext.refl _) _), blk_alloc_at _ _ _ rfl, Ext.alloc (Ext.refl _) _⟩
theorem rng_ok {p : Pos} (h : positionB p = true) : Rng p := by
  have H := parts_iff.1 h
  obtain ⟨hok, -, -, ht⟩ := pieces_iff.1 H.pieces
  have hc := H.castles
  unfold castlesB at hc
  rw [Bool.and_eq_true, decide_eq_true_eq] at hc
  have ho := H.over
  unfold overB at ho
  refine ⟨fun i hi => ?_, fun i hi => ?_, ?_, ?_, ?_⟩
  · have := okSq_iff.1 (hok i hi); unfold inI; omega
  · have := okSq_iff.1 (hok i hi); unfold inI; omega
  · unfold inI; omega
  · unfold inI; omega
  · unfold inI
    simp only [Bool.or_eq_true, Bool.and_eq_true, decide_eq_true_eq] at ho
    rcases ho with ho | ⟨⟨⟨⟨ho, -⟩, -⟩, -⟩, -⟩
    · omega
    · unfold rankOf overRank at ho
      split at ho
      · omega
      · split at ho <;> omega
def MSnr (q : Pos) (n g : Nat) (cur : Array Value) (T : TypeId) (fr : Nat × Nat) (w0 W : World) : Prop := Ext w0 W ∧ blk W n = some (.cells (posCells q) 30 (0, 0)) ∧ blk W g = some (.cells cur T fr)
theorem MSnr.ext {q : Pos} {n g : Nat} {cur : Array Value} {T : TypeId} {fr : Nat × Nat} {w0 W W' : World} (h : MSnr q n g cur T fr w0 W) (hx : Ext W W') : MSnr q n g cur T fr w0 W' :=
  ⟨h.1.trans hx, (hx.blk _ (blk_lt h.2.1)).trans h.2.1, (hx.blk _ (blk_lt h.2.2)).trans h.2.2⟩
theorem MSnr.of {q : Pos} {n g : Nat} {cur : Array Value} {T : TypeId} {fr : Nat × Nat} {w0 W : World} (hx : Ext w0 W) (hb : blk w0 n = some (.cells (posCells q) 30 (0, 0))) (hg : blk w0 g = some (.cells cur T fr)) : MSnr q n g cur T fr w0 W := ⟨hx, (hx.blk _ (blk_lt hb)).trans hb, (hx.blk _ (blk_lt hg)).trans hg⟩
theorem held_var {P : Program} {id : Nat} {ops : Array Oper} {Q : Exit → Act → World → Prop} {a : Act} {w : World} {S : World → Prop} (hm : P.follows .mixedOrders = true) (hS : S w.drew)
    (h : ∀ W, S W → wpAnyH P .any ops Q S ops.size (Array.replicate ops.size false) a W) : (Code.region id ops true).wp P Q a w := wp_region_held_drew hm hS (h _)
structure NS (w : World) (b m B : Nat) (v : Value) (Ps Qs : List Pos) (q : Pos) (D : DataW Unit) (W : World) : Prop where
  ext : Ext w W
  pos : blk W w.heap.size = some (.cells (posCells q) 30 (0, 0))
  book : blk W b = some (.cells #[.map (some m)] 101 (0, 0))
  cnt : Cnt W m Qs.length D
  good : Good D Qs
  own : W.ownsRow B 30 133 v Ps.length (posL Ps)
  lo : w.heap.size < b ∧ w.heap.size < m ∧ b ≠ m ∧ b < B ∧ m < B ∧ B ≤ W.heap.size
theorem NS.up {w W W' : World} {b m B : Nat} {v : Value} {Ps Qs : List Pos} {q : Pos} {D : DataW Unit} (h : NS w b m B v Ps Qs q D W) (hx : Ext W W') : NS w b m B v Ps Qs q D W' :=
  ⟨h.ext.trans hx, (hx.blk _ (blk_lt h.pos)).trans h.pos, (hx.blk _ (blk_lt h.book)).trans h.book, h.cnt.ext hx, h.good, own_ext h.own hx, by obtain ⟨a1, a2, a3, a4, a5, a6⟩ := h.lo; exact ⟨a1, a2, a3, a4, a5, Nat.le_trans a6 hx.le⟩⟩
theorem NS.puts {w W : World} {b m B : Nat} {v : Value} {Ps Qs : List Pos} {q x : Pos} {D : DataW Unit} (h : NS w b m B v Ps Qs q D W) (hx : Rng x) (ht : Tab10 w.heap.size w) (hn : Qs.length ≤ 1000) :
    Calls Tryz.prog 19 #[.pointer (some ⟨b, 0, none⟩), .agg (posCells x)] W (fun e W' => e = .returned (.int .i64 ((manyB Qs x : Nat) + 1 : Int)) ∧ (∃ D', NS w b m B v Ps (Qs ++ [x]) q D' W') ∧ W.grownBy W' (some m)) := by
  have hl := many_le Qs x
  refine (Put_any b m Qs.length D x (manyB Qs x) W h.book h.cnt (by omega) hx (ht.up h.ext) (h.good.at_ x) (by omega) (by omega)).mono ?_
  rintro e W' ⟨rfl, hc, hg⟩
  obtain ⟨l1, l2, l3, l4, l5, l6⟩ := h.lo
  have he := h.ext
  refine ⟨rfl, ⟨_, ⟨hg.os.trans he.os, hg.tape.trans he.tape, hg.output.trans he.output, Nat.le_trans he.le hg.size, fun k hk => (hg.block k (Nat.lt_of_lt_of_le hk he.le) (by simp; omega)).trans (he.blk k hk)⟩, (hg.block _ (blk_lt h.pos) (by simp; omega)).trans h.pos, (hg.block _ (blk_lt h.book) (by simp; omega)).trans h.book, by rw [List.length_append]; exact hc, h.good.put x, own_blocks h.own (fun k hk => ?_), ⟨l1, l2, l3, l4, l5, Nat.le_trans l6 hg.size⟩⟩, hg⟩
  obtain ⟨hB, cs, fr, hk2⟩ := own_pos h.own k hk
  exact hg.block k (blk_lt hk2) (by simp; omega)
theorem NS.many {w W : World} {b m B : Nat} {v : Value} {Ps Qs : List Pos} {q x : Pos} {D : DataW Unit} (h : NS w b m B v Ps Qs q D W) (hx : Rng x) (ht : Tab10 w.heap.size w) : Calls Tryz.prog 23 #[.pointer (some ⟨b, 0, none⟩), .agg (posCells x)] W (Ret (.int .i64 (manyB Qs x)) W) :=
  Many_any b m _ D x _ W h.book h.cnt hx (ht.up h.ext) (h.good.at_ x)
theorem NS.most {w W : World} {b m B : Nat} {v : Value} {Ps Qs : List Pos} {q : Pos} {D : DataW Unit} (h : NS w b m B v Ps Qs q D W) (hn : Qs.length ≤ 1000) : Calls Tryz.prog 21 #[.pointer (some ⟨b, 0, none⟩)] W (Ret (.int .i64 (mostB Qs)) W) :=
  Most_any b m _ D Qs W h.book h.cnt h.good hn
theorem NS.step {w W : World} {b m B : Nat} {v : Value} {Ps Qs : List Pos} {q : Pos} {D : DataW Unit} (h : NS w b m B v Ps Qs q D W) (q' : Pos) : NS w b m B v Ps Qs q' D (W.setRow w.heap.size (posCells q')) := by
  obtain ⟨l1, l2, l3, l4, l5, l6⟩ := h.lo
  exact ⟨Ext.setRow h.ext (Nat.le_refl _) _, setRow_blk h.pos, (setRow_blk_past (by omega)).trans h.book, h.cnt.keep (setRow_blk_past (by omega)), h.good, own_blocks h.own (fun k hk => setRow_blk_past (by have := (own_pos h.own k hk).1; omega)), l1, l2, l3, l4, l5, by simpa using l6⟩
theorem NS.app {w W W' : World} {b m B : Nat} {v v' : Value} {Ps Ps' Qs : List Pos} {q : Pos} {D : DataW Unit} (h : NS w b m B v Ps Qs q D W) (ho : W'.ownsRow B 30 133 v' Ps'.length (posL Ps')) (hg : W.grownBy W' v.ownBlock) : NS w b m B v' Ps' Qs q D W' := by
  obtain ⟨l1, l2, l3, l4, l5, l6⟩ := h.lo
  have hne : ∀ k, k < B → some k ≠ v.ownBlock := fun k hk e => by have := (own_pos h.own k e.symm).1; omega
  have he := h.ext
  exact ⟨⟨hg.os.trans he.os, hg.tape.trans he.tape, hg.output.trans he.output, Nat.le_trans he.le hg.size, fun k hk => (hg.block k (Nat.lt_of_lt_of_le hk he.le) (hne k (by omega))).trans (he.blk k hk)⟩, (hg.block _ (blk_lt h.pos) (hne _ (by omega))).trans h.pos, (hg.block _ (blk_lt h.book) (hne _ (by omega))).trans h.book, h.cnt.keep (hg.block _ h.cnt.lt (hne _ (by omega))), h.good, ho, l1, l2, l3, l4, l5, Nat.le_trans l6 hg.size⟩
theorem NS.put {w W : World} {b m : Nat} {Ps : List Pos} {x : Pos} {D : DataW Unit} (hb : blk W b = some (.cells #[.map (some m)] 101 (0, 0))) (hc : Cnt W m Ps.length D) (hg : Good D Ps) (hx : Rng x) (ht : Tab10 w.heap.size w) (hE : Ext w W) (hn : Ps.length ≤ 1000) :
    Calls Tryz.prog 19 #[.pointer (some ⟨b, 0, none⟩), .agg (posCells x)] W (fun e W' => e = .returned (.int .i64 ((manyB Ps x : Nat) + 1 : Int)) ∧ Cnt W' m (Ps ++ [x]).length (D.put (.string (keyT x)) (.lit (.int .i64 ((manyB Ps x : Nat) + 1 : Int)))) ∧ W.grownBy W' (some m)) := by
  have hl := many_le Ps x
  rw [List.length_append, List.length_singleton]
  exact Put_any b m Ps.length D x (manyB Ps x) W hb hc (by omega) hx (ht.up hE) (hg.at_ x) (by omega) (by omega)
theorem own_one {W : World} {g : Nat} {p : Pos} (h : blk W g = some (.cells (posCells p) 30 (0, 0))) : W.ownsRow g 30 133 (.slice (some ⟨g, 0, none⟩) 1 1) 1 (posL [p]) :=
  ⟨by rw [posL_len]; rfl, .inr ⟨g, 1, posCells p, rfl, Nat.le_refl _, h, Nat.le_refl _, by unfold maxLen; omega, by rw [posCells_size], by simp [posL, posCells_size, List.take_of_length_le]⟩⟩
def SlI (w : World) (v : Value) (zs : List Int) : Prop := (∃ a cap, v = .slice a zs.length cap) ∧ (0 < zs.length → Sl w 1 v zs.length (ints zs))
set_option maxRecDepth 100000 in
set_option maxHeartbeats 4000000 in
theorem Never_any (p : Pos) (zs : List Int) (v : Value) (w : World) (hS : SlI w v zs) (hz : ∀ z ∈ zs, inI z) (hp : Rng p) (ht : Tab10 w.heap.size w) :
    Calls Tryz.prog 5 #[.agg (posCells p), v] w (Ret (.bool true) w) := by
  obtain ⟨a, cap, rfl⟩ := hS.1
  have hE0 : Ext w (w.alloc (.cells (posCells p) 30)) := Ext.alloc (Ext.refl w) _
  have hA := Awake_any _ (ht.up hE0)
  have HPO : ∀ W, Calls Tryz.prog 28 #[.agg (posCells p)] W (Ret (.bool (positionB p)) W) := fun W => Position_any p W
  have hN := fun W (h : Ext w W) => New_any (.slice none 0 0) [] W (.inl ⟨⟨_, _, rfl⟩, rfl⟩) (by simp) (by simp) (ht.up h)
  have HZ := hid hz
  have HT := hid ht
  have HSS := hid hS
  have HN := hid hN
  clear hz ht hS hN
  by_cases hbig : 14 < zs.length
  · go_enter Tryz.func5, Tryz.ntmps5
    go_wp2_with (go_at_call 12; (with_reducible refine hA.mono ?_); rintro e w1 ⟨rfl, hx1⟩)
    go_ret
    exact Ret.mk' rfl (hE0.trans hx1)
  · cases hpos : positionB p
    · rw [hpos] at HPO
      clear hpos
      go_enter Tryz.func5, Tryz.ntmps5
      go_wp2_with (first
        | (go_at_call 12; (with_reducible refine hA.mono ?_); rintro e w1 ⟨rfl, hx1⟩; (have hp1 := (hx1.blk w.heap.size (by simp)).trans (blk_alloc_at w (.cells (posCells p) 30) _ rfl)))
        | (go_at_call 28; (with_reducible refine (HPO _).mono ?_); rintro e w2 ⟨rfl, hx2⟩))
      go_ret
      exact Ret.mk' rfl (hE0.trans (hx1.trans hx2))
    · rw [hpos] at HPO
      have HP := hid hpos
      clear hpos
      go_enter Tryz.func5, Tryz.ntmps5
      go_upto_region 5 with (first
        | (go_at_call 12; (with_reducible refine hA.mono ?_); rintro e w1 ⟨rfl, hx1⟩; (have hp1 := (hx1.blk w.heap.size (by simp)).trans (blk_alloc_at w (.cells (posCells p) 30) _ rfl)))
        | (go_at_call 28; (with_reducible refine (HPO _).mono ?_); rintro e w2 ⟨rfl, hx2⟩))
      have hx12 := hx1.trans hx2
      have hp2 := (hx2.blk _ (blk_lt hp1)).trans hp1
      have hE2 : Ext w w2 := hE0.trans hx12
      have hN2 := HN.out w2 hE2
      clear hA HPO hx1 hx2 hx12 hp1 hE0
      go_upto_region 7 with (go_at_call 13; (with_reducible refine hN2.mono ?_); rintro e w3 ⟨b, m, D0, rfl, lb, lm, hbm, hb3, hcn, hgd, hx3⟩; (have hp3 := (hx3.blk _ (blk_lt hp2)).trans hp2); (have lp3 := blk_lt hp3))
      have hE3 : Ext w3 (w3.alloc (.cells (posCells p) 30)) := Ext.alloc (Ext.refl _) _
      have ho4 := own_one (blk_alloc_at w3 (.cells (posCells p) 30) _ rfl)
      have hb4 := (hE3.blk _ (blk_lt hb3)).trans hb3
      have hp4 := (hE3.blk _ lp3).trans hp3
      have hPU := NS.put (Ps := []) hb4 (hcn.ext hE3) hgd hp HT.out (hE2.trans (hx3.trans hE3)) (by simp)
      have HE3 := hid hE3
      have HX3 := hid hx3
      have HO4 := hid ho4
      have HGD := hid hgd
      have HCN := hid hcn
      clear hgd hcn ho4 hx3 hN2 hE3
      go_upto_block 0 with (go_at_call 19; (with_reducible refine hPU.mono ?_); rintro e w5 ⟨rfl, hc5, hg5⟩)
      have lb3 : w.heap.size < b := Nat.lt_of_lt_of_le (blk_lt hp2) lb
      have lm3 : w.heap.size < m := Nat.lt_of_lt_of_le (blk_lt hp2) lm
      have hE4 : Ext w (w3.alloc (.cells (posCells p) 30)) := hE2.trans (HX3.out.trans HE3.out)
      have hE5 : Ext w w5 := ⟨hg5.os.trans hE4.os, hg5.tape.trans hE4.tape, hg5.output.trans hE4.output, Nat.le_trans hE4.le hg5.size, fun k' hk' => (hg5.block k' (Nat.lt_of_lt_of_le hk' hE4.le) (by simp; omega)).trans (hE4.blk k' hk')⟩
      have hmB : m < w3.heap.size := HCN.out.lt
      have hNS : NS w b m w3.heap.size (.slice (some ⟨w3.heap.size, 0, none⟩) 1 1) [p] [p] p (D0.put (.string (keyT p)) (.lit (.int .i64 ((manyB [] p : Nat) + 1 : Int)))) w5 :=
        ⟨hE5, (hg5.block _ (blk_lt hp4) (by simp; omega)).trans hp4, (hg5.block _ (blk_lt hb4) (by simp; omega)).trans hb4, hc5, HGD.out.put p, own_blocks HO4.out (fun k' hk' => hg5.block k' (by simp [Value.ownBlock] at hk'; subst hk'; simp) (by simp [Value.ownBlock] at hk'; subst hk'; simp; omega)), lb3, lm3, hbm, blk_lt hb3, hmB, Nat.le_trans (by simp) hg5.size⟩
      generalize (.slice (some ⟨w3.heap.size, 0, none⟩) 1 1 : Value) = av at *
      generalize D0.put (.string (keyT p)) (.lit (.int .i64 ((manyB [] p : Nat) + 1 : Int))) = D1 at *
      generalize w3.heap.size = B at *
      clear hc5 hg5 hE5 hE4 hPU hb4 hp4 hb3 lb lm HE3 HX3 HO4 HGD HCN
      go_wp2
      go_loopw [6, 7, 8] (fun av' f i wr => ∃ (k fr : Nat) (Ps : List Pos) (q : Pos) (D : DataW Unit), i = .int .i64 k ∧ f = .int .i64 fr ∧ k ≤ zs.length ∧ Ps.length = k + 1 ∧ NS w b m B av' Ps Ps q D wr ∧ Run Ps q fr ∧ (∀ x ∈ Ps, Rng x) ∧ Rng q) (fun _ _ i _ => zs.length - (intOf i).toNat)
      case atStart => exact ⟨0, 0, [p], p, D1, rfl, rfl, by omega, rfl, hNS, Run.start HP.out, by simpa using hp, hp⟩
      case round =>
        obtain ⟨k, fr, Ps, q, D, rfl, rfl, hk, hPl, hNSr, hRun, hrP, hrq⟩ := hrel
        by_cases hlt : k < zs.length
        · have hMV := fun W => Moves_any q W
          have hmv : movesP q = legalL q := by unfold movesP; rw [if_pos hRun.ok]
          rw [hmv] at hMV
          obtain ⟨z, hzk⟩ : ∃ z, zs[k]? = some z := ⟨_, List.getElem?_eq_getElem hlt⟩
          have hzi := HZ.out z (List.mem_of_getElem? hzk)
          obtain ⟨gz, oz, rfl, hgz, hcz⟩ := (HSS.out.2 (by omega)).pos (by omega)
          have cz := hcz k _ (ints_get hzk)
          have hgzr : gz < wr.heap.size := Nat.lt_of_lt_of_le hgz hNSr.ext.le
          rw [← hNSr.ext.cell _ _ hgz] at cz
          have hLl := legalL_len q
          have hpr := hNSr.pos
          have HNS := hid hNSr
          have HRU := hid hRun
          clear hNSr hRun hcz hmv
          by_cases hL0 : (legalL q).length = 0
          · generalize legalL q = L at *
            go_wp2_with (go_at_call 29; (with_reducible refine (hMV _).mono ?_); rintro e w2 ⟨v2, rfl, hown2, hx2⟩; (have hS2 := Sl.of_own hown2); obtain ⟨a2, c2, rfl⟩ := hS2.form)
            go_ret
            exact Ret.mk' rfl (HNS.out.ext.trans hx2)
          · obtain ⟨j, hj, hpk⟩ : ∃ j : Nat, j < (legalL q).length ∧ pickI z (legalL q).length = (j : Int) := by
              have h1 := Int.emod_nonneg z (show ((legalL q).length : Int) ≠ 0 by omega)
              have h2 := Int.emod_lt_of_pos z (show 0 < ((legalL q).length : Int) by omega)
              refine ⟨(z % ((legalL q).length : Int)).toNat, by omega, ?_⟩
              unfold pickI
              rw [if_neg (by omega), Int.toNat_of_nonneg h1]
            obtain ⟨x, hx⟩ : ∃ x, (legalL q)[j]? = some x := ⟨_, List.getElem?_eq_getElem hj⟩
            have hxm := List.mem_of_getElem? hx
            have hPK := fun W => Pick_any z (legalL q).length W hzi (by omega)
            rw [hpk] at hPK
            have hPY := play_one HRU.out.ok hxm
            have HXM := hid hxm
            obtain ⟨q', hq'⟩ : ∃ q', movedP q x = q' := ⟨_, rfl⟩
            rw [hq'] at hPY
            obtain ⟨L, hLe⟩ : ∃ L, legalL q = L := ⟨_, rfl⟩
            rw [hLe] at hPK hMV hj hx hL0 hLl
            have HQ' := hid hq'
            have HLE := hid hLe
            clear hq' hLe hxm hpk
            go_upto_region 14 with (go_at_call 29; (with_reducible refine (hMV _).mono ?_); rintro e w2 ⟨v2, rfl, hown2, hx2⟩; (have hS2 := Sl.of_own hown2); obtain ⟨a2, c2, rfl⟩ := hS2.form)
            obtain ⟨ga, oa, rfl, hga, hca⟩ := hS2.pos (by omega)
            have d0 := hca (j * 3) _ (mvsC_at hx 0 (by omega))
            have d1 := hca (j * 3 + 1) _ (mvsC_at hx 1 (by omega))
            have d2 := hca (j * 3 + 2) _ (mvsC_at hx 2 (by omega))
            simp only [mvE, List.getElem!_cons_zero, List.getElem!_cons_succ] at d0 d1 d2
            rw [← Nat.add_assoc] at d1 d2
            have cz2 : w2.cell? ⟨gz, oz + k, none⟩ = some (.int .i64 z) := by rw [hx2.cell _ _ hgzr]; exact cz
            have hp2' := (hx2.blk _ (blk_lt hpr)).trans hpr
            have hM0 : MSN q w.heap.size gz (oz + k) z ga (oa + j * 3) x w2 w2.drew := ⟨Ext.drew (Ext.refl _), hp2', cz2, d0, d1, d2, Nat.lt_of_lt_of_le hgzr hx2.le, hga, blk_lt hp2'⟩
            have HPL : ∀ (W : World) (n' : Nat), blk W n' = some (.cells #[.int .i64 x.fr, .int .i64 x.to_, .int .i64 x.be] 51 (0, 0)) → Calls Tryz.prog 30 #[.agg (posCells q), .slice (some ⟨n', 0, none⟩) 1 1] W (Ret (.tuple #[.agg (posCells q'), .int .i64 0]) W) := fun W n' hb' => by
              have := Play_any q [x] (.slice (some ⟨n', 0, none⟩) 1 1) W (Sl.of_blk hb' 3 1 rfl 1) (by simp)
              rw [hPY] at this
              exact this
            have HX2 := hid hx2
            have HHX := hid hx
            clear hca d0 d1 d2 cz2 hp2' hS2 hown2 hx2 hx hPY hpr cz
            go_cut [10, 11] (fun v10 v11 wx => ∃ n, v10 = .pointer (some ⟨n, 0, none⟩) ∧ v11 = .int .i64 0 ∧ blk wx n = some (.cells (posCells q') 30 (0, 0)) ∧ w2.heap.size ≤ n ∧ Ext w2 wx)
            case first =>
              clear HZ HT HN HSS HP hNS lb3 lm3 hbm hmB hPl hrP hrq HNS HRU HXM HQ' HLE hMV HX2 HHX
              refine held_var (S := MSN q w.heap.size gz (oz + k) z ga (oa + j * 3) x w2) (by kernel_rfl) (hM0) (fun W0 hH => ?_)
              refine hTk (i := 0) (v := ?_) (hy := Or.inl ⟨by rfl, ?_⟩) (h := ?_); rotate_left 1; (intro w0 hS; (try dsimp only at hS); unfold MSN at hS; go_simp; try with_reducible rfl); (try go_frame)
              refine hTk (i := 1) (v := ?_) (hy := Or.inl ⟨by rfl, ?_⟩) (h := ?_); rotate_left 1; (intro w0 hS; (try dsimp only at hS); unfold MSN at hS; go_simp; try with_reducible rfl); (try go_frame)
              refine hTk (i := 2) (v := ?_) (hy := Or.inl ⟨by rfl, ?_⟩) (h := ?_); rotate_left 1; (intro w0 hS; (try dsimp only at hS); unfold MSN at hS; go_simp; try with_reducible rfl); (try go_frame)
              refine hTk (i := 3) (v := ?_) (hy := Or.inl ⟨by rfl, ?_⟩) (h := ?_); rotate_left 1; (intro w0 hS; (try dsimp only at hS); unfold MSN at hS; go_simp; try with_reducible rfl); (try go_frame)
              refine hTk (i := 4) (v := ?_) (hy := Or.inl ⟨by rfl, ?_⟩) (h := ?_); rotate_left 1; (intro w0 hS; (try dsimp only at hS); unfold MSN at hS; go_simp; try with_reducible rfl); (try go_frame)
              refine hTk (i := 5) (v := ?_) (hy := Or.inl ⟨by rfl, ?_⟩) (h := ?_); rotate_left 1; (intro w0 hS; (try dsimp only at hS); unfold MSN at hS; go_simp; try with_reducible rfl); (try go_frame)
              refine hTk (i := 6) (v := ?_) (hy := Or.inl ⟨by rfl, ?_⟩) (h := ?_); rotate_left 1; (intro w0 hS; (try dsimp only at hS); unfold MSN at hS; go_simp; try with_reducible rfl); (try go_frame)
              refine hTk (i := 7) (v := ?_) (hy := Or.inl ⟨by rfl, ?_⟩) (h := ?_); rotate_left 1; (intro w0 hS; (try dsimp only at hS); unfold MSN at hS; go_simp; try with_reducible rfl); (try go_frame)
              refine wpAnyH_ready (rs := [8, 16]) (by kernel_rfl) (by simp) ?_; refine (hCo (h := fun K hK => ?_) (hs := (hCo (h := fun K hK => ?_) (hs := AllReadyH.nil))))
              · go_simp
                refine (hPK _).mono ?_
                rintro e w8 ⟨rfl, hx8⟩
                try have hz16 := (hx8.blk _ (blk_lt hz16)).trans hz16
                refine hK.out _ _ (by first | exact hH16 | exact hH11 | exact hH.ext (by assumption) | exact hH.row hle16 _) (fun hH => ?_); clear hK; (try go_frame)
                refine hTk (i := 9) (v := ?_) (hy := Or.inl ⟨by rfl, ?_⟩) (h := ?_); rotate_left 1; (intro w0 hS; (try dsimp only at hS); unfold MSN at hS; go_simp; try with_reducible rfl); (try go_frame)
                refine hTk (i := 10) (v := ?_) (hy := Or.inl ⟨by rfl, ?_⟩) (h := ?_); rotate_left 1; (intro w0 hS; (try dsimp only at hS); unfold MSN at hS; go_simp; try with_reducible rfl); (try go_frame)
                refine wpAnyH_ready (rs := [11, 16]) (by kernel_rfl) (by simp) ?_; refine (hCo (h := fun K hK => ?_) (hs := (hCo (h := fun K hK => ?_) (hs := AllReadyH.nil))))
                · go_simp
                  obtain ⟨n11, W11, e11, f11, hH11, hb11, hx11⟩ := hH.bl
                  rw [e11, f11]
                  try have hz16 := (hx11.blk _ (blk_lt hz16)).trans hz16
                  refine hK.out _ _ (by first | exact hH16 | exact hH11 | exact hH.ext (by assumption) | exact hH.row hle16 _) (fun hH => ?_); clear hK; (try go_frame)
                  refine wpAnyH_ready (rs := [12, 16]) (by kernel_rfl) (by simp) ?_; refine (hCo (h := fun K hK => ?_) (hs := (hCo (h := fun K hK => ?_) (hs := AllReadyH.nil))))
                  · go_simp
                    refine (HPL _ _ hb11).mono ?_
                    rintro e w9 ⟨rfl, hx9⟩
                    try have hz16 := (hx9.blk _ (blk_lt hz16)).trans hz16
                    refine hK.out _ _ (by first | exact hH16 | exact hH11 | exact hH.ext (by assumption) | exact hH.row hle16 _) (fun hH => ?_); clear hK; (try go_frame)
                    refine hTk (i := 13) (v := ?_) (hy := Or.inl ⟨by rfl, ?_⟩) (h := ?_); rotate_left 1; (intro w0 hS; (try dsimp only at hS); unfold MSN at hS; go_simp; try with_reducible rfl); (try go_frame)
                    refine hTk (i := 14) (v := ?_) (hy := Or.inl ⟨by rfl, ?_⟩) (h := ?_); rotate_left 1; (intro w0 hS; (try dsimp only at hS); unfold MSN at hS; go_simp; try with_reducible rfl); (try go_frame)
                    refine hTk (i := 15) (v := ?_) (hy := Or.inl ⟨by rfl, ?_⟩) (h := ?_); rotate_left 1; (intro w0 hS; (try dsimp only at hS); unfold MSN at hS; go_simp; try with_reducible rfl); (try go_frame)
                    refine wpAnyH_ready (rs := [16]) (by kernel_rfl) (by simp) ?_; refine hCo (h := fun K hK => ?_) (hs := AllReadyH.nil); go_simp
                    obtain ⟨n16, W16, e16, f16, hH16, hz16, hle16, hx16⟩ := hH.al
                    rw [e16, f16]
                    try have hb11 := (hx16.blk _ (blk_lt hb11)).trans hb11
                    refine hK.out _ _ (by first | exact hH16 | exact hH11 | exact hH.ext (by assumption) | exact hH.row hle16 _) (fun hH => ?_); clear hK; (try go_frame)
                    refine wpAnyH_ready (rs := [17]) (by kernel_rfl) (by simp) ?_; refine hCo (h := fun K hK => ?_) (hs := AllReadyH.nil); go_simp
                    have hq17 := setRow_blk (cs := posCells q') hz16
                    refine hK.out _ _ (by first | exact hH16 | exact hH11 | exact hH.ext (by assumption) | exact hH.row hle16 _) (fun hH => ?_); clear hK; (try go_frame)
                    refine hTk (i := 18) (v := ?_) (hy := Or.inl ⟨by rfl, ?_⟩) (h := ?_); rotate_left 1; (intro w0 hS; (try dsimp only at hS); unfold MSN at hS; go_simp; try with_reducible rfl); (try go_frame)
                    refine wpAnyH_done (by kernel_rfl) ?_ _
                    go_wp2
                    go_meet
                    case rel => exact ⟨n16, rfl, rfl, hq17, hle16, hH.1⟩
                  · go_simp
                    obtain ⟨n16, W16, e16, f16, hH16, hz16, hle16, hx16⟩ := hH.al
                    rw [e16, f16]
                    try have hb11 := (hx16.blk _ (blk_lt hb11)).trans hb11
                    refine hK.out _ _ (by first | exact hH16 | exact hH11 | exact hH.ext (by assumption) | exact hH.row hle16 _) (fun hH => ?_); clear hK; (try go_frame)
                    refine wpAnyH_ready (rs := [12]) (by kernel_rfl) (by simp) ?_; refine hCo (h := fun K hK => ?_) (hs := AllReadyH.nil); go_simp
                    refine (HPL _ _ hb11).mono ?_
                    rintro e w9 ⟨rfl, hx9⟩
                    try have hz16 := (hx9.blk _ (blk_lt hz16)).trans hz16
                    refine hK.out _ _ (by first | exact hH16 | exact hH11 | exact hH.ext (by assumption) | exact hH.row hle16 _) (fun hH => ?_); clear hK; (try go_frame)
                    refine hTk (i := 13) (v := ?_) (hy := Or.inl ⟨by rfl, ?_⟩) (h := ?_); rotate_left 1; (intro w0 hS; (try dsimp only at hS); unfold MSN at hS; go_simp; try with_reducible rfl); (try go_frame)
                    refine hTk (i := 14) (v := ?_) (hy := Or.inl ⟨by rfl, ?_⟩) (h := ?_); rotate_left 1; (intro w0 hS; (try dsimp only at hS); unfold MSN at hS; go_simp; try with_reducible rfl); (try go_frame)
                    refine hTk (i := 15) (v := ?_) (hy := Or.inl ⟨by rfl, ?_⟩) (h := ?_); rotate_left 1; (intro w0 hS; (try dsimp only at hS); unfold MSN at hS; go_simp; try with_reducible rfl); (try go_frame)
                    refine wpAnyH_ready (rs := [17]) (by kernel_rfl) (by simp) ?_; refine hCo (h := fun K hK => ?_) (hs := AllReadyH.nil); go_simp
                    have hq17 := setRow_blk (cs := posCells q') hz16
                    refine hK.out _ _ (by first | exact hH16 | exact hH11 | exact hH.ext (by assumption) | exact hH.row hle16 _) (fun hH => ?_); clear hK; (try go_frame)
                    refine hTk (i := 18) (v := ?_) (hy := Or.inl ⟨by rfl, ?_⟩) (h := ?_); rotate_left 1; (intro w0 hS; (try dsimp only at hS); unfold MSN at hS; go_simp; try with_reducible rfl); (try go_frame)
                    refine wpAnyH_done (by kernel_rfl) ?_ _
                    go_wp2
                    go_meet
                    case rel => exact ⟨n16, rfl, rfl, hq17, hle16, hH.1⟩
                · go_simp
                  obtain ⟨n16, W16, e16, f16, hH16, hz16, hle16, hx16⟩ := hH.al
                  rw [e16, f16]
                  try have hb11 := (hx16.blk _ (blk_lt hb11)).trans hb11
                  refine hK.out _ _ (by first | exact hH16 | exact hH11 | exact hH.ext (by assumption) | exact hH.row hle16 _) (fun hH => ?_); clear hK; (try go_frame)
                  refine wpAnyH_ready (rs := [11]) (by kernel_rfl) (by simp) ?_; refine hCo (h := fun K hK => ?_) (hs := AllReadyH.nil); go_simp
                  obtain ⟨n11, W11, e11, f11, hH11, hb11, hx11⟩ := hH.bl
                  rw [e11, f11]
                  try have hz16 := (hx11.blk _ (blk_lt hz16)).trans hz16
                  refine hK.out _ _ (by first | exact hH16 | exact hH11 | exact hH.ext (by assumption) | exact hH.row hle16 _) (fun hH => ?_); clear hK; (try go_frame)
                  refine wpAnyH_ready (rs := [12]) (by kernel_rfl) (by simp) ?_; refine hCo (h := fun K hK => ?_) (hs := AllReadyH.nil); go_simp
                  refine (HPL _ _ hb11).mono ?_
                  rintro e w9 ⟨rfl, hx9⟩
                  try have hz16 := (hx9.blk _ (blk_lt hz16)).trans hz16
                  refine hK.out _ _ (by first | exact hH16 | exact hH11 | exact hH.ext (by assumption) | exact hH.row hle16 _) (fun hH => ?_); clear hK; (try go_frame)
                  refine hTk (i := 13) (v := ?_) (hy := Or.inl ⟨by rfl, ?_⟩) (h := ?_); rotate_left 1; (intro w0 hS; (try dsimp only at hS); unfold MSN at hS; go_simp; try with_reducible rfl); (try go_frame)
                  refine hTk (i := 14) (v := ?_) (hy := Or.inl ⟨by rfl, ?_⟩) (h := ?_); rotate_left 1; (intro w0 hS; (try dsimp only at hS); unfold MSN at hS; go_simp; try with_reducible rfl); (try go_frame)
                  refine hTk (i := 15) (v := ?_) (hy := Or.inl ⟨by rfl, ?_⟩) (h := ?_); rotate_left 1; (intro w0 hS; (try dsimp only at hS); unfold MSN at hS; go_simp; try with_reducible rfl); (try go_frame)
                  refine wpAnyH_ready (rs := [17]) (by kernel_rfl) (by simp) ?_; refine hCo (h := fun K hK => ?_) (hs := AllReadyH.nil); go_simp
                  have hq17 := setRow_blk (cs := posCells q') hz16
                  refine hK.out _ _ (by first | exact hH16 | exact hH11 | exact hH.ext (by assumption) | exact hH.row hle16 _) (fun hH => ?_); clear hK; (try go_frame)
                  refine hTk (i := 18) (v := ?_) (hy := Or.inl ⟨by rfl, ?_⟩) (h := ?_); rotate_left 1; (intro w0 hS; (try dsimp only at hS); unfold MSN at hS; go_simp; try with_reducible rfl); (try go_frame)
                  refine wpAnyH_done (by kernel_rfl) ?_ _
                  go_wp2
                  go_meet
                  case rel => exact ⟨n16, rfl, rfl, hq17, hle16, hH.1⟩
              · go_simp
                obtain ⟨n16, W16, e16, f16, hH16, hz16, hle16, hx16⟩ := hH.al
                rw [e16, f16]
                try have hb11 := (hx16.blk _ (blk_lt hb11)).trans hb11
                refine hK.out _ _ (by first | exact hH16 | exact hH11 | exact hH.ext (by assumption) | exact hH.row hle16 _) (fun hH => ?_); clear hK; (try go_frame)
                refine wpAnyH_ready (rs := [8]) (by kernel_rfl) (by simp) ?_; refine hCo (h := fun K hK => ?_) (hs := AllReadyH.nil); go_simp
                refine (hPK _).mono ?_
                rintro e w8 ⟨rfl, hx8⟩
                try have hz16 := (hx8.blk _ (blk_lt hz16)).trans hz16
                refine hK.out _ _ (by first | exact hH16 | exact hH11 | exact hH.ext (by assumption) | exact hH.row hle16 _) (fun hH => ?_); clear hK; (try go_frame)
                refine hTk (i := 9) (v := ?_) (hy := Or.inl ⟨by rfl, ?_⟩) (h := ?_); rotate_left 1; (intro w0 hS; (try dsimp only at hS); unfold MSN at hS; go_simp; try with_reducible rfl); (try go_frame)
                refine hTk (i := 10) (v := ?_) (hy := Or.inl ⟨by rfl, ?_⟩) (h := ?_); rotate_left 1; (intro w0 hS; (try dsimp only at hS); unfold MSN at hS; go_simp; try with_reducible rfl); (try go_frame)
                refine wpAnyH_ready (rs := [11]) (by kernel_rfl) (by simp) ?_; refine hCo (h := fun K hK => ?_) (hs := AllReadyH.nil); go_simp
                obtain ⟨n11, W11, e11, f11, hH11, hb11, hx11⟩ := hH.bl
                rw [e11, f11]
                try have hz16 := (hx11.blk _ (blk_lt hz16)).trans hz16
                refine hK.out _ _ (by first | exact hH16 | exact hH11 | exact hH.ext (by assumption) | exact hH.row hle16 _) (fun hH => ?_); clear hK; (try go_frame)
                refine wpAnyH_ready (rs := [12]) (by kernel_rfl) (by simp) ?_; refine hCo (h := fun K hK => ?_) (hs := AllReadyH.nil); go_simp
                refine (HPL _ _ hb11).mono ?_
                rintro e w9 ⟨rfl, hx9⟩
                try have hz16 := (hx9.blk _ (blk_lt hz16)).trans hz16
                refine hK.out _ _ (by first | exact hH16 | exact hH11 | exact hH.ext (by assumption) | exact hH.row hle16 _) (fun hH => ?_); clear hK; (try go_frame)
                refine hTk (i := 13) (v := ?_) (hy := Or.inl ⟨by rfl, ?_⟩) (h := ?_); rotate_left 1; (intro w0 hS; (try dsimp only at hS); unfold MSN at hS; go_simp; try with_reducible rfl); (try go_frame)
                refine hTk (i := 14) (v := ?_) (hy := Or.inl ⟨by rfl, ?_⟩) (h := ?_); rotate_left 1; (intro w0 hS; (try dsimp only at hS); unfold MSN at hS; go_simp; try with_reducible rfl); (try go_frame)
                refine hTk (i := 15) (v := ?_) (hy := Or.inl ⟨by rfl, ?_⟩) (h := ?_); rotate_left 1; (intro w0 hS; (try dsimp only at hS); unfold MSN at hS; go_simp; try with_reducible rfl); (try go_frame)
                refine wpAnyH_ready (rs := [17]) (by kernel_rfl) (by simp) ?_; refine hCo (h := fun K hK => ?_) (hs := AllReadyH.nil); go_simp
                have hq17 := setRow_blk (cs := posCells q') hz16
                refine hK.out _ _ (by first | exact hH16 | exact hH11 | exact hH.ext (by assumption) | exact hH.row hle16 _) (fun hH => ?_); clear hK; (try go_frame)
                refine hTk (i := 18) (v := ?_) (hy := Or.inl ⟨by rfl, ?_⟩) (h := ?_); rotate_left 1; (intro w0 hS; (try dsimp only at hS); unfold MSN at hS; go_simp; try with_reducible rfl); (try go_frame)
                refine wpAnyH_done (by kernel_rfl) ?_ _
                go_wp2
                go_meet
                case rel => exact ⟨n16, rfl, rfl, hq17, hle16, hH.1⟩
            case rest =>
              obtain ⟨n, rfl, rfl, hbn, hln, hxx⟩ := hcut
              have hnr : wr.heap.size ≤ n := Nat.le_trans HX2.out.le hln
              have hBn : B ≤ n := Nat.le_trans HNS.out.lo.2.2.2.2.2 hnr
              have hNSx := (HNS.out.up HX2.out).up hxx
              have hst := HRU.out.step HXM.out
              rw [HQ'.out] at hst
              obtain ⟨hR2, hfar⟩ := hst
              obtain ⟨fr', hfr'⟩ : ∃ f, fromI q q' fr Ps.length = f := ⟨_, rfl⟩
              rw [hfr'] at hR2 hfar
              have hrq' : Rng q' := rng_ok hR2.ok
              obtain ⟨F, hF⟩ : ∃ F, (decide (q'.half = 0) || decide (q'.castle ≠ q.castle)) = F := ⟨_, rfl⟩
              have hf1 : F = true → (Ps.length : Int) = fr' := by
                intro e
                rw [e] at hF
                rw [← hfr']
                unfold fromI
                rw [if_pos (by simpa using hF)]
              have hf0 : F = false → (fr : Int) = fr' := by
                intro e
                rw [e] at hF
                rw [← hfr']
                unfold fromI
                rw [if_neg (by simp at hF ⊢; exact hF)]
              have hkn : ∀ g, u6.ownBlock = some g → g ≠ n := fun g hg => by
                obtain ⟨-, cs, f9, h9⟩ := own_pos HNS.out.own g hg
                have := blk_lt h9
                omega
              obtain ⟨a6, c6, rfl⟩ := (Sl.of_own HNS.out.own).form
              have hSP := SlP.of_own HNS.out.own
              rcases hSP with ⟨-, h0⟩ | ⟨g, o, cap', cur, T, fr0, hv, hg, hat⟩
              · rw [h0] at hPl; simp at hPl
              injection hv with hv1 hv2 hv3
              subst hv1
              subst hv3
              have hgx := ((HX2.out.trans hxx).blk _ (blk_lt hg)).trans hg
              have HF := hid hF
              have HF1 := hid hf1
              have HF0 := hid hf0
              have HR2 := hid hR2
              have HFAR := hid hfar
              have HRP := hid hrP
              have HPl := hid hPl
              have hP15 : Ps.length ≤ 15 := by omega
              clear hPl hF hf1 hf0 hfr' hR2 hfar hMV hxx HX2 HHX HRU HXM HQ' HLE hPK HPL HNS hrP hM0 hg
              go_upto_region 17 with (fail)
              refine world_cut (fun W => NS w b m B (.slice (some ⟨g, o, none⟩) Ps.length c6) Ps Ps q D W ∧ blk W n = some (.cells (posCells q') 30 (0, 0)) ∧ blk W g = some (.cells cur T fr0)) ⟨hNSx, hbn, hgx⟩ ?_
              clear hNSx hbn hgx
              rintro W7 ⟨hN7, hb7, hg7⟩
              have hp7 := hN7.pos
              have d131 := (blk_cell hb7 131).trans (posCells_half q')
              have d129 := (blk_cell hb7 129).trans (posCells_castle q')
              have e129 := (blk_cell hp7 129).trans (posCells_castle q)
              have HN7 := hid hN7
              clear hN7
              go_cut [69] (fun s69 W8 => s69 = .bool F ∧ W7 = W8)
              case first =>
                by_cases h0 : q'.half = 0
                · go_wp2
                  go_meet
                  case rel => exact ⟨vbool (by rw [← HF.out]; simp [h0]), rfl⟩
                · by_cases h1 : q'.castle = q.castle
                  · go_wp2
                    go_meet
                    case rel => exact ⟨vbool (by rw [← HF.out]; simp [h0, h1]), rfl⟩
                  · go_wp2
                    go_meet
                    case rel => exact ⟨vbool (by rw [← HF.out]; simp [h0, h1]), rfl⟩
              case rest =>
              obtain ⟨rfl, rfl⟩ := hcut
              clear d131 d129 e129 HF
              go_upto_if 69 with (fail)
              go_cut [7] (fun s7 W8 => s7 = .int .i64 fr' ∧ W7 = W8)
              case first =>
                cases F
                · have HE := hid (HF0.out rfl)
                  clear HF0 HF1
                  go_wp2
                  go_meet
                  case rel => exact ⟨vint HE.out, rfl⟩
                · have HE := hid (HF1.out rfl)
                  clear HF0 HF1
                  go_wp2
                  go_meet
                  case rel => exact ⟨vint HE.out, rfl⟩
              case rest =>
              obtain ⟨rfl, rfl⟩ := hcut
              clear HF0 HF1
              go_wp2
              go_loopw [12, 13] (fun vn vk wk => ∃ j : Nat, vk = .int .i64 j ∧ vn = .int .i64 ((manyB (Ps.take j) q' : Nat) + 1 : Int) ∧ j ≤ Ps.length ∧ Ext W7 wk) (fun _ i _ => Ps.length - (intOf i).toNat)
              case atStart => exact ⟨0, rfl, vint (by simp [manyB]), by omega, Ext.refl _⟩
              case round =>
                obtain ⟨j, rfl, rfl, hj, hxk⟩ := hrel
                by_cases hjl : j < Ps.length
                · obtain ⟨y, hy⟩ : ∃ y, Ps[j]? = some y := ⟨_, List.getElem?_eq_getElem hjl⟩
                  obtain ⟨hk1, hk2⟩ := hat j y hy
                  have hms := many_snoc (p := q') hy
                  have hml := many_le (Ps.take j) q'
                  rw [List.length_take] at hml
                  have HSA : ∀ W, Ext W7 W → Calls Tryz.prog 16 #[.agg (posCells y), .agg (posCells q')] W (Ret (.bool (sameB y q')) W) := fun W h => Same_any y q' W (HRP.out y (List.mem_of_getElem? hy)) hrq' (HT.out.up (HN7.out.ext.trans h))
                  have hM0 := MSnr.of hxk hb7 hg7
                  cases hsm : sameB y q'
                  · rw [hsm] at HSA
                    rw [hsm, if_neg (by simp)] at hms
                    clear hsm hy hat
                    go_wp2
                    refine wp_region_held_drew (S := MSnr q' n g cur T fr0 W7) (by kernel_rfl) (hM0.ext (Ext.drew (Ext.refl _))) (fun hH => ?_)
                    refine hTk (i := 0) (v := ?_) (hy := Or.inl ⟨by rfl, ?_⟩) (h := ?_); rotate_left 1; (intro w0 hS; (try dsimp only at hS); unfold MSnr at hS; go_simp; try with_reducible rfl); (try go_frame)
                    refine hTk (i := 1) (v := ?_) (hy := Or.inl ⟨by rfl, ?_⟩) (h := ?_); rotate_left 1; (intro w0 hS; (try dsimp only at hS); unfold MSnr at hS; go_simp; try with_reducible rfl); (try go_frame)
                    refine hTk (i := 2) (v := ?_) (hy := Or.inl ⟨by rfl, ?_⟩) (h := ?_); rotate_left 1; (intro w0 hS; (try dsimp only at hS); unfold MSnr at hS; go_simp; try with_reducible rfl); (try go_frame)
                    refine hTk (i := 3) (v := ?_) (hy := Or.inl ⟨by rfl, ?_⟩) (h := ?_); rotate_left 1; (intro w0 hS; (try dsimp only at hS); unfold MSnr at hS; go_simp; try with_reducible rfl); (try go_frame)
                    refine hTk (i := 4) (v := ?_) (hy := Or.inl ⟨by rfl, ?_⟩) (h := ?_); rotate_left 1; (intro w0 hS; (try dsimp only at hS); unfold MSnr at hS; go_simp; try with_reducible rfl); (try go_frame)
                    refine wpAnyH_ready (rs := [5]) (by kernel_rfl) (by simp) ?_; refine hCo (h := fun K hK => ?_) (hs := AllReadyH.nil); go_simp
                    refine (HSA _ hH.1).mono ?_
                    rintro e w8 ⟨rfl, hx8⟩
                    refine hK.out _ _ (hH.ext (by assumption)) (fun hH => ?_); clear hK; (try go_frame)
                    refine wpAnyH_done (by kernel_rfl) ?_ _
                    have hxk9 := hH.1
                    clear hH hM0 HSA
                    go_wp2
                    go_roundw
                    case rel => exact ⟨j + 1, by go_num, vint (by rw [hms]; rfl), by omega, hxk9⟩
                    case measure => simp [intOf]; omega
                  · rw [hsm] at HSA
                    rw [hsm, if_pos rfl] at hms
                    have hge : ¬ ((j : Int) < (fr' : Int)) := fun h => by
                      have := HFAR.out j y (by omega) hy
                      rw [hsm] at this
                      cases this
                    clear hsm hy hat
                    go_wp2
                    refine wp_region_held_drew (S := MSnr q' n g cur T fr0 W7) (by kernel_rfl) (hM0.ext (Ext.drew (Ext.refl _))) (fun hH => ?_)
                    refine hTk (i := 0) (v := ?_) (hy := Or.inl ⟨by rfl, ?_⟩) (h := ?_); rotate_left 1; (intro w0 hS; (try dsimp only at hS); unfold MSnr at hS; go_simp; try with_reducible rfl); (try go_frame)
                    refine hTk (i := 1) (v := ?_) (hy := Or.inl ⟨by rfl, ?_⟩) (h := ?_); rotate_left 1; (intro w0 hS; (try dsimp only at hS); unfold MSnr at hS; go_simp; try with_reducible rfl); (try go_frame)
                    refine hTk (i := 2) (v := ?_) (hy := Or.inl ⟨by rfl, ?_⟩) (h := ?_); rotate_left 1; (intro w0 hS; (try dsimp only at hS); unfold MSnr at hS; go_simp; try with_reducible rfl); (try go_frame)
                    refine hTk (i := 3) (v := ?_) (hy := Or.inl ⟨by rfl, ?_⟩) (h := ?_); rotate_left 1; (intro w0 hS; (try dsimp only at hS); unfold MSnr at hS; go_simp; try with_reducible rfl); (try go_frame)
                    refine hTk (i := 4) (v := ?_) (hy := Or.inl ⟨by rfl, ?_⟩) (h := ?_); rotate_left 1; (intro w0 hS; (try dsimp only at hS); unfold MSnr at hS; go_simp; try with_reducible rfl); (try go_frame)
                    refine wpAnyH_ready (rs := [5]) (by kernel_rfl) (by simp) ?_; refine hCo (h := fun K hK => ?_) (hs := AllReadyH.nil); go_simp
                    refine (HSA _ hH.1).mono ?_
                    rintro e w8 ⟨rfl, hx8⟩
                    refine hK.out _ _ (hH.ext (by assumption)) (fun hH => ?_); clear hK; (try go_frame)
                    refine wpAnyH_done (by kernel_rfl) ?_ _
                    have hxk9 := hH.1
                    clear hH hM0 HSA
                    go_wp2
                    go_roundw
                    case rel => exact ⟨j + 1, by go_num, vint (by rw [hms]; go_num), by omega, hxk9⟩
                    case measure => simp [intOf]; omega
                · obtain rfl : j = Ps.length := by omega
                  rw [List.take_length]
                  have hN9 := HN7.out.up hxk
                  have hb9 := (hxk.blk _ (blk_lt hb7)).trans hb7
                  have hCP := Copy_any b m _ D _ hN9.book hN9.cnt
                  have HN9 := hid hN9
                  have hml := many_le Ps q'
                  have hmo := most_last Ps q'
                  have hml9 := many_last Ps q'
                  clear hat hxk hg7 hb7 hN9
                  go_upto_region 28 with (go_at_call 32; (with_reducible refine hCP.mono ?_); rintro e w3 ⟨b2, m2, rfl, lb2, lm2, hbm2, hb2, hc2, hx3⟩)
                  have hN3 := HN9.out.up hx3
                  have hb3 := (hx3.blk _ (blk_lt hb9)).trans hb9
                  have hPU := hN3.puts hrq' HT.out (by omega)
                  have lms := hN3.lo
                  have HN3 := hid hN3
                  have hmlt := HN9.out.cnt.lt
                  have hblt := blk_lt HN9.out.book
                  have hnlt := blk_lt hb9
                  have hPln : (Ps ++ [q']).length ≤ 1000 := by rw [List.length_append, List.length_singleton]; omega
                  obtain ⟨M, hM⟩ : ∃ M, manyB Ps q' = M := ⟨_, rfl⟩
                  obtain ⟨Mo, hMo⟩ : ∃ M, mostB (Ps ++ [q']) = M := ⟨_, rfl⟩
                  rw [hM] at hPU hml hmo hml9
                  rw [hMo] at hmo
                  have HGD := hid HN9.out.good
                  have HM := hid hM
                  have HMo := hid hMo
                  have hnm : n ≠ m := by have := HN9.out.lo.2.2.2.2.1; omega
                  have hm2 : m2 ≠ m := by omega
                  have hb2m : b2 ≠ m := by omega
                  clear hCP hN3 hM hMo
                  rw [HM.out]
                  go_upto_if 116 with (first
                    | (go_at_call 19; (with_reducible refine hPU.mono ?_); rintro e w5 ⟨rfl, ⟨D5, hN5⟩, hg5⟩; (have HN5 := hid hN5); (have hb5 : blk w5 n = some (.cells (posCells q') 30 (0, 0)) := (hg5.block n (blk_lt hb3) (fun e => hnm (Option.some.inj e))).trans hb3); (have hMA := hN5.many hrq' HT.out); (have hMO := hN5.most hPln); (have hb25 := (hg5.block b2 (blk_lt hb2) (fun e => hb2m (Option.some.inj e))).trans hb2); (have hc25 := hc2.keep (hg5.block m2 hc2.lt (fun e => hm2 (Option.some.inj e)))); (rw [hml9] at hMA); (rw [HMo.out] at hMO); clear hN5)
                    | (go_at_call 23; (with_reducible refine hMA.mono ?_); rintro e w6 ⟨rfl, hx6⟩; (have hb6 := (hx6.blk n (blk_lt hb5)).trans hb5); (have hMC := Many_any b2 m2 _ D q' _ w6 ((hx6.blk _ (blk_lt hb25)).trans hb25) (hc25.ext hx6) hrq' (HT.out.up (HN5.out.ext.trans hx6)) (HGD.out.at_ q')); (rw [HM.out] at hMC))
                    | (go_at_call 23; (with_reducible refine hMC.mono ?_); rintro e w8 ⟨rfl, hx8⟩; (have hMO8 := (HN5.out.up (hx6.trans hx8)).most hPln); (rw [HMo.out] at hMO8))
                    | (go_at_call 21; (with_reducible refine hMO8.mono ?_); rintro e w9 ⟨rfl, hx9⟩))
                  go_upto_region 30 with (fail)
                  have hN9 := ((HN5.out.up hx6).up hx8).up hx9
                  have hb9 := ((hx8.trans hx9).blk _ (blk_lt hb6)).trans hb6
                  have hBs := hN9.lo.2.2.2.2.2
                  have hpo : posL [q'] = (posCells q').toList := by simp [posL]
                  have HN9 := hid hN9
                  clear hb5 hx6 hx8 hx9 hMA hMC hMO hMO8 HN5 hN9 hg5 hc25 hb25 hb6 hb3 hx3 hPU hc2
                  go_upto_region 31 with (at_builtin; refine wpList_append_sl Tryz.underlying22 info_pos (by simp [Value.cells]) (by decide) (by decide) rfl _ _ rfl B _ Ps.length (posL Ps) rfl ?c0 _ 1 (posL [q']) rfl ?c1 (posL_one _) ?c2 ?c3 (fun v' w10 hown10 hg10 _ => ?_))
                  case c0 => exact own_ext HN9.out.own (Ext.alloc (Ext.refl _) _)
                  case c1 => rw [hpo]; exact Sl.of_blk (blk_alloc_at _ _ _ rfl) 133 1 (by rw [posCells_size]) 1
                  case c2 => omega
                  case c3 => simp; omega
                  have hb10 : blk w10 n = some (.cells (posCells q') 30 (0, 0)) := (hg10.block n (by simp; have := blk_lt hb9; omega) (fun e => hkn _ e.symm rfl)).trans ((blk_alloc_past _ _ _ (blk_lt hb9)).trans hb9)
                  have hN10 := (HN9.out.up (Ext.alloc (Ext.refl _) _)).app (Ps' := Ps ++ [q']) (by rw [posL_append, List.length_append]; exact hown10) hg10
                  have hp10 := hN10.pos
                  have HN10 := hid hN10
                  clear hN10 hown10 hg10 hb9
                  go_wp2
                  go_roundw
                  case rel => exact ⟨k + 1, fr', Ps ++ [q'], q', _, by go_num, rfl, by omega, by rw [List.length_append, HPl.out]; rfl, HN10.out.step q', HR2.out, fun x hx => by
                    rcases List.mem_append.1 hx with hx | hx
                    · exact HRP.out x hx
                    · simp at hx; rw [hx]; exact hrq', hrq'⟩
                  case measure => simp [intOf]; omega
        · have hx9 := hNSr.ext
          clear hNSr
          go_wp2
          go_ret
          exact Ret.mk' rfl hx9
end Go.Proofs.YtdmgimfgoajmjaaGreatDoor
