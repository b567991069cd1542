/- The program's game comes to a position. -/
import Derived.Test.YtdmgimfgoajmjaaGreatDoorC38
import Derived.Test.YtdmgimfgoajmjaaGreatDoorC21
import Derived.Test.YtdmgimfgoajmjaaGreatDoorC31
set_option linter.unusedVariables false
set_option linter.unusedSimpArgs false
set_option maxRecDepth 100000
set_option maxHeartbeats 4000000
namespace Go.Proofs.YtdmgimfgoajmjaaGreatDoor
open Go.RowKit Go.Maps
structure CK (g b m : Nat) (mv : Value) (ps : List Pos) (ms : List Mv) (p : Pos) (n : Int) (pb nb : Nat) (r y : Int) (w W : World) : Prop where
 fr : Fr (fun k => k = g ∨ k = m) w W
 game : blk W g = some (.cells (gmC (.pointer (some ⟨b, 0, none⟩)) p mv r y) 142 (0, 0))
 pos : blk W pb = some (.cells (posCells p) 30 (0, 0))
 num : blk W nb = some (.cells #[.int .i64 n] 3 (0, 0))
 book : blk W b = some (.cells #[.map (some m)] 101 (0, 0))
 cnt : CntG W m ps
 own : W.ownsRow 0 51 3 mv ms.length (mvsC ms)
theorem CK.ext {g b m : Nat} {mv : Value} {ps : List Pos} {ms : List Mv} {p : Pos} {n : Int} {pb nb : Nat} {r y : Int} {w W W' : World} (h : CK g b m mv ps ms p n pb nb r y w W) (hx : Ext W W') : CK g b m mv ps ms p n pb nb r y w W' :=
 ⟨h.fr.exts hx, (hx.blk _ (blk_lt h.game)).trans h.game, (hx.blk _ (blk_lt h.pos)).trans h.pos, (hx.blk _ (blk_lt h.num)).trans h.num, (hx.blk _ (blk_lt h.book)).trans h.book, h.cnt.ext hx, own_ext h.own hx⟩
theorem ty_gb : (142 : Nat) ≠ 51 ∧ (142 : Nat) ≠ 30 ∧ (142 : Nat) ≠ 3 ∧ (142 : Nat) ≠ 101 := by decide
theorem blk_ne {W : World} {a b : Nat} {cs ds : Array Value} {S T : TypeId} {fr gr : Nat × Nat} (ha : blk W a = some (.cells cs S fr)) (hb : blk W b = some (.cells ds T gr)) (h : S ≠ T) : b ≠ a := fun e => by
 subst e
 rw [ha] at hb
 injection hb with hb
 injection hb with _ hb
 exact h hb
theorem CK.set {g b m : Nat} {mv : Value} {ps : List Pos} {ms : List Mv} {p : Pos} {n : Int} {pb nb : Nat} {r y : Int} {w W : World} (h : CK g b m mv ps ms p n pb nb r y w W) (r' y' : Int) :
 CK g b m mv ps ms p n pb nb r' y' w ((W.setCell ⟨g, 135, none⟩ (.int .i64 r')).setCell ⟨g, 136, none⟩ (.int .i64 y')) := by
 obtain ⟨t1, t2, t3, t4⟩ := ty_gb
 have k1 := blk_ne h.game h.pos t2
 have k2 := blk_ne h.game h.num t3
 have k3 := blk_ne h.game h.book t4
 have k4 := h.cnt.ne h.game
 have k5 := own_ne h.own h.game t1
 refine ⟨(h.fr.set (fun _ => .inl rfl) _).set (fun _ => .inl rfl) _, ?_, ?_, ?_, ?_, ?_, ?_⟩
 ·rw [blk_setCell_same _ _ _ _ _ _ (blk_setCell_same _ _ _ _ _ _ h.game), gm_set135, gm_set136]
 ·rw [blk_setCell_past _ _ _ _ k1, blk_setCell_past _ _ _ _ k1]; exact h.pos
 ·rw [blk_setCell_past _ _ _ _ k2, blk_setCell_past _ _ _ _ k2]; exact h.num
 ·rw [blk_setCell_past _ _ _ _ k3, blk_setCell_past _ _ _ _ k3]; exact h.book
 ·exact h.cnt.keep (by rw [blk_setCell_past _ _ _ _ (fun e => k4 e.symm), blk_setCell_past _ _ _ _ (fun e => k4 e.symm)])
 ·exact own_blocks h.own fun k hk => by
   have hne : k ≠ g := fun e => k5 (by rw [hk, e])
   exact (blk_setCell_past _ _ _ _ hne).trans (blk_setCell_past _ _ _ _ hne)
@[go_sem ↓] theorem load_asks (ρ : Operand → Value) (dst : Option Tmp) (x : Operand) (ty : TypeId) (pos : String) (af : Array Edge) (g : Option (Nat × Bool)) (w : World) :
 (execOp ρ ⟨dst, .load 183 x, ty, pos, af, g⟩).run Tryz.prog w = loadSub 4 (ρ x) w (dfltLoad Tryz.prog 183 (ρ x) w) :=
  exec_load_sub (Tryz.underlying183) (by kernel_rfl) (by kernel_rfl) ρ dst x ty pos af g w
@[go_sem ↓] theorem store_asks (ρ : Operand → Value) (dst : Option Tmp) (x y : Operand) (ty : TypeId) (pos : String) (af : Array Edge) (g : Option (Nat × Bool)) (w : World) :
 (execOp ρ ⟨dst, .store 183 x y, ty, pos, af, g⟩).run Tryz.prog w = storeSub 4 (ρ x) (ρ y) w (dfltStore Tryz.prog 183 (ρ x) (ρ y) w) :=
  exec_store_sub (by kernel_rfl) ρ dst x y ty pos af g w
@[go_sem] theorem rowOk_funcs (a b c d : Fn) (e1 e2 e3 e4 f1 f2 f3 f4 : Array Value) : rowOk #[.func a e1 f1, .func b e2 f2, .func c e3 f3, .func d e4 f4] = true := by simp [rowOk, Value.oneCell']
@[go_sem] theorem extract4 (a b c d : Value) : (#[a, b, c, d] : Array Value).extract 0 4 = #[a, b, c, d] := rfl
theorem size_ask : (Tryz.prog.info? 84).map (·.size) = some 1 := by kernel_rfl
theorem index_asks (cs : Array Value) (k : Nat) (v : Value) (w : World) (hk : k < 4) (hv : cs[k]? = some v) : (Instr.index 183 (.agg cs) (.int .i64 k)).run Tryz.prog w = .ok v w := by
 have hs := size_ask
 cases hq : Tryz.prog.info? 84 with
 | none => simp [hq] at hs
 | some j =>
   have hs2 : j.size = 1 := by simpa [hq] using hs
   have hagg : ∀ w, (isAgg 84).run Tryz.prog w = .ok false w := by
    intro w
    unfold isAgg
    rw [Sem.run_bind, run_underlying Tryz.underlying84 w]
    rfl
   have h2 : cs[k]! = v := by simp [Array.getElem!_eq_getD, Array.getD_eq_getD_getElem?, hv]
   simp [Instr.index, asIntOf, run_underlying Tryz.underlying183 w, part, hagg, sizeOf, typeInfo, hq, hs2, show (k : Int) < 4 by omega, hv, h2]
   intro h; omega
@[go_sem] theorem index_ask0 (a b c d : Value) (w : World) : (Instr.index 183 (.agg #[a, b, c, d]) (.int .i64 0)).run Tryz.prog w = .ok a w := index_asks _ 0 a w (by decide) rfl
@[go_sem] theorem index_ask1 (a b c d : Value) (w : World) : (Instr.index 183 (.agg #[a, b, c, d]) (.int .i64 1)).run Tryz.prog w = .ok b w := index_asks _ 1 b w (by decide) rfl
@[go_sem] theorem index_ask2 (a b c d : Value) (w : World) : (Instr.index 183 (.agg #[a, b, c, d]) (.int .i64 2)).run Tryz.prog w = .ok c w := index_asks _ 2 c w (by decide) rfl
@[go_sem] theorem index_ask3 (a b c d : Value) (w : World) : (Instr.index 183 (.agg #[a, b, c, d]) (.int .i64 3)).run Tryz.prog w = .ok d w := index_asks _ 3 d w (by decide) rfl
theorem CK.done {g b m : Nat} {mv : Value} {s : GS} {p : Pos} {pb nb : Nat} {r y : Int} {w W : World} (h : CK g b m mv (s.ps ++ [p]) s.ms p (manyB (s.ps ++ [p]) p : Nat) pb nb r y w W) (hr : r = outR (manyB (s.ps ++ [p]) p) p) (hy : y = outY (manyB (s.ps ++ [p]) p) p) :
 PG g b m mv (comeS s p) W ∧ Fr (fun k => k = g ∨ k = m) w W := by
 subst hr hy
 exact ⟨⟨h.game, h.book, h.cnt, h.own⟩, h.fr⟩
abbrev MScm.T (g b pb m : Nat) (mv : Value) (p : Pos) (r y : Int) (w W : World) : Prop := Fr (fun k => k = g ∨ k = m) w W ∧ blk W g = some (.cells (gmC (.pointer (some ⟨b, 0, none⟩)) p mv r y) 142 (0, 0)) ∧ blk W pb = some (.cells (posCells p) 30 (0, 0)) ∧ blk W b = some (.cells #[.map (some m)] 101 (0, 0)) ∧ W.cell? ⟨g, 0, none⟩ = some (.pointer (some ⟨b, 0, none⟩))
def MScm (g b pb m : Nat) (mv : Value) (p : Pos) (r y : Int) (w W : World) : Prop := MScm.T g b pb m mv p r y w W
theorem MScm.u {g b pb m mv p r y w} (W) (h : MScm g b pb m mv p r y w W) : MScm.T g b pb m mv p r y w W := h
theorem MScm.mk' {g b pb m : Nat} {mv : Value} {p : Pos} {r y : Int} {w W : World} (h1 : Fr (fun k => k = g ∨ k = m) w W) (h2 : blk W g = some (.cells (gmC (.pointer (some ⟨b, 0, none⟩)) p mv r y) 142 (0, 0))) (h3 : blk W pb = some (.cells (posCells p) 30 (0, 0))) (h4 : blk W b = some (.cells #[.map (some m)] 101 (0, 0))) : MScm g b pb m mv p r y w W :=
 ⟨h1, h2, h3, h4, (blk_cell h2 0).trans (gm_0 ..)⟩
theorem MScm.ext {g b pb m : Nat} {mv : Value} {p : Pos} {r y : Int} {w W W' : World} (h : MScm g b pb m mv p r y w W) (hx : Ext W W') : MScm g b pb m mv p r y w W' :=
 MScm.mk' (h.1.exts hx) ((hx.blk _ (blk_lt h.2.1)).trans h.2.1) ((hx.blk _ (blk_lt h.2.2.1)).trans h.2.2.1) ((hx.blk _ (blk_lt h.2.2.2.1)).trans h.2.2.2.1)
theorem MScm.frm {g b pb m : Nat} {mv : Value} {p : Pos} {r y : Int} {w W W' : World} (h : MScm g b pb m mv p r y w W) (hx : Fr (fun k => k = m) W W') (hg : g ≠ m) (hp : pb ≠ m) (hb : b ≠ m) : MScm g b pb m mv p r y w W' :=
 MScm.mk' (h.1.trans hx fun _ _ e => .inr e) ((hx.keep _ (blk_lt h.2.1) hg).trans h.2.1) ((hx.keep _ (blk_lt h.2.2.1) hp).trans h.2.2.1) ((hx.keep _ (blk_lt h.2.2.2.1) hb).trans h.2.2.2.1)
theorem MScm.num {g b pb m nb : Nat} {mv : Value} {p : Pos} {r y : Int} {w W : World} {v : Value} (h : MScm g b pb m mv p r y w W) (hn : w.heap.size ≤ nb) {cs : Array Value} (hb : blk W nb = some (.cells cs 3 (0, 0))) : MScm g b pb m mv p r y w (W.setCell ⟨nb, 0, none⟩ v) := by
 have k1 := blk_ne hb h.2.1 (by decide)
 have k2 := blk_ne hb h.2.2.1 (by decide)
 have k3 := blk_ne hb h.2.2.2.1 (by decide)
 exact MScm.mk' (h.1.set (fun e => by omega) _) ((blk_setCell_past _ _ _ _ k1).trans h.2.1) ((blk_setCell_past _ _ _ _ k2).trans h.2.2.1) ((blk_setCell_past _ _ _ _ k3).trans h.2.2.2.1)
theorem come_any (g b m : Nat) (mv : Value) (s : GS) (p : Pos) (B : Nat) (w : World) (h : PG g b m mv s w) (hp : Rng p) (hBg : B ≤ g) (hBm : B ≤ m) (ht : Tab10 B w) (hn : s.ps.length ≤ 900) :
 Calls Tryz.prog 82 #[.pointer (some ⟨g, 0, none⟩), .agg (posCells p)] w (fun e w' => e = .returned (.tuple #[]) ∧ PG g b m mv (comeS s p) w' ∧ Fr (fun k => k = g ∨ k = m) w w') := by
 obtain ⟨hg, hb, hc, ho⟩ := h
 have hlg := blk_lt hg
 have HC := hid hc
 have HO := hid ho
 have HT := hid ht
 have HB := hid hb
 clear hc ho ht hb
 have hgm := CntG.ne HC.out hg
 have hbm := CntG.ne HC.out HB.out
 have hmlt := HC.out.lt
 have hgb := blk_ne hg HB.out ty_gb.2.2.2
 have HOF : Hid (∀ W, Fr (fun k => k = g ∨ k = m) w W → ∀ k, mv.ownBlock = some k → blk W k = blk w k) := hid fun W hf k hk => by
  obtain ⟨-, cs, fr, h1⟩ := own_type HO.out k hk
  refine hf.keep k (blk_lt h1) ?_
  rintro (rfl | rfl)
  ·exact own_ne HO.out hg ty_gb.1 hk
  ·exact HC.out.ne h1 rfl
 go_enter Tryz.func82, Tryz.ntmps82
 go_upto_region 2 with (fail)
 have hg1 : blk ((w.setRow g (gmC (.pointer (some ⟨b, 0, none⟩)) p mv s.res s.why)).alloc (.cells (posCells p) 30)) g = some (.cells (gmC (.pointer (some ⟨b, 0, none⟩)) p mv s.res s.why) 142 (0, 0)) := (blk_alloc_past _ _ _ (by simpa using hlg)).trans (setRow_blk hg)
 have hp1 : blk ((w.setRow g (gmC (.pointer (some ⟨b, 0, none⟩)) p mv s.res s.why)).alloc (.cells (posCells p) 30)) w.heap.size = some (.cells (posCells p) 30 (0, 0)) := blk_alloc_at _ _ _ (by simp)
 have hf1 : Fr (fun k => k = g ∨ k = m) w ((w.setRow g (gmC (.pointer (some ⟨b, 0, none⟩)) p mv s.res s.why)).alloc (.cells (posCells p) 30)) := ((Fr.refl _ w).setRow (fun _ => .inl rfl) _).exts (Ext.alloc (Ext.refl _) _)
 have hm1 : MScm g b w.heap.size m mv p s.res s.why w ((w.setRow g (gmC (.pointer (some ⟨b, 0, none⟩)) p mv s.res s.why)).alloc (.cells (posCells p) 30)) := MScm.mk' hf1 hg1 hp1 ((hf1.keep b (blk_lt HB.out) (by rintro (e | e) <;> omega)).trans HB.out)
 have hc1 : CntG ((w.setRow g (gmC (.pointer (some ⟨b, 0, none⟩)) p mv s.res s.why)).alloc (.cells (posCells p) 30)) m s.ps := HC.out.keep ((blk_alloc_past _ _ _ (by simpa using hmlt)).trans (setRow_blk_past (by omega)))
 clear hg1 hp1 hf1
 refine world_cut (fun W => MScm g b w.heap.size m mv p s.res s.why w W ∧ CntG W m s.ps) ⟨hm1, hc1⟩ ?_
 clear hm1 hc1
 rintro W1 ⟨hm1, hc1⟩
 have hT1 : ∀ W, Fr (fun k => k = g ∨ k = m) w W → Tab10 W.heap.size W := fun W hf => (HT.out.fr hf (by rintro k (rfl | rfl) <;> assumption) (by omega)).mono (Nat.le_trans (by omega) hf.size)
 go_cut [4] (fun v4 wx => ∃ nb, v4 = .pointer (some ⟨nb, 0, none⟩) ∧ CK g b m mv (s.ps ++ [p]) s.ms p (manyB (s.ps ++ [p]) p : Nat) w.heap.size nb s.res s.why w wx)
 case first =>
  have HW := hid hm1
  refine held_ini (S := MScm g b w.heap.size m mv p s.res s.why w) (fun W => CntG W m s.ps) (by kernel_rfl) (hm1.ext (Ext.refl W1).drew) (hc1.ext (Ext.refl W1).drew) (fun W0 hH hI => ?_)
  refine hTz MScm.u 0 ?_; (try go_frame)
  refine hTz MScm.u 1 ?_; (try go_frame)
  refine hTz MScm.u 2 ?_; (try go_frame)
  refine hTz MScm.u 3 ?_; (try go_frame)
  refine hTz MScm.u 4 ?_; (try go_frame)
  refine hRy [5, 6] (hCp (fun K hK => ?_) (hCp (fun K hK => ?_) AllReadyH.nil))
  ·go_simp
   refine (came_any b m s.ps p _ hH.2.2.2.1 hI hp (hT1 _ hH.1) (by omega)).mono ?_
   rintro e w5 ⟨rfl, hc5, hf5⟩
   have hH5 := hH.frm hf5 hgm (by omega) hbm
   try have hz6 := (hf5.keep _ (blk_lt hz6) (by omega)).trans hz6
   try have c6 : w5.cell? ⟨n6, 0, none⟩ = some (.int .i64 0) := blk_cell hz6 0
   try have fz6 := blk_froz hz6
   clear hI
   have hI := hc5
   refine hK.out _ _ (by first | exact hH5 | exact hH6 | exact hH7) (fun hH => ?_); clear hK; (try go_frame)
   refine hRy [6] (hCp (fun K hK => ?_) AllReadyH.nil); go_simp
   obtain ⟨n6, W6, e6, f6, hz6, hx6⟩ := new_blk _ (.cells #[.int .i64 0] 3)
   have hl6 := Nat.le_trans hH.1.size (Nat.le_of_eq e6)
   have hH6 := hH.ext hx6
   rw [e6, f6]
   have c6 : W6.cell? ⟨n6, 0, none⟩ = some (.int .i64 0) := blk_cell hz6 0
   have fz6 := blk_froz hz6
   have hI := hI.ext hx6
   refine hK.out _ _ (by first | exact hH5 | exact hH6 | exact hH7) (fun hH => ?_); clear hK; (try go_frame)
   refine hRy [7] (hCp (fun K hK => ?_) AllReadyH.nil); go_simp
   have hH7 := hH.num (v := .int .i64 (manyB (s.ps ++ [p]) p : Nat)) hl6 hz6
   refine hK.out _ _ (by first | exact hH5 | exact hH6 | exact hH7) (fun hH => ?_); clear hK; (try go_frame)
   refine wpAnyH_done (by kernel_rfl) ?_ _
   go_wp2
   go_meet
   case rel => exact ⟨n6, rfl, hH.1, hH.2.1, hH.2.2.1, blk_setCell_same _ _ _ _ _ _ hz6, hH.2.2.2.1, hI.keep (blk_setCell_past _ _ _ _ (CntG.ne hI hz6).symm), own_blocks HO.out (fun k hk => HOF.out _ hH.1 k hk)⟩
  ·go_simp
   obtain ⟨n6, W6, e6, f6, hz6, hx6⟩ := new_blk _ (.cells #[.int .i64 0] 3)
   have hl6 := Nat.le_trans hH.1.size (Nat.le_of_eq e6)
   have hH6 := hH.ext hx6
   rw [e6, f6]
   have c6 : W6.cell? ⟨n6, 0, none⟩ = some (.int .i64 0) := blk_cell hz6 0
   have fz6 := blk_froz hz6
   have hI := hI.ext hx6
   refine hK.out _ _ (by first | exact hH5 | exact hH6 | exact hH7) (fun hH => ?_); clear hK; (try go_frame)
   refine hRy [5] (hCp (fun K hK => ?_) AllReadyH.nil); go_simp
   refine (came_any b m s.ps p _ hH.2.2.2.1 hI hp (hT1 _ hH.1) (by omega)).mono ?_
   rintro e w5 ⟨rfl, hc5, hf5⟩
   have hH5 := hH.frm hf5 hgm (by omega) hbm
   try have hz6 := (hf5.keep _ (blk_lt hz6) (by omega)).trans hz6
   try have c6 : w5.cell? ⟨n6, 0, none⟩ = some (.int .i64 0) := blk_cell hz6 0
   try have fz6 := blk_froz hz6
   clear hI
   have hI := hc5
   refine hK.out _ _ (by first | exact hH5 | exact hH6 | exact hH7) (fun hH => ?_); clear hK; (try go_frame)
   refine hRy [7] (hCp (fun K hK => ?_) AllReadyH.nil); go_simp
   have hH7 := hH.num (v := .int .i64 (manyB (s.ps ++ [p]) p : Nat)) hl6 hz6
   refine hK.out _ _ (by first | exact hH5 | exact hH6 | exact hH7) (fun hH => ?_); clear hK; (try go_frame)
   refine wpAnyH_done (by kernel_rfl) ?_ _
   go_wp2
   go_meet
   case rel => exact ⟨n6, rfl, hH.1, hH.2.1, hH.2.2.1, blk_setCell_same _ _ _ _ _ _ hz6, hH.2.2.2.1, hI.keep (blk_setCell_past _ _ _ _ (CntG.ne hI hz6).symm), own_blocks HO.out (fun k hk => HOF.out _ hH.1 k hk)⟩
 case rest =>
  obtain ⟨nb, rfl, hk⟩ := hcut
  clear hm1 hc1 hT1
  go_upto_block 0 with (fail)
  refine world_cut (fun W => CK g b m mv (s.ps ++ [p]) s.ms p (manyB (s.ps ++ [p]) p : Nat) w.heap.size nb s.res s.why w W) (hk.ext (Ext.alloc (Ext.refl _) _)) ?_
  clear hk
  intro W3 hk
  have HD := hid fun (r y : Int) (W : World) (h : CK g b m mv (s.ps ++ [p]) s.ms p (manyB (s.ps ++ [p]) p : Nat) w.heap.size nb r y w W) => h.done
  generalize hN : ((manyB (s.ps ++ [p]) p : Nat) : Int) = N at *
  clear hN
  have HK := hid hk
  clear hk hg HC HO HB HT HOF
  generalize (W3 : World) = W4 at *
  go_wp2
  go_loopw [24] (fun k wr => ∃ (j : Nat) (r y : Int), k = .int .i64 j ∧ j ≤ 4 ∧ CK g b m mv (s.ps ++ [p]) s.ms p N w.heap.size nb r y w wr ∧ (0 < j → r = 0 ∧ y = 0 ∧ endY p = 0) ∧ (1 < j → deadB (leftUp p 64) = false) ∧ (2 < j → ¬ 5 ≤ N) ∧ (3 < j → beyondB p [150] = false)) (fun k _ => 4 - (intOf k).toNat)
  case atStart => exact ⟨0, s.res, s.why, rfl, by omega, HK.out, by omega, by omega, by omega, by omega⟩
  case round =>
   obtain ⟨j, r, y, rfl, hj, hk, h1, h2, h3, h4⟩ := hrel
   clear HK
   have HK := hid hk
   by_cases hj4 : j = 4
   ·subst hj4
    obtain ⟨rfl, rfl, he⟩ := h1 (by omega)
    have ho : outY N p = 0 := by unfold outY; rw [if_neg (by simp [he]), if_neg (by rw [h2 (by omega)]; simp), if_neg (h3 (by omega)), if_neg (by rw [h4 (by omega)]; simp)]
    have hr : outR N p = 0 := by unfold outR; rw [if_neg (by simp [he]), if_pos ho]
    have HF := hid (HD.out 0 0 wr hk hr.symm ho.symm)
    clear hk h1 h2 h3 h4 ho hr he
    go_wp2
    go_end0
    exact ⟨rfl, HF.out⟩
   ·have hcj : j = 0 ∨ j = 1 ∨ j = 2 ∨ j = 3 := by omega
    have hpos := hk.pos
    have hnum := hk.num
    clear hk
    rcases hcj with rfl | rfl | rfl | rfl
    ·have hq := come1_any p w.heap.size wr hpos
     by_cases he : endY p = 0
     ·rw [he, end_zero he] at hq
      have HE := hid he
      clear h1 h2 h3 h4 he
      go_wp2_with (go_at_call 130; (with_reducible refine hq.mono ?_); rintro e w9 ⟨rfl, hx9⟩; (have hg9 := (HK.out.ext hx9).game); (have fz9 := blk_froz hg9); (have c135 := (blk_cell hg9 135).trans (gm_135 ..)); (have c136 := (blk_cell hg9 136).trans (gm_136 ..)))
      go_roundw
      case rel => exact ⟨1, 0, 0, by go_num, by omega, (HK.out.ext hx9).set 0 0, fun _ => ⟨rfl, rfl, HE.out⟩, by omega, by omega, by omega⟩
      case measure => simp [intOf]
     ·have hb : (endY p == 0) = false := by simpa using he
      have HR := hid (show endR p = outR N p by unfold outR; rw [if_pos he])
      have HY := hid (show endY p = outY N p by unfold outY; rw [if_pos he])
      clear h1 h2 h3 h4 he
      generalize endR p = r1 at *
      generalize endY p = y1 at *
      go_wp2_with (go_at_call 130; (with_reducible refine hq.mono ?_); rintro e w9 ⟨rfl, hx9⟩; (have hg9 := (HK.out.ext hx9).game); (have fz9 := blk_froz hg9); (have c135 := (blk_cell hg9 135).trans (gm_135 ..)); (have c136 := (blk_cell hg9 136).trans (gm_136 ..)))
      refine bodyPost_ret (results_none rfl _ _ _) rfl ?_
      exact ⟨rfl, HD.out _ _ _ ((HK.out.ext hx9).set r1 y1) HR.out HY.out⟩
    ·obtain ⟨rfl, rfl, he⟩ := h1 (by omega)
     have hq := come2_any p w.heap.size wr hpos
     cases hd : deadB (leftUp p 64)
     ·have HD0 := hid hd
      have HE := hid he
      rw [hd] at hq
      simp only [ask, askR, askY, Bool.false_eq_true, if_false] at hq
      clear h1 h2 h3 h4 he hd
      go_wp2_with (go_at_call 131; (with_reducible refine hq.mono ?_); rintro e w9 ⟨rfl, hx9⟩; (have hg9 := (HK.out.ext hx9).game); (have fz9 := blk_froz hg9); (have c135 := (blk_cell hg9 135).trans (gm_135 ..)); (have c136 := (blk_cell hg9 136).trans (gm_136 ..)))
      go_roundw
      case rel => exact ⟨2, 0, 0, by go_num, by omega, (HK.out.ext hx9).set 0 0, fun _ => ⟨rfl, rfl, HE.out⟩, by first | exact fun _ => HD0.out | exact fun _ => trivial, by omega, by omega⟩
      case measure => simp [intOf]
     ·have HY := hid (show (3 : Int) = outY N p by unfold outY; rw [if_neg (by simp [he]), if_pos hd])
      have HR := hid (show (3 : Int) = outR N p by unfold outR; rw [if_neg (by simp [he]), if_neg (by rw [← HY.out]; omega)])
      rw [hd] at hq
      simp only [ask, askR, askY, if_true] at hq
      clear h1 h2 h3 h4 he hd
      go_wp2_with (go_at_call 131; (with_reducible refine hq.mono ?_); rintro e w9 ⟨rfl, hx9⟩; (have hg9 := (HK.out.ext hx9).game); (have fz9 := blk_froz hg9); (have c135 := (blk_cell hg9 135).trans (gm_135 ..)); (have c136 := (blk_cell hg9 136).trans (gm_136 ..)))
      refine bodyPost_ret (results_none rfl _ _ _) rfl ?_
      exact ⟨rfl, HD.out _ _ _ ((HK.out.ext hx9).set 3 3) HR.out HY.out⟩
    ·obtain ⟨rfl, rfl, he⟩ := h1 (by omega)
     have gh2 := h2 (by omega)
     have hq := come3_any N nb wr (blk_cell hnum 0)
     cases hd : decide (5 ≤ N)
     ·have HD0 := hid hd
      have HE := hid he
      have Hh2 := hid gh2
      rw [hd] at hq
      simp only [ask, askR, askY, Bool.false_eq_true, if_false] at hq
      clear h1 h2 h3 h4 he hd gh2
      go_wp2_with (go_at_call 133; (with_reducible refine hq.mono ?_); rintro e w9 ⟨rfl, hx9⟩; (have hg9 := (HK.out.ext hx9).game); (have fz9 := blk_froz hg9); (have c135 := (blk_cell hg9 135).trans (gm_135 ..)); (have c136 := (blk_cell hg9 136).trans (gm_136 ..)))
      go_roundw
      case rel => exact ⟨3, 0, 0, by go_num, by omega, (HK.out.ext hx9).set 0 0, fun _ => ⟨rfl, rfl, HE.out⟩, by first | exact fun _ => Hh2.out | exact fun _ => trivial, fun _ => by have := HD0.out; simpa using this, by omega⟩
      case measure => simp [intOf]
     ·have HY := hid (show (4 : Int) = outY N p by unfold outY; rw [if_neg (by simp [he]), if_neg (by rw [gh2]; simp), if_pos (by simpa using hd)])
      have HR := hid (show (3 : Int) = outR N p by unfold outR; rw [if_neg (by simp [he]), if_neg (by rw [← HY.out]; omega)])
      rw [hd] at hq
      simp only [ask, askR, askY, if_true] at hq
      clear h1 h2 h3 h4 he hd gh2
      go_wp2_with (go_at_call 133; (with_reducible refine hq.mono ?_); rintro e w9 ⟨rfl, hx9⟩; (have hg9 := (HK.out.ext hx9).game); (have fz9 := blk_froz hg9); (have c135 := (blk_cell hg9 135).trans (gm_135 ..)); (have c136 := (blk_cell hg9 136).trans (gm_136 ..)))
      refine bodyPost_ret (results_none rfl _ _ _) rfl ?_
      exact ⟨rfl, HD.out _ _ _ ((HK.out.ext hx9).set 3 4) HR.out HY.out⟩
    ·obtain ⟨rfl, rfl, he⟩ := h1 (by omega)
     have gh2 := h2 (by omega)
     have gh3 := h3 (by omega)
     have hq := come4_any p w.heap.size wr hpos
     cases hd : beyondB p [150]
     ·have HD0 := hid hd
      have HE := hid he
      have Hh2 := hid gh2
      have Hh3 := hid gh3
      rw [hd] at hq
      simp only [ask, askR, askY, Bool.false_eq_true, if_false] at hq
      clear h1 h2 h3 h4 he hd gh2 gh3
      go_wp2_with (go_at_call 134; (with_reducible refine hq.mono ?_); rintro e w9 ⟨rfl, hx9⟩; (have hg9 := (HK.out.ext hx9).game); (have fz9 := blk_froz hg9); (have c135 := (blk_cell hg9 135).trans (gm_135 ..)); (have c136 := (blk_cell hg9 136).trans (gm_136 ..)))
      go_roundw
      case rel => exact ⟨4, 0, 0, by go_num, by omega, (HK.out.ext hx9).set 0 0, fun _ => ⟨rfl, rfl, HE.out⟩, by first | exact fun _ => Hh2.out | exact fun _ => trivial, by have := Hh3.out; omega, by first | exact fun _ => HD0.out | exact fun _ => trivial⟩
      case measure => simp [intOf]
     ·have HY := hid (show (5 : Int) = outY N p by unfold outY; rw [if_neg (by simp [he]), if_neg (by rw [gh2]; simp), if_neg gh3, if_pos hd])
      have HR := hid (show (3 : Int) = outR N p by unfold outR; rw [if_neg (by simp [he]), if_neg (by rw [← HY.out]; omega)])
      rw [hd] at hq
      simp only [ask, askR, askY, if_true] at hq
      clear h1 h2 h3 h4 he hd gh2 gh3
      go_wp2_with (go_at_call 134; (with_reducible refine hq.mono ?_); rintro e w9 ⟨rfl, hx9⟩; (have hg9 := (HK.out.ext hx9).game); (have fz9 := blk_froz hg9); (have c135 := (blk_cell hg9 135).trans (gm_135 ..)); (have c136 := (blk_cell hg9 136).trans (gm_136 ..)))
      refine bodyPost_ret (results_none rfl _ _ _) rfl ?_
      exact ⟨rfl, HD.out _ _ _ ((HK.out.ext hx9).set 3 5) HR.out HY.out⟩
@[go_sem ↓] theorem exec_mv0 (ρ : Operand → Value) (dst : Option Tmp) (ty : TypeId) (pos : String) (af : Array Edge) (g : Option (Nat × Bool)) (w : World) :
 (execOp ρ ⟨dst, .buildSlice 45 0 #[], ty, pos, af, g⟩).run Tryz.prog w = .ok (.value (.slice (some ⟨w.heap.size, 0, none⟩) 0 0)) (w.alloc (.cells #[] 51)) := by
  have h3 := size_mv
  cases hq : Tryz.prog.info? 51 with
  | none => simp [hq] at h3
  | some i =>
    have hsz : i.size = 3 := by simpa [hq] using h3
    have hsize : (sizeOf 51).run Tryz.prog w = .ok 3 w := by simp [sizeOf, typeInfo, hq, hsz]
    simp only [execOp, Instr.buildSlice, Sem.run_bind, run_underlying Tryz.underlying45 w, Result.andThen_ok, hsize]
    rw [if_neg (by decide), if_pos (by decide)]
    have e : (Array.range 0 : Array Nat) = #[] := by decide
    simp [Instr.fill, newRow, newObj, e]
    rfl
@[go_sem high] theorem eqlNilMv (w : World) : (binOp .eql 45 (.slice none 0 0) (.slice none 0 0)).run Tryz.prog w = .ok (.bool true) w := by kernel_rfl
@[go_sem high] theorem eqlSomeMv (a : Addr) (l c : Nat) (w : World) : (binOp .eql 45 (.slice (some a) l c) (.slice none 0 0)).run Tryz.prog w = .ok (.bool false) w := by kernel_rfl
theorem Clone_any (L : List Mv) (v : Value) (w : World) (hown : w.ownsRow 0 51 3 v L.length (mvsC L)) (hn : L.length ≤ 100000) :
 Calls Tryz.prog 90 #[v] w (fun e w' => ∃ v', e = .returned v' ∧ w'.ownsRow w.heap.size 51 3 v' L.length (mvsC L) ∧ Ext w w') := by
 rcases hown.2 with ⟨rfl, h0⟩ | ⟨g, cap, cur, rfl, -, hg, -⟩
 ·have HO := hid (own_base (base' := w.heap.size) hown)
  go_enter Tryz.func90, Tryz.ntmps90
  go_wp2
  go_ret
  exact ⟨_, rfl, (by
   refine ⟨hown.1, .inl ⟨rfl, h0⟩⟩), Ext.refl _⟩
 ·have hE : Ext w (w.alloc (.cells #[] 51)) := Ext.alloc (Ext.refl _) _
  have hS : Sl (w.alloc (.cells #[] 51)) 3 (.slice (some ⟨g, 0, none⟩) L.length cap) L.length (mvsC L) := (Sl.of_own hown).ext hE
  have h0 : (w.alloc (.cells #[] 51)).ownsRow w.heap.size 51 3 (.slice (some ⟨w.heap.size, 0, none⟩) 0 0) 0 [] := ⟨rfl, .inr ⟨w.heap.size, 0, #[], rfl, Nat.le_refl _, blk_alloc_at _ _ _ rfl, Nat.le_refl _, by unfold maxLen; omega, rfl, rfl⟩⟩
  clear hown
  go_enter Tryz.func90, Tryz.ntmps90
  go_wp2_with (at_builtin; refine wpList_append_sl Tryz.underlying45 info_mv rfl (by decide) (by decide) rfl _ _ rfl w.heap.size _ 0 [] rfl h0 _ L.length (mvsC L) rfl hS (mvs_one _) (by omega) ?c3 (fun v' w10 hown10 hg10 _ => ?_))
  case c3 => simp
  go_ret
  refine ⟨_, rfl, by simpa using hown10, ?_⟩
  exact ⟨hg10.os, hg10.tape, hg10.output, Nat.le_trans (by simp) hg10.size, fun k hk => (hg10.block k (by simp; omega) (fun e => by have h9 : k = w.heap.size := Option.some.inj e; omega)).trans (blk_alloc_past _ _ _ hk)⟩
theorem thereG_any {g b m : Nat} {mv : Value} {s : GS} {w : World} (h : PG g b m mv s w) : Calls Tryz.prog 83 #[.pointer (some ⟨g, 0, none⟩)] w (Ret (.bool true) w) := by
 have hg := h.game
 have c0 := (blk_cell hg 0).trans (gm_0 ..)
 clear h
 go_enter Tryz.func83, Tryz.ntmps83
 go_wp2
 go_ret
 exact Ret.mk' rfl (Ext.refl _)
def openS (s : GS) : Int := if s.res = 0 then 0 else 9
theorem openG_any {g b m : Nat} {mv : Value} {s : GS} {w : World} (h : PG g b m mv s w) : Calls Tryz.prog 84 #[.pointer (some ⟨g, 0, none⟩)] w (Ret (.int .i64 (openS s)) w) := by
 have hT := thereG_any h
 have hg := h.game
 clear h
 by_cases h0 : s.res = 0
 ·have HE := hid (show openS s = 0 from if_pos h0)
  go_enter Tryz.func84, Tryz.ntmps84
  go_wp2_with (go_at_call 83; (with_reducible refine hT.mono ?_); rintro e w1 ⟨rfl, hx1⟩; (have c1 := (blk_cell ((hx1.blk _ (blk_lt hg)).trans hg) 135).trans (gm_135 ..)))
  go_ret
  exact Ret.mk' (vint HE.out.symm) hx1
 ·have HE := hid (show openS s = 9 from if_neg h0)
  have hb : (s.res == 0) = false := by simpa using h0
  clear h0
  go_enter Tryz.func84, Tryz.ntmps84
  go_wp2_with (go_at_call 83; (with_reducible refine hT.mono ?_); rintro e w1 ⟨rfl, hx1⟩; (have c1 := (blk_cell ((hx1.blk _ (blk_lt hg)).trans hg) 135).trans (gm_135 ..)))
  go_ret
  exact Ret.mk' (vint HE.out.symm) hx1
abbrev MSgm.T (g : Nat) (r y : Int) (w W : World) : Prop := Ext w W ∧ W.cell? ⟨g, 135, none⟩ = some (.int .i64 r) ∧ W.cell? ⟨g, 136, none⟩ = some (.int .i64 y)
def MSgm (g : Nat) (r y : Int) (w W : World) : Prop := MSgm.T g r y w W
theorem MSgm.u {g r y w} (W) (h : MSgm g r y w W) : MSgm.T g r y w W := h
theorem Result_any {g b m : Nat} {mv : Value} {s : GS} {w : World} (h : PG g b m mv s w) : Calls Tryz.prog 47 #[.pointer (some ⟨g, 0, none⟩)] w (Ret (.tuple #[.int .i64 s.res, .int .i64 s.why]) w) := by
 have hT := thereG_any h
 have hg := h.game
 clear h
 go_enter Tryz.func47, Tryz.ntmps47
 go_upto_region 3 with (go_at_call 83; (with_reducible refine hT.mono ?_); rintro e w1 ⟨rfl, hx1⟩)
 have hg1 := (hx1.blk _ (blk_lt hg)).trans hg
 have hM : MSgm g s.res s.why w1 w1.drew := ⟨(Ext.refl _).drew, (blk_cell hg1 135).trans (gm_135 ..), (blk_cell hg1 136).trans (gm_136 ..)⟩
 refine wp_region_held_drew (S := MSgm g s.res s.why w1) (by kernel_rfl) (hM) (fun hH => ?_)
 refine hTz MSgm.u 0 ?_; (try go_frame)
 refine hTz MSgm.u 1 ?_; (try go_frame)
 refine hTz MSgm.u 2 ?_; (try go_frame)
 refine hTz MSgm.u 3 ?_; (try go_frame)
 refine hTz MSgm.u 4 ?_; (try go_frame)
 refine hTz MSgm.u 5 ?_; (try go_frame)
 refine hTz MSgm.u 6 ?_; (try go_frame)
 refine hTz MSgm.u 7 ?_; (try go_frame)
 refine hTz MSgm.u 8 ?_; (try go_frame)
 refine hTz MSgm.u 9 ?_; (try go_frame)
 refine wpAnyH_done (by kernel_rfl) ?_ _
 have hx2 := hH.1
 clear hM hH
 go_wp2
 go_ret2
 exact Ret.mk' rfl (hx1.trans hx2)
theorem Now_any {g b m : Nat} {mv : Value} {s : GS} {w : World} (h : PG g b m mv s w) : Calls Tryz.prog 48 #[.pointer (some ⟨g, 0, none⟩)] w (Ret (.agg (posCells s.at_)) w) := by
 have hE : Ext w (w.alloc (.cells (posCells Pos.zero) 30)) := Ext.alloc (Ext.refl _) _
 have hT := thereG_any (h.ext hE)
 have hg := (h.ext hE).game
 clear h
 go_enter Tryz.func48, Tryz.ntmps48
 go_wp2_with (go_at_call 83; (with_reducible refine hT.mono ?_); rintro e w1 ⟨rfl, hx1⟩; (have hg1 := (hx1.blk _ (blk_lt hg)).trans hg); (have hz1 := (hx1.blk w.heap.size (by simp)).trans (blk_alloc_at w (.cells (posCells Pos.zero) 30) _ rfl)))
 exact bodyPost_ret (v := .agg (posCells s.at_)) (results_cell rfl rfl (load_pos (setRow_blk hz1))) rfl ⟨rfl, Ext.setRow (hE.trans hx1) (Nat.le_refl _) _⟩
theorem MovesG_any {g b m : Nat} {mv : Value} {s : GS} {w : World} (h : PG g b m mv s w) (hn : s.ms.length ≤ 100000) : Calls Tryz.prog 49 #[.pointer (some ⟨g, 0, none⟩)] w (RetMvs s.ms w) := by
 have hT := thereG_any h
 have hg := h.game
 have hC := fun W (hx : Ext w W) => Clone_any s.ms mv W (own_ext h.own hx) hn
 clear h
 go_enter Tryz.func49, Tryz.ntmps49
 go_wp2_with (first
  | (go_at_call 83; (with_reducible refine hT.mono ?_); rintro e w1 ⟨rfl, hx1⟩; (have c1 := (blk_cell ((hx1.blk _ (blk_lt hg)).trans hg) 134).trans (gm_134 ..)))
  | (go_at_call 90; (with_reducible refine (hC _ hx1).mono ?_); rintro e w2 ⟨v2, rfl, ho2, hx2⟩))
 go_ret
 exact ⟨_, rfl, own_base ho2 hx1.le, hx1.trans hx2⟩
theorem often_any {g b m : Nat} {mv : Value} {s : GS} (p : Pos) {w : World} (h : PG g b m mv s w) (hp : Rng p) (ht : Tab10 w.heap.size w) : Calls Tryz.prog 94 #[.agg #[.pointer (some ⟨b, 0, none⟩)], .agg (posCells p)] w (Ret (.int .i64 (manyB s.ps p)) w) := by
 obtain ⟨D, hcn, hgd⟩ := h.cnt
 have hE : Ext w ((w.alloc (.cells #[.pointer (some ⟨b, 0, none⟩)] 140)).alloc (.cells (posCells p) 30)) := (Ext.auto)
 have hP := Many_any b m _ D p (manyB s.ps p) _ ((hE.blk _ (blk_lt h.book)).trans h.book) (hcn.ext hE) hp (ht.up hE) (hgd.at_ p)
 clear h
 go_enter Tryz.func94, Tryz.ntmps94
 go_wp2_with (go_at_call 23; (with_reducible refine hP.mono ?_); rintro e w5 ⟨rfl, hx5⟩)
 go_ret
 exact Ret.mk' rfl (hE.trans hx5)
def mayS (s : GS) (y : Int) : Bool := decide (s.res = 0) && ((decide (y = 6) && decide (3 ≤ manyB s.ps s.at_)) || (decide (y = 7) && beyondB s.at_ [100]))
abbrev MSmy.T (g b : Nat) (p : Pos) (w W : World) : Prop := Ext w W ∧ blk W g = some (.cells (gmC (.pointer (some ⟨b, 0, none⟩)) p (.slice none 0 0) 0 0) 142 (0, 0))
def MSmy (g b : Nat) (p : Pos) (w W : World) : Prop := MSmy.T g b p w W
theorem MSmy.u {g b p w} (W) (h : MSmy g b p w W) : MSmy.T g b p w W := h
abbrev MSgb.T (g : Nat) (cs : Array Value) (v0 : Value) (w W : World) : Prop := Ext w W ∧ blk W g = some (.cells cs 142 (0, 0)) ∧ W.cell? ⟨g, 0, none⟩ = some v0
def MSgb (g : Nat) (cs : Array Value) (v0 : Value) (w W : World) : Prop := MSgb.T g cs v0 w W
theorem MSgb.u {g cs v0 w} (W) (h : MSgb g cs v0 w W) : MSgb.T g cs v0 w W := h
theorem MSgb.ext {g : Nat} {cs : Array Value} {v0 : Value} {w W W' : World} (h : MSgb g cs v0 w W) (hx : Ext W W') : MSgb g cs v0 w W' :=
 ⟨h.1.trans hx, (hx.blk _ (blk_lt h.2.1)).trans h.2.1, (hx.cell _ _ (blk_lt h.2.1)).trans h.2.2⟩
theorem MayG_any {g b m : Nat} {mv : Value} {s : GS} {w : World} (y : Int) (h : PG g b m mv s w) (hp : Rng s.at_) (ht : Tab10 w.heap.size w) : Calls Tryz.prog 57 #[.pointer (some ⟨g, 0, none⟩), .int .i64 y] w (Ret (.bool (mayS s y)) w) := by
 have hO := openG_any h
 have hg := h.game
 by_cases h0 : s.res = 0
 ·rw [show openS s = 0 from if_pos h0] at hO
  by_cases h6 : y = 6
  ·subst h6
   have HE := hid (show mayS s 6 = decide (3 ≤ manyB s.ps s.at_) by unfold mayS; rw [decide_eq_true h0]; simp)
   have hQ := fun W (hx : Ext w W) => often_any s.at_ (h.ext hx) hp (ht.up hx)
   clear h h0
   generalize manyB s.ps s.at_ = M at *
   go_enter Tryz.func57, Tryz.ntmps57
   go_upto_region 5 with (go_at_call 84; (with_reducible refine hO.mono ?_); rintro e w1 ⟨rfl, hx1⟩)
   have hg1 := (hx1.blk _ (blk_lt hg)).trans hg
   have hM0 : MSgb g (gmC (.pointer (some ⟨b, 0, none⟩)) s.at_ mv s.res s.why) (.pointer (some ⟨b, 0, none⟩)) w1 w1.drew := ⟨(Ext.refl _).drew, hg1, (blk_cell hg1 0).trans (gm_0 ..)⟩
   refine wp_region_held_drew (S := MSgb g (gmC (.pointer (some ⟨b, 0, none⟩)) s.at_ mv s.res s.why) (.pointer (some ⟨b, 0, none⟩)) w1) (by kernel_rfl) (hM0) (fun hH => ?_)
   refine hTz MSgb.u 0 ?_; (try go_frame)
   refine hTz MSgb.u 1 ?_; (try go_frame)
   refine hTz MSgb.u 2 ?_; (try go_frame)
   refine hTz MSgb.u 3 ?_; (try go_frame)
   refine hTz MSgb.u 4 ?_; (try go_frame)
   refine hTz MSgb.u 5 ?_; (try go_frame)
   refine hTz MSgb.u 6 ?_; (try go_frame)
   refine hTz MSgb.u 7 ?_; (try go_frame)
   refine hRy [8] (hCp (fun K hK => ?_) AllReadyH.nil); go_simp
   refine (hQ _ (hx1.trans hH.1)).mono ?_
   rintro e w8 ⟨rfl, hx8⟩
   refine hK.out _ _ (hH.ext (by assumption)) (fun hH => ?_); clear hK; (try go_frame)
   refine hTz MSgb.u 9 ?_; (try go_frame)
   refine hTz MSgb.u 10 ?_; (try go_frame)
   refine wpAnyH_done (by kernel_rfl) ?_ _
   have hx9 := hH.1
   clear hH hM0
   go_wp2
   go_ret
   exact Ret.mk' (vbool (by rw [HE.out]; go_light; rw [Bool.eq_iff_iff]; simp; try omega)) (hx1.trans hx9)
  ·by_cases h7 : y = 7
   ·subst h7
    have HE := hid (show mayS s 7 = beyondB s.at_ [100] by unfold mayS; rw [decide_eq_true h0]; simp)
    have hQ := fun W => Fifty_any s.at_ W
    clear h h0
    generalize beyondB s.at_ [100] = M at *
    go_enter Tryz.func57, Tryz.ntmps57
    go_wp2_with (first
     | (go_at_call 84; (with_reducible refine hO.mono ?_); rintro e w1 ⟨rfl, hx1⟩; (have hg1 := (hx1.blk _ (blk_lt hg)).trans hg))
     | (go_at_call 58; (with_reducible refine (hQ _).mono ?_); rintro e w2 ⟨rfl, hx2⟩))
    go_ret
    exact Ret.mk' (vbool HE.out.symm) (hx1.trans hx2)
   ·have HE := hid (show mayS s y = false by unfold mayS; simp [h6, h7])
    have g6 : (y == 6) = false := by simpa using h6
    have g7 : (y == 7) = false := by simpa using h7
    clear h h0 h6 h7
    go_enter Tryz.func57, Tryz.ntmps57
    go_wp2_with (go_at_call 84; (with_reducible refine hO.mono ?_); rintro e w1 ⟨rfl, hx1⟩)
    go_ret
    exact Ret.mk' (vbool HE.out.symm) hx1
 ·rw [show openS s = 9 from if_neg h0] at hO
  have HE := hid (show mayS s y = false by unfold mayS; simp [h0])
  clear h h0
  go_enter Tryz.func57, Tryz.ntmps57
  go_wp2_with (go_at_call 84; (with_reducible refine hO.mono ?_); rintro e w1 ⟨rfl, hx1⟩)
  go_ret
  exact Ret.mk' (vbool HE.out.symm) hx1
def endS (s : GS) (r y : Int) : GS := if s.res = 0 then { s with res := r, why := y } else s
theorem PG.set {g b m : Nat} {mv : Value} {s : GS} {W : World} (h : PG g b m mv s W) (r y : Int) : PG g b m mv { s with res := r, why := y } ((W.setCell ⟨g, 135, none⟩ (.int .i64 r)).setCell ⟨g, 136, none⟩ (.int .i64 y)) := by
 have k3 := blk_ne3 h.game h.book (by decide)
 have k4 := h.cnt.ne h.game
 have k5 := own_ne h.own h.game (by decide)
 refine ⟨?_, ?_, ?_, ?_⟩
 ·rw [blk_setCell_same _ _ _ _ _ _ (blk_setCell_same _ _ _ _ _ _ h.game), gm_set135, gm_set136]
 ·rw [blk_setCell_past _ _ _ _ k3, blk_setCell_past _ _ _ _ k3]; exact h.book
 ·exact h.cnt.keep (by rw [blk_setCell_past _ _ _ _ (fun e => k4 e.symm), blk_setCell_past _ _ _ _ (fun e => k4 e.symm)])
 ·exact own_blocks h.own fun k hk => by
   have hne : k ≠ g := fun e => k5 (by rw [hk, e])
   exact (blk_setCell_past _ _ _ _ hne).trans (blk_setCell_past _ _ _ _ hne)
theorem endG_any {g b m : Nat} {mv : Value} {s : GS} {w : World} (r y : Int) (h : PG g b m mv s w) : Calls Tryz.prog 91 #[.pointer (some ⟨g, 0, none⟩), .int .i64 r, .int .i64 y] w (fun e w' => e = .returned (.int .i64 (openS s)) ∧ PG g b m mv (endS s r y) w' ∧ Fr (fun k => k = g) w w') := by
 have hO := openG_any h
 have HP := hid h
 have hg := h.game
 clear h
 by_cases h0 : s.res = 0
 ·have HE := hid (show endS s r y = { s with res := r, why := y } from if_pos h0)
  rw [show openS s = 0 from if_pos h0] at hO ⊢
  clear h0
  go_enter Tryz.func91, Tryz.ntmps91
  go_wp2_with (go_at_call 84; (with_reducible refine hO.mono ?_); rintro e w1 ⟨rfl, hx1⟩; (have hg1 := (hx1.blk _ (blk_lt hg)).trans hg); (have fz1 := blk_froz hg1); (have c1 := (blk_cell hg1 135).trans (gm_135 ..)); (have c2 := (blk_cell hg1 136).trans (gm_136 ..)))
  go_ret
  exact ⟨rfl, by rw [HE.out]; exact (HP.out.ext hx1).set r y, ((Fr.ext (F := fun k => k = g) hx1).set (fun _ => rfl) _).set (fun _ => rfl) _⟩
 ·have HE := hid (show endS s r y = s from if_neg h0)
  rw [show openS s = 9 from if_neg h0] at hO ⊢
  clear h0
  go_enter Tryz.func91, Tryz.ntmps91
  go_wp2_with (go_at_call 84; (with_reducible refine hO.mono ?_); rintro e w1 ⟨rfl, hx1⟩)
  go_ret
  exact ⟨rfl, by rw [HE.out]; exact HP.out.ext hx1, Fr.ext hx1⟩
def claimE (s : GS) (y : Int) : Int := if y ≠ 6 ∧ y ≠ 7 then 2 else if s.res ≠ 0 then 9 else if mayS s y then 0 else 8
def claimS (s : GS) (y : Int) : GS := if claimE s y = 0 then { s with res := 3, why := y } else s
def stopE (s : GS) (y : Int) : Int := if y ≠ 8 ∧ y ≠ 9 ∧ y ≠ 10 then 2 else if s.res ≠ 0 then 9 else 0
def stopS (s : GS) (y : Int) : GS := if stopE s y = 0 then { s with res := if y = 8 then 3 else winsOf (otherOf s.at_.turn), why := y } else s
theorem ClaimG_any {g b m : Nat} {mv : Value} {s : GS} {w : World} (y : Int) (h : PG g b m mv s w) (hp : Rng s.at_) (ht : Tab10 w.heap.size w) : Calls Tryz.prog 50 #[.pointer (some ⟨g, 0, none⟩), .int .i64 y] w (fun e w' => e = .returned (.int .i64 (claimE s y)) ∧ PG g b m mv (claimS s y) w' ∧ Fr (fun k => k = g) w w') := by
 have hT := thereG_any h
 have hO := fun W (hx : Ext w W) => openG_any (h.ext hx)
 have hM := fun W (hx : Ext w W) => MayG_any y (h.ext hx) hp (ht.up hx)
 have hN := fun W (hx : Ext w W) => endG_any 3 y (h.ext hx)
 have HP := hid h
 clear h ht
 by_cases h67 : y ≠ 6 ∧ y ≠ 7
 ·have HE := hid (show claimE s y = 2 from if_pos h67)
  have HS := hid (show claimS s y = s from if_neg (by rw [HE.out]; decide))
  have g6 : (y == 6) = false := by simpa using h67.1
  have g7 : (y == 7) = false := by simpa using h67.2
  have m6 : (y != 6) = true := by simpa using h67.1
  have m7 : (y != 7) = true := by simpa using h67.2
  clear h67 hO hM hN
  go_enter Tryz.func50, Tryz.ntmps50
  go_wp2_with (go_at_call 83; (with_reducible refine hT.mono ?_); rintro e w1 ⟨rfl, hx1⟩)
  go_ret
  exact ⟨by rw [HE.out]; rfl, by rw [HS.out]; exact HP.out.ext hx1, Fr.ext hx1⟩
 ·by_cases h0 : s.res = 0
  ·rw [show openS s = 0 from if_pos h0] at *
   cases hm : mayS s y
   ·have HE := hid (show claimE s y = 8 by unfold claimE; rw [if_neg h67, if_neg (by omega), hm]; rfl)
    have HS := hid (show claimS s y = s from if_neg (by rw [HE.out]; decide))
    rw [hm] at hM
    clear hm h0 hN
    rcases (show y = 6 ∨ y = 7 by omega) with rfl | rfl
    all_goals
     clear h67
     go_enter Tryz.func50, Tryz.ntmps50
     go_wp2_with (first
      | (go_at_call 83; (with_reducible refine hT.mono ?_); rintro e w1 ⟨rfl, hx1⟩)
      | (go_at_call 84; (with_reducible refine (hO _ hx1).mono ?_); rintro e w2 ⟨rfl, hx2⟩)
      | (go_at_call 57; (with_reducible refine (hM _ (hx1.trans hx2)).mono ?_); rintro e w3 ⟨rfl, hx3⟩))
     go_ret
     exact ⟨by rw [HE.out]; rfl, by rw [HS.out]; exact HP.out.ext (hx1.trans (hx2.trans hx3)), Fr.ext (hx1.trans (hx2.trans hx3))⟩
   ·have HE := hid (show claimE s y = 0 by unfold claimE; rw [if_neg h67, if_neg (by omega), hm]; rfl)
    have HS := hid (show claimS s y = endS s 3 y by unfold claimS endS; rw [if_pos HE.out, if_pos h0])
    rw [hm] at hM
    clear hm h0
    rcases (show y = 6 ∨ y = 7 by omega) with rfl | rfl
    all_goals
     clear h67
     go_enter Tryz.func50, Tryz.ntmps50
     go_wp2_with (first
      | (go_at_call 83; (with_reducible refine hT.mono ?_); rintro e w1 ⟨rfl, hx1⟩)
      | (go_at_call 84; (with_reducible refine (hO _ hx1).mono ?_); rintro e w2 ⟨rfl, hx2⟩)
      | (go_at_call 57; (with_reducible refine (hM _ (hx1.trans hx2)).mono ?_); rintro e w3 ⟨rfl, hx3⟩)
      | (go_at_call 91; (with_reducible refine (hN _ (hx1.trans (hx2.trans hx3))).mono ?_); rintro e w4 ⟨rfl, hp4, hf4⟩))
     go_ret
     exact ⟨by rw [HE.out]; rfl, by rw [HS.out]; exact hp4, (Fr.ext (F := fun k => k = g) (hx1.trans (hx2.trans hx3))).trans hf4 (fun _ _ h => h)⟩
  ·rw [show openS s = 9 from if_neg h0] at *
   have HE := hid (show claimE s y = 9 by unfold claimE; rw [if_neg h67, if_pos h0])
   have HS := hid (show claimS s y = s from if_neg (by rw [HE.out]; decide))
   have HN := hid (show endS s 3 y = s from if_neg h0)
   clear h0 hM
   rcases (show y = 6 ∨ y = 7 by omega) with rfl | rfl
   all_goals
    clear h67
    go_enter Tryz.func50, Tryz.ntmps50
    go_wp2_with (first
     | (go_at_call 83; (with_reducible refine hT.mono ?_); rintro e w1 ⟨rfl, hx1⟩)
     | (go_at_call 84; (with_reducible refine (hO _ hx1).mono ?_); rintro e w2 ⟨rfl, hx2⟩)
     | (go_at_call 91; (with_reducible refine (hN _ (hx1.trans hx2)).mono ?_); rintro e w4 ⟨rfl, hp4, hf4⟩))
    go_ret
    exact ⟨by rw [HE.out]; rfl, by rw [HS.out, ← HN.out]; exact hp4, (Fr.ext (F := fun k => k = g) (hx1.trans hx2)).trans hf4 (fun _ _ h => h)⟩
theorem StopG_any {g b m : Nat} {mv : Value} {s : GS} {w : World} (y : Int) (h : PG g b m mv s w) : Calls Tryz.prog 51 #[.pointer (some ⟨g, 0, none⟩), .int .i64 y] w (fun e w' => e = .returned (.int .i64 (stopE s y)) ∧ PG g b m mv (stopS s y) w' ∧ Fr (fun k => k = g) w w') := by
 have hT := thereG_any h
 have hN := fun W (hx : Ext w W) => endG_any 3 y (h.ext hx)
 have hW := fun W (hx : Ext w W) => endG_any (winsOf (otherOf s.at_.turn)) y (h.ext hx)
 have hOT := fun W => Other_any s.at_.turn W
 have hWI : ∀ W, Calls Tryz.prog 59 #[.int .i64 (otherOf s.at_.turn)] W (Ret (.int .i64 (winsOf (otherOf s.at_.turn))) W) := fun W => Wins_any (otherOf s.at_.turn) W
 have hg := h.game
 have HP := hid h
 clear h
 by_cases h8 : y = 8
 ·have HE := hid (show stopE s y = openS s by unfold stopE openS; rw [if_neg (by omega)]; by_cases h0 : s.res = 0 <;> simp [h0])
  have HS := hid (show stopS s y = endS s 3 y by unfold stopS endS; rw [HE.out]; unfold openS; by_cases h0 : s.res = 0 <;> simp [h0, h8])
  subst h8
  clear hW hOT hWI
  go_enter Tryz.func51, Tryz.ntmps51
  go_wp2_with (first
   | (go_at_call 83; (with_reducible refine hT.mono ?_); rintro e w1 ⟨rfl, hx1⟩)
   | (go_at_call 91; (with_reducible refine (hN _ hx1).mono ?_); rintro e w4 ⟨rfl, hp4, hf4⟩))
  go_ret
  exact ⟨by rw [HE.out]; rfl, by rw [HS.out]; exact hp4, (Fr.ext (F := fun k => k = g) hx1).trans hf4 (fun _ _ h => h)⟩
 ·by_cases h9 : y = 9 ∨ y = 10
  ·have HE := hid (show stopE s y = openS s by unfold stopE openS; rw [if_neg (by omega)]; by_cases h0 : s.res = 0 <;> simp [h0])
   have HS := hid (show stopS s y = endS s (winsOf (otherOf s.at_.turn)) y by unfold stopS endS; rw [HE.out]; unfold openS; by_cases h0 : s.res = 0 <;> simp [h0, h8])
   clear hN
   generalize winsOf (otherOf s.at_.turn) = X at *
   rcases h9 with rfl | rfl
   all_goals
    go_enter Tryz.func51, Tryz.ntmps51
    go_wp2_with (first
     | (go_at_call 83; (with_reducible refine hT.mono ?_); rintro e w1 ⟨rfl, hx1⟩; (have c1 := (blk_cell ((hx1.blk _ (blk_lt hg)).trans hg) 129).trans (gm_129 ..)))
     | (go_at_call 68; (with_reducible refine (hOT _).mono ?_); rintro e w2 ⟨rfl, hx2⟩)
     | (go_at_call 59; (with_reducible refine (hWI _).mono ?_); rintro e w3 ⟨rfl, hx3⟩)
     | (go_at_call 91; (with_reducible refine (hW _ (hx1.trans (hx2.trans hx3))).mono ?_); rintro e w4 ⟨rfl, hp4, hf4⟩))
    go_ret
    exact ⟨by rw [HE.out]; rfl, by rw [HS.out]; exact hp4, (Fr.ext (F := fun k => k = g) (hx1.trans (hx2.trans hx3))).trans hf4 (fun _ _ h => h)⟩
  ·have HE := hid (show stopE s y = 2 from if_pos (by omega))
   have HS := hid (show stopS s y = s from if_neg (by rw [HE.out]; decide))
   have g8 : (y == 8) = false := by simpa using h8
   have g9 : (y == 9) = false := by simp; omega
   have g10 : (y == 10) = false := by simp; omega
   clear h8 h9 hN hW hOT hWI
   go_enter Tryz.func51, Tryz.ntmps51
   go_wp2_with (go_at_call 83; (with_reducible refine hT.mono ?_); rintro e w1 ⟨rfl, hx1⟩)
   go_ret
   exact ⟨by rw [HE.out]; rfl, by rw [HS.out]; exact HP.out.ext hx1, Fr.ext hx1⟩
end Go.Proofs.YtdmgimfgoajmjaaGreatDoor
