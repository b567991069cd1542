/- The iterator over legal moves. UNFINISHED: holds a sorry. -/
import Derived.BigFrameIn
import Derived.BigGuardIn
import Derived.Test.YtdmgimfgoajmjaaGreatDoorC32
set_option linter.unusedVariables false
set_option linter.unusedSimpArgs false
namespace Go.Proofs.YtdmgimfgoajmjaaGreatDoor
open Go.RowKit
theorem wpListIn_load_row_g {F : Fence} {n : Nat} {P : Program} {ops : Array Oper} {rest : List Oper} {a : Act} {w : World} {Q : Exit → Act → World → Prop} {dst : Option Tmp} {T : TypeId} {x : Operand} {ty : TypeId} {pos : String} {af : Array Edge} {g : Nat × Bool}
    {m : Nat} {d : TypeDesc} (hw : Region.wanted (⟨dst, .load T x, ty, pos, af, some g⟩ : Oper) (yielded ops a.tmps) = true) (hu : P.underlying T = some d) (hd : (match d with | .struct _ | .array _ _ => true | _ => false) = true) (hi : (P.info? T).map (·.size) = some m)
    {b off : Nat} (hx : a.eval x = .pointer (some ⟨b, off, none⟩)) {cs : Array Value} {t : TypeId} {fr : Nat × Nat} (hb : blk w b = some (.cells cs t fr)) (hle : off + m ≤ cs.size)
    (h : wpListIn F n P ops Q rest (a.put dst (.agg (cs.extract off (off + m)))) w) : wpListIn F n P ops Q (⟨dst, .load T x, ty, pos, af, some g⟩ :: rest) a w :=
  BigFrame.wpListIn_want hw fun K hK => operIn_load_row hu hd hi hx hb hle (hK _ _ h)
structure Guards (Safe : World → Nat → Prop) (Fine : World → Prop) : Prop where
  s1 : ∀ A B, Ext A B → Fine A → Fine B
  s2 : ∀ A B k, Ext A B → Fine A → Safe A k → Safe B k
  s3 : ∀ A B k cs t fr, Ext A B → Fine A → A.heap.size ≤ k → B.heap[k]? = some (.cells cs t fr) → Safe B k
structure KpG (Safe : World → Nat → Prop) (Fine : World → Prop) (A B : World) : Prop where
  size : A.heap.size ≤ B.heap.size
  fine : Fine A → Fine B
  same : ∀ k, Safe A k → B.heap[k]? = A.heap[k]? ∧ Safe B k
theorem KpG.trans {Safe : World → Nat → Prop} {Fine : World → Prop} {A B C : World} (h : KpG Safe Fine A B) (k : KpG Safe Fine B C) : KpG Safe Fine A C :=
  ⟨Nat.le_trans h.size k.size, fun f => k.fine (h.fine f), fun i hi => ⟨((k.same i (h.same i hi).2).1).trans (h.same i hi).1, (k.same i (h.same i hi).2).2⟩⟩
structure InvL (p : Pos) (Safe : World → Nat → Prop) (Fine : World → Prop) (bf : Nat) (B0 : Nat) (v : Value) (w : World) : Prop where
  fine : Fine w
  b : blk w bf = some (.cells (posCells p) 167 (0, 0))
  sb : Safe w bf
  r : w.ownsRow B0 51 3 v (AllL p).length (mvsC (AllL p))
  sr : ∀ k, v.ownBlock = some k → Safe w k
  n : B0 ≤ w.heap.size
theorem InvL.ext {p : Pos} {Safe : World → Nat → Prop} {Fine : World → Prop} (G : Guards Safe Fine) {bf B0 : Nat} {v : Value} {w w' : World} (h : InvL p Safe Fine bf B0 v w) (hx : Ext w w') : InvL p Safe Fine bf B0 v w' :=
  ⟨G.s1 _ _ hx h.fine, (hx.blk _ (blk_lt h.b)).trans h.b, G.s2 _ _ _ hx h.fine h.sb, own_ext h.r hx, fun k hk => G.s2 _ _ _ hx h.fine (h.sr k hk), Nat.le_trans h.n hx.le⟩
theorem InvL.kp {p : Pos} {Safe : World → Nat → Prop} {Fine : World → Prop} {bf B0 : Nat} {v : Value} {w w' : World} (h : InvL p Safe Fine bf B0 v w) (k : KpG Safe Fine w w') : InvL p Safe Fine bf B0 v w' :=
  ⟨k.fine h.fine, (k.same _ h.sb).1.trans h.b, (k.same _ h.sb).2, own_blocks h.r fun b hb => (k.same b (h.sr b hb)).1, fun b hb => (k.same b (h.sr b hb)).2, Nat.le_trans h.n k.size⟩
set_option maxRecDepth 100000 in
set_option maxHeartbeats 20000000 in
theorem all_in (n : Nat) (hn : 1 ≤ n) (l : Nat) (p : Pos) (bf : Nat) (Safe : World → Nat → Prop) (Fine : World → Prop) (G : Guards Safe Fine) (J Jx : List Mv → World → Prop)
    (hY : ∀ (pre : List Mv) (m : Mv) (W1 : World), m ∈ AllL p → legalB p m = true → J pre W1 → pre.length < 900000 → YieldAt Fence.wide (n - 1) Tryz.prog l #[.agg (mvC m), .agg (posCells (movedP p m))] W1 fun e W' => (e = .returned (.bool true) ∧ J (pre ++ [m]) W' ∧ KpG Safe Fine W1 W') ∨ (e = .returned (.bool false) ∧ Jx (pre ++ [m]) W'))
    (W : World) (hJ : AbidesFrom W.heap.size J) (hC : blk W bf = some (.cells (posCells p) 167 (0, 0))) (hF : Fine W) (hSb : Safe W bf) (h0 : J [] W) :
    CallsIn Fence.wide n Tryz.prog 153 #[.func (.yield l) #[] #[], .pointer (some ⟨bf, 0, none⟩)] W fun e W' => (∃ v, e = .returned v) ∧
      ((∃ xs, xs = legalL p ∧ J xs W') ∨ (∃ pre : List Mv, True ∧ Jx pre W')) := by
  have HC := hid hC
  have hlf := blk_lt hC
  clear hC
  refine callsIn_of_wp Tryz.func153 rfl trivial ?_ rfl
  simp only [Tryz.ntmps153, List.size_toArray, List.length_cons, List.length_nil, Nat.reduceAdd, Nat.reduceSub, Array.replicate_succ, Array.replicate_zero, List.push_toArray, List.append_toArray, List.nil_append, List.cons_append]
  gi_wp2_with (first
    | (refine wpListIn_load_row (T := 30) (m := 133) Tryz.underlying30 rfl (by kernel_rfl) rfl HC.out (by rw [posCells_size]; decide) ?_)
    | (gi_at_call 154; refine CallsIn.mono (callsIn_wide.2 (All_any p _)) ?_; rintro e w1 ⟨v, rfl, hown, hx⟩; obtain ⟨av, cv, rfl⟩ := (Sl.of_own hown).form))
  have hx' : Ext W w1 := hx
  have hJ1 : J [] w1 := hJ _ _ _ none h0 (Ext.grownNone hx') (fun r e => by cases e)
  have hI1 : InvL p Safe Fine bf W.heap.size (.slice av (AllL p).length cv) w1 := ⟨G.s1 _ _ hx' hF, (hx'.blk _ hlf).trans HC.out, G.s2 _ _ _ hx' hF hSb, hown, fun k hk => by
    obtain ⟨h1, cur, h2⟩ := own_cells hown hk
    exact G.s3 _ _ _ _ _ _ hx' hF h1 h2, hx'.le⟩
  have hW1 := hx'.le
  clear hx hown HC hF hSb hlf h0 hx'
  gi_loopw [11] (fun i wr => ∃ k : Nat, i = .int .i64 k ∧ k ≤ (AllL p).length ∧ InvL p Safe Fine bf W.heap.size (.slice av (AllL p).length cv) wr ∧ W.heap.size ≤ wr.heap.size ∧ J (legalUp p k) wr) (fun i _ => (AllL p).length - (intOf i).toNat)
  case atStart => exact ⟨0, rfl, by omega, hI1, hW1, hJ1⟩
  case round =>
    obtain ⟨k, rfl, hk, hI, hWr, hJr⟩ := hrel
    clear hI1 hJ1 hW1
    have hAll := AllL_len p
    by_cases hlt : k < (AllL p).length
    · obtain ⟨m, hm⟩ : ∃ m, (AllL p)[k]? = some m := ⟨_, List.getElem?_eq_getElem hlt⟩
      obtain ⟨g, o, rfl, hg, hcl⟩ := (Sl.of_own hI.r).pos (by omega)
      have d0 := hcl (k * 3) _ (mvsC_at hm 0 (by omega))
      have d1 := hcl (k * 3 + 1) _ (mvsC_at hm 1 (by omega))
      have d2 := hcl (k * 3 + 2) _ (mvsC_at hm 2 (by omega))
      simp only [mvE, List.getElem!_cons_zero, List.getElem!_cons_succ] at d0 d1 d2
      rw [← Nat.add_assoc] at d1 d2
      obtain ⟨b0, b1, b2, b3⟩ := AllL_in p m (List.mem_of_getElem? hm)
      have HI := hid hI
      have HM := hid hm
      have HLT := hid hlt
      have HAll := hid hAll
      clear hcl hI hm
      have lf := blk_lt HI.out.b
      have HLEN := hid (show (legalUp p k).length < 900000 from Nat.lt_of_le_of_lt (List.length_filter_le _ _) (by rw [List.length_take]; have := HAll.out; have := HLT.out; omega))
      cases hcm : castlesMB p m
      · have HCM := hid hcm
        by_cases ht : takenE p m = 0
        · have HT := hid ht
          cases hck : checkB (movedP p m) p.turn
          · have HL := hid (show legalB p m = true by simp [legalB, hcm, ht, hck])
            have HCK := hid hck
            clear hck ht
            gi_wp2_with (first
              | (refine hR.mono ?_; rintro e W3 (⟨rfl, hJ3, hk3⟩ | ⟨rfl, hJx3⟩))
              | ((with_reducible refine wpListIn_load_row_g (m := 133) (off := 0) ?_ Tryz.underlying30 ?_ ?_ ?_ (hq4) ?_ ?_); exact rfl; exact rfl; kernel_rfl; exact rfl; (rw [posCells_size]; decide))
              | ((with_reducible refine wpListIn_load_row_g (m := 133) (off := 0) ?_ Tryz.underlying30 ?_ ?_ ?_ (blk_alloc_at _ _ _ rfl) ?_ ?_); exact rfl; exact rfl; kernel_rfl; exact rfl; (rw [posCells_size]; decide))
              | (rw [Oper.semAt_eq _ _ _ (fun c h => by cases h)]; go_simp)
              | ((with_reducible refine wpListIn_load_row (m := 133) (off := 0) Tryz.underlying167 ?_ ?_ ?_ ((Ext.alloc (Ext.refl wr) _).blk _ lf |>.trans HI.out.b) ?_ ?_); exact rfl; kernel_rfl; exact rfl; (rw [posCells_size]; decide))
              | (gi_at_call 155; refine CallsIn.mono (callsIn_wide.2 (castlesJ_any p m _ b0 b1 b2 b3)) ?_; rintro e w2 ⟨rfl, hx2⟩; rw [HCM.out]; have hI2 := HI.out.ext G (Ext.trans (Ext.alloc (Ext.refl wr) _) hx2); have hbm2 := (hx2.blk wr.heap.size (by simp)).trans (blk_alloc_at _ _ _ rfl); have hc20 := blk_cell hbm2 0; have hc21 := blk_cell hbm2 1; have hc22 := blk_cell hbm2 2; simp only [List.getElem?_toArray, List.getElem?_cons_zero, List.getElem?_cons_succ] at hc20 hc21 hc22; have hxr := Ext.trans (Ext.alloc (Ext.refl wr) _) hx2; have hlm2 := blk_lt hbm2)
              | ((with_reducible refine wpListIn_load_row (m := 133) (off := 0) Tryz.underlying30 ?_ ?_ ?_ (hI2.b) ?_ ?_); exact rfl; kernel_rfl; exact rfl; (rw [posCells_size]; decide))
              | ((with_reducible refine wpListIn_store_new (q := movedP p m) ?_ ?_ ?_ ?_); exact rfl; exact rfl; kernel_rfl)
              | (gi_at_call 157; refine CallsIn.mono (callsIn_wide.2 (Move_any p m _)) ?_; rintro e w3 ⟨rfl, hx3⟩; rw [HT.out]; have hI3 := hI2.ext G hx3; have hxw := Ext.trans hxr hx3; have hct := blk_cell hI3.b 128; have hlb3 := blk_lt hI3.b; simp only [go_sem] at hct; have hbm3 := (hx3.blk _ hlm2).trans hbm2; have hlm3 := blk_lt hbm3)
              | (gi_at_call 67; refine CallsIn.mono (callsIn_wide.2 (Check_any (movedP p m) p.turn _)) ?_; rintro e w4 ⟨rfl, hx4⟩; rw [HCK.out]; have hq4 : blk w4 w3.heap.size = some (.cells (posCells (movedP p m)) 30 (0, 0)) := (hx4.blk _ (by simp)).trans (blk_alloc_at _ _ _ rfl); have hbm4 := ((Ext.trans (Ext.alloc (Ext.refl w3) _) hx4).blk wr.heap.size hlm3).trans hbm3; have hc40 := blk_cell hbm4 0; have hc41 := blk_cell hbm4 1; have hc42 := blk_cell hbm4 2; simp only [List.getElem?_toArray, List.getElem?_cons_zero, List.getElem?_cons_succ] at hc40 hc41 hc42; have hx34 := Ext.trans (Ext.alloc (Ext.refl w3) _) hx4; have hI4 := hI3.ext G hx34; have hxw4 := Ext.trans hxw hx34; have hJ4 : J (legalUp p k) w4 := hJ _ _ _ none hJr (Ext.grownNone hxw4) (fun r e => by cases e); obtain ⟨fn, tmps, assign, body, hy, hR⟩ := hY _ m w4 (List.mem_of_getElem? HM.out) HL.out hJ4 (HLEN.out); unfold mvC at hy))
            · have hlt9 := HLT.out
              have hall9 := HAll.out
              go_roundw
              case rel => exact ⟨k + 1, by go_num, by have := HLT.out; omega, hI4.kp hk3, by have := hk3.size; have := hxw4.le; omega, by rw [legalUp_succ HM.out, HL.out]; exact hJ3⟩
              case measure => have := HLT.out; simp [intOf]; omega
            · exact bodyPost_ret (results_none rfl _ _ _) rfl ⟨⟨_, rfl⟩, .inr ⟨_, trivial, hJx3⟩⟩
          · have HL := hid (show legalB p m = false by simp [legalB, hcm, ht, hck])
            have HCK := hid hck
            clear hck ht
            gi_wp2_with (first
              | ((with_reducible refine wpListIn_load_row_g (m := 133) (off := 0) ?_ Tryz.underlying30 ?_ ?_ ?_ (hq4) ?_ ?_); exact rfl; exact rfl; kernel_rfl; exact rfl; (rw [posCells_size]; decide))
              | ((with_reducible refine wpListIn_load_row_g (m := 133) (off := 0) ?_ Tryz.underlying30 ?_ ?_ ?_ (blk_alloc_at _ _ _ rfl) ?_ ?_); exact rfl; exact rfl; kernel_rfl; exact rfl; (rw [posCells_size]; decide))
              | (rw [Oper.semAt_eq _ _ _ (fun c h => by cases h)]; go_simp)
              | ((with_reducible refine wpListIn_load_row (m := 133) (off := 0) Tryz.underlying167 ?_ ?_ ?_ ((Ext.alloc (Ext.refl wr) _).blk _ lf |>.trans HI.out.b) ?_ ?_); exact rfl; kernel_rfl; exact rfl; (rw [posCells_size]; decide))
              | (gi_at_call 155; refine CallsIn.mono (callsIn_wide.2 (castlesJ_any p m _ b0 b1 b2 b3)) ?_; rintro e w2 ⟨rfl, hx2⟩; rw [HCM.out]; have hI2 := HI.out.ext G (Ext.trans (Ext.alloc (Ext.refl wr) _) hx2); have hbm2 := (hx2.blk wr.heap.size (by simp)).trans (blk_alloc_at _ _ _ rfl); have hc20 := blk_cell hbm2 0; have hc21 := blk_cell hbm2 1; have hc22 := blk_cell hbm2 2; simp only [List.getElem?_toArray, List.getElem?_cons_zero, List.getElem?_cons_succ] at hc20 hc21 hc22; have hxr := Ext.trans (Ext.alloc (Ext.refl wr) _) hx2; have hlm2 := blk_lt hbm2)
              | ((with_reducible refine wpListIn_load_row (m := 133) (off := 0) Tryz.underlying30 ?_ ?_ ?_ (hI2.b) ?_ ?_); exact rfl; kernel_rfl; exact rfl; (rw [posCells_size]; decide))
              | ((with_reducible refine wpListIn_store_new (q := movedP p m) ?_ ?_ ?_ ?_); exact rfl; exact rfl; kernel_rfl)
              | (gi_at_call 157; refine CallsIn.mono (callsIn_wide.2 (Move_any p m _)) ?_; rintro e w3 ⟨rfl, hx3⟩; rw [HT.out]; have hI3 := hI2.ext G hx3; have hxw := Ext.trans hxr hx3; have hct := blk_cell hI3.b 128; have hlb3 := blk_lt hI3.b; simp only [go_sem] at hct; have hbm3 := (hx3.blk _ hlm2).trans hbm2; have hlm3 := blk_lt hbm3)
              | (gi_at_call 67; refine CallsIn.mono (callsIn_wide.2 (Check_any (movedP p m) p.turn _)) ?_; rintro e w4 ⟨rfl, hx4⟩; rw [HCK.out]; have hq4 : blk w4 w3.heap.size = some (.cells (posCells (movedP p m)) 30 (0, 0)) := (hx4.blk _ (by simp)).trans (blk_alloc_at _ _ _ rfl); have hbm4 := ((Ext.trans (Ext.alloc (Ext.refl w3) _) hx4).blk wr.heap.size hlm3).trans hbm3; have hc40 := blk_cell hbm4 0; have hc41 := blk_cell hbm4 1; have hc42 := blk_cell hbm4 2; simp only [List.getElem?_toArray, List.getElem?_cons_zero, List.getElem?_cons_succ] at hc40 hc41 hc42; have hx34 := Ext.trans (Ext.alloc (Ext.refl w3) _) hx4; have hI4 := hI3.ext G hx34; have hxw4 := Ext.trans hxw hx34))
            all_goals
              have hlt9 := HLT.out
              have hall9 := HAll.out
              go_roundw
              case rel => exact ⟨k + 1, by go_num, by have := HLT.out; omega, hI4, by have := (hxw4).le; omega, by rw [legalUp_succ HM.out, HL.out]; simpa using hJ _ _ _ none hJr (Ext.grownNone (hxw4)) (fun r e => by cases e)⟩
              case measure => have := HLT.out; simp [intOf]; omega
        · have HL := hid (show legalB p m = false by simp [legalB, ht])
          gi_wp2_with (first
            | (rw [Oper.semAt_eq _ _ _ (fun c h => by cases h)]; go_simp)
            | ((with_reducible refine wpListIn_load_row (m := 133) (off := 0) Tryz.underlying167 ?_ ?_ ?_ ((Ext.alloc (Ext.refl wr) _).blk _ lf |>.trans HI.out.b) ?_ ?_); exact rfl; kernel_rfl; exact rfl; (rw [posCells_size]; decide))
            | (gi_at_call 155; refine CallsIn.mono (callsIn_wide.2 (castlesJ_any p m _ b0 b1 b2 b3)) ?_; rintro e w2 ⟨rfl, hx2⟩; rw [HCM.out]; have hI2 := HI.out.ext G (Ext.trans (Ext.alloc (Ext.refl wr) _) hx2); have hbm2 := (hx2.blk wr.heap.size (by simp)).trans (blk_alloc_at _ _ _ rfl); have hc20 := blk_cell hbm2 0; have hc21 := blk_cell hbm2 1; have hc22 := blk_cell hbm2 2; simp only [List.getElem?_toArray, List.getElem?_cons_zero, List.getElem?_cons_succ] at hc20 hc21 hc22; have hxr := Ext.trans (Ext.alloc (Ext.refl wr) _) hx2; have hlm2 := blk_lt hbm2)
            | ((with_reducible refine wpListIn_load_row (m := 133) (off := 0) Tryz.underlying30 ?_ ?_ ?_ (hI2.b) ?_ ?_); exact rfl; kernel_rfl; exact rfl; (rw [posCells_size]; decide))
            | ((with_reducible refine wpListIn_store_new (q := movedP p m) ?_ ?_ ?_ ?_); exact rfl; exact rfl; kernel_rfl)
            | (gi_at_call 157; refine CallsIn.mono (callsIn_wide.2 (Move_any p m _)) ?_; rintro e w3 ⟨rfl, hx3⟩; have hI3 := hI2.ext G hx3; have hxw := Ext.trans hxr hx3; have hct := blk_cell hI3.b 128; have hlb3 := blk_lt hI3.b; simp only [go_sem] at hct; have hbm3 := (hx3.blk _ hlm2).trans hbm2; have hlm3 := blk_lt hbm3))
          all_goals
            have hlt9 := HLT.out
            have hall9 := HAll.out
            go_roundw
            case rel => exact ⟨k + 1, by go_num, by have := HLT.out; omega, hI3.ext G (Ext.alloc (Ext.refl _) _), by have := (hxw.alloc (.cells (posCells (movedP p m)) 30 (0, 0))).le; omega, by rw [legalUp_succ HM.out, HL.out]; simpa using hJ _ _ _ none hJr (Ext.grownNone (hxw.alloc (.cells (posCells (movedP p m)) 30 (0, 0)))) (fun r e => by cases e)⟩
            case measure => have := HLT.out; simp [intOf]; omega
      · have HCM := hid hcm
        have hq2 : safeB p [m.fr, Int.tdiv (m.fr + m.to_) 2] = safeB p [m.fr, (m.fr + m.to_) / 2] := by rw [Int.tdiv_eq_ediv_of_nonneg (by omega)]
        cases hsf : safeB p [m.fr, Int.tdiv (m.fr + m.to_) 2]
        · have HSF := hid (hq2.symm.trans hsf)
          have HL := hid (show legalB p m = false by simp [legalB, hcm, hsf])
          clear hsf
          gi_wp2_with (first
            | ((with_reducible refine wpListIn_load_row_g (m := 133) (off := 0) ?_ Tryz.underlying167 ?_ ?_ ?_ (hI2.b) ?_ ?_); exact rfl; exact rfl; kernel_rfl; exact rfl; (rw [posCells_size]; decide))
            | (rw [Oper.semAt_eq _ _ _ (fun c h => by cases h)]; go_simp)
            | ((with_reducible refine wpListIn_load_row (m := 133) (off := 0) Tryz.underlying167 ?_ ?_ ?_ ((Ext.alloc (Ext.refl wr) _).blk _ lf |>.trans HI.out.b) ?_ ?_); exact rfl; kernel_rfl; exact rfl; (rw [posCells_size]; decide))
            | (gi_at_call 155; refine CallsIn.mono (callsIn_wide.2 (castlesJ_any p m _ b0 b1 b2 b3)) ?_; rintro e w2 ⟨rfl, hx2⟩; rw [HCM.out]; have hI2 := HI.out.ext G (Ext.trans (Ext.alloc (Ext.refl wr) _) hx2); have hbm2 := (hx2.blk wr.heap.size (by simp)).trans (blk_alloc_at _ _ _ rfl); have hc20 := blk_cell hbm2 0; have hc21 := blk_cell hbm2 1; have hc22 := blk_cell hbm2 2; simp only [List.getElem?_toArray, List.getElem?_cons_zero, List.getElem?_cons_succ] at hc20 hc21 hc22; have hxr := Ext.trans (Ext.alloc (Ext.refl wr) _) hx2; have hlm2 := blk_lt hbm2)
            | (gi_at_call 156; refine CallsIn.mono (callsIn_wide.2 (safe_any p [m.fr, (m.fr + m.to_) / 2] _ _ (Sl.lits [m.fr, (m.fr + m.to_) / 2] _ _ rfl (alloc_ints2 _ _ _ _)) (by simp))) ?_; rintro e w5 ⟨rfl, hx5⟩; rw [HSF.out]; have hI2 := hI2.ext G (Ext.trans (Ext.alloc (Ext.refl _) _) hx5); have hbm5 := ((Ext.trans (Ext.alloc (Ext.refl _) _) hx5).blk wr.heap.size hlm2).trans hbm2; have hc20 := blk_cell hbm5 0; have hc21 := blk_cell hbm5 1; have hc22 := blk_cell hbm5 2; simp only [List.getElem?_toArray, List.getElem?_cons_zero, List.getElem?_cons_succ] at hc20 hc21 hc22; have hbm2 := hbm5; have hlm2 := blk_lt hbm5; have hxr := Ext.trans hxr (Ext.trans (Ext.alloc (Ext.refl _) _) hx5)))
          all_goals
            have hlt9 := HLT.out
            have hall9 := HAll.out
            go_roundw
            case rel => exact ⟨k + 1, by go_num, by have := HLT.out; omega, hI2, by have := (hxr).le; omega, by rw [legalUp_succ HM.out, HL.out]; simpa using hJ _ _ _ none hJr (Ext.grownNone (hxr)) (fun r e => by cases e)⟩
            case measure => have := HLT.out; simp [intOf]; omega
        · have HSF := hid (hq2.symm.trans hsf)
          by_cases ht : takenE p m = 0
          · have HT := hid ht
            cases hck : checkB (movedP p m) p.turn
            · have HL := hid (show legalB p m = true by simp [legalB, hcm, ht, hck, hsf])
              have HCK := hid hck
              clear hck ht
              gi_wp2_with (first
                | (refine hR.mono ?_; rintro e W3 (⟨rfl, hJ3, hk3⟩ | ⟨rfl, hJx3⟩))
                | ((with_reducible refine wpListIn_load_row_g (m := 133) (off := 0) ?_ Tryz.underlying30 ?_ ?_ ?_ (hq4) ?_ ?_); exact rfl; exact rfl; kernel_rfl; exact rfl; (rw [posCells_size]; decide))
                | ((with_reducible refine wpListIn_load_row_g (m := 133) (off := 0) ?_ Tryz.underlying30 ?_ ?_ ?_ (blk_alloc_at _ _ _ rfl) ?_ ?_); exact rfl; exact rfl; kernel_rfl; exact rfl; (rw [posCells_size]; decide))
                | ((with_reducible refine wpListIn_load_row_g (m := 133) (off := 0) ?_ Tryz.underlying167 ?_ ?_ ?_ (hI2.b) ?_ ?_); exact rfl; exact rfl; kernel_rfl; exact rfl; (rw [posCells_size]; decide))
                | (rw [Oper.semAt_eq _ _ _ (fun c h => by cases h)]; go_simp)
                | ((with_reducible refine wpListIn_load_row (m := 133) (off := 0) Tryz.underlying167 ?_ ?_ ?_ ((Ext.alloc (Ext.refl wr) _).blk _ lf |>.trans HI.out.b) ?_ ?_); exact rfl; kernel_rfl; exact rfl; (rw [posCells_size]; decide))
                | (gi_at_call 155; refine CallsIn.mono (callsIn_wide.2 (castlesJ_any p m _ b0 b1 b2 b3)) ?_; rintro e w2 ⟨rfl, hx2⟩; rw [HCM.out]; have hI2 := HI.out.ext G (Ext.trans (Ext.alloc (Ext.refl wr) _) hx2); have hbm2 := (hx2.blk wr.heap.size (by simp)).trans (blk_alloc_at _ _ _ rfl); have hc20 := blk_cell hbm2 0; have hc21 := blk_cell hbm2 1; have hc22 := blk_cell hbm2 2; simp only [List.getElem?_toArray, List.getElem?_cons_zero, List.getElem?_cons_succ] at hc20 hc21 hc22; have hxr := Ext.trans (Ext.alloc (Ext.refl wr) _) hx2; have hlm2 := blk_lt hbm2)
                | (gi_at_call 156; refine CallsIn.mono (callsIn_wide.2 (safe_any p [m.fr, (m.fr + m.to_) / 2] _ _ (Sl.lits [m.fr, (m.fr + m.to_) / 2] _ _ rfl (alloc_ints2 _ _ _ _)) (by simp))) ?_; rintro e w5 ⟨rfl, hx5⟩; rw [HSF.out]; have hI2 := hI2.ext G (Ext.trans (Ext.alloc (Ext.refl _) _) hx5); have hbm5 := ((Ext.trans (Ext.alloc (Ext.refl _) _) hx5).blk wr.heap.size hlm2).trans hbm2; have hc20 := blk_cell hbm5 0; have hc21 := blk_cell hbm5 1; have hc22 := blk_cell hbm5 2; simp only [List.getElem?_toArray, List.getElem?_cons_zero, List.getElem?_cons_succ] at hc20 hc21 hc22; have hbm2 := hbm5; have hlm2 := blk_lt hbm5; have hxr := Ext.trans hxr (Ext.trans (Ext.alloc (Ext.refl _) _) hx5))
                | ((with_reducible refine wpListIn_load_row (m := 133) (off := 0) Tryz.underlying30 ?_ ?_ ?_ (hI2.b) ?_ ?_); exact rfl; kernel_rfl; exact rfl; (rw [posCells_size]; decide))
                | ((with_reducible refine wpListIn_store_new (q := movedP p m) ?_ ?_ ?_ ?_); exact rfl; exact rfl; kernel_rfl)
                | (gi_at_call 157; refine CallsIn.mono (callsIn_wide.2 (Move_any p m _)) ?_; rintro e w3 ⟨rfl, hx3⟩; rw [HT.out]; have hI3 := hI2.ext G hx3; have hxw := Ext.trans hxr hx3; have hct := blk_cell hI3.b 128; have hlb3 := blk_lt hI3.b; simp only [go_sem] at hct; have hbm3 := (hx3.blk _ hlm2).trans hbm2; have hlm3 := blk_lt hbm3)
                | (gi_at_call 67; refine CallsIn.mono (callsIn_wide.2 (Check_any (movedP p m) p.turn _)) ?_; rintro e w4 ⟨rfl, hx4⟩; rw [HCK.out]; have hq4 : blk w4 w3.heap.size = some (.cells (posCells (movedP p m)) 30 (0, 0)) := (hx4.blk _ (by simp)).trans (blk_alloc_at _ _ _ rfl); have hbm4 := ((Ext.trans (Ext.alloc (Ext.refl w3) _) hx4).blk wr.heap.size hlm3).trans hbm3; have hc40 := blk_cell hbm4 0; have hc41 := blk_cell hbm4 1; have hc42 := blk_cell hbm4 2; simp only [List.getElem?_toArray, List.getElem?_cons_zero, List.getElem?_cons_succ] at hc40 hc41 hc42; have hx34 := Ext.trans (Ext.alloc (Ext.refl w3) _) hx4; have hI4 := hI3.ext G hx34; have hxw4 := Ext.trans hxw hx34; have hJ4 : J (legalUp p k) w4 := hJ _ _ _ none hJr (Ext.grownNone hxw4) (fun r e => by cases e); obtain ⟨fn, tmps, assign, body, hy, hR⟩ := hY _ m w4 (List.mem_of_getElem? HM.out) HL.out hJ4 (HLEN.out); unfold mvC at hy))
              · have hlt9 := HLT.out
                have hall9 := HAll.out
                go_roundw
                case rel => exact ⟨k + 1, by go_num, by have := HLT.out; omega, hI4.kp hk3, by have := hk3.size; have := hxw4.le; omega, by rw [legalUp_succ HM.out, HL.out]; exact hJ3⟩
                case measure => have := HLT.out; simp [intOf]; omega
              · exact bodyPost_ret (results_none rfl _ _ _) rfl ⟨⟨_, rfl⟩, .inr ⟨_, trivial, hJx3⟩⟩
            · have HL := hid (show legalB p m = false by simp [legalB, hcm, ht, hck, hsf])
              have HCK := hid hck
              clear hck ht
              gi_wp2_with (first
                | ((with_reducible refine wpListIn_load_row_g (m := 133) (off := 0) ?_ Tryz.underlying30 ?_ ?_ ?_ (hq4) ?_ ?_); exact rfl; exact rfl; kernel_rfl; exact rfl; (rw [posCells_size]; decide))
                | ((with_reducible refine wpListIn_load_row_g (m := 133) (off := 0) ?_ Tryz.underlying30 ?_ ?_ ?_ (blk_alloc_at _ _ _ rfl) ?_ ?_); exact rfl; exact rfl; kernel_rfl; exact rfl; (rw [posCells_size]; decide))
                | ((with_reducible refine wpListIn_load_row_g (m := 133) (off := 0) ?_ Tryz.underlying167 ?_ ?_ ?_ (hI2.b) ?_ ?_); exact rfl; exact rfl; kernel_rfl; exact rfl; (rw [posCells_size]; decide))
                | (rw [Oper.semAt_eq _ _ _ (fun c h => by cases h)]; go_simp)
                | ((with_reducible refine wpListIn_load_row (m := 133) (off := 0) Tryz.underlying167 ?_ ?_ ?_ ((Ext.alloc (Ext.refl wr) _).blk _ lf |>.trans HI.out.b) ?_ ?_); exact rfl; kernel_rfl; exact rfl; (rw [posCells_size]; decide))
                | (gi_at_call 155; refine CallsIn.mono (callsIn_wide.2 (castlesJ_any p m _ b0 b1 b2 b3)) ?_; rintro e w2 ⟨rfl, hx2⟩; rw [HCM.out]; have hI2 := HI.out.ext G (Ext.trans (Ext.alloc (Ext.refl wr) _) hx2); have hbm2 := (hx2.blk wr.heap.size (by simp)).trans (blk_alloc_at _ _ _ rfl); have hc20 := blk_cell hbm2 0; have hc21 := blk_cell hbm2 1; have hc22 := blk_cell hbm2 2; simp only [List.getElem?_toArray, List.getElem?_cons_zero, List.getElem?_cons_succ] at hc20 hc21 hc22; have hxr := Ext.trans (Ext.alloc (Ext.refl wr) _) hx2; have hlm2 := blk_lt hbm2)
                | (gi_at_call 156; refine CallsIn.mono (callsIn_wide.2 (safe_any p [m.fr, (m.fr + m.to_) / 2] _ _ (Sl.lits [m.fr, (m.fr + m.to_) / 2] _ _ rfl (alloc_ints2 _ _ _ _)) (by simp))) ?_; rintro e w5 ⟨rfl, hx5⟩; rw [HSF.out]; have hI2 := hI2.ext G (Ext.trans (Ext.alloc (Ext.refl _) _) hx5); have hbm5 := ((Ext.trans (Ext.alloc (Ext.refl _) _) hx5).blk wr.heap.size hlm2).trans hbm2; have hc20 := blk_cell hbm5 0; have hc21 := blk_cell hbm5 1; have hc22 := blk_cell hbm5 2; simp only [List.getElem?_toArray, List.getElem?_cons_zero, List.getElem?_cons_succ] at hc20 hc21 hc22; have hbm2 := hbm5; have hlm2 := blk_lt hbm5; have hxr := Ext.trans hxr (Ext.trans (Ext.alloc (Ext.refl _) _) hx5))
                | ((with_reducible refine wpListIn_load_row (m := 133) (off := 0) Tryz.underlying30 ?_ ?_ ?_ (hI2.b) ?_ ?_); exact rfl; kernel_rfl; exact rfl; (rw [posCells_size]; decide))
                | ((with_reducible refine wpListIn_store_new (q := movedP p m) ?_ ?_ ?_ ?_); exact rfl; exact rfl; kernel_rfl)
                | (gi_at_call 157; refine CallsIn.mono (callsIn_wide.2 (Move_any p m _)) ?_; rintro e w3 ⟨rfl, hx3⟩; rw [HT.out]; have hI3 := hI2.ext G hx3; have hxw := Ext.trans hxr hx3; have hct := blk_cell hI3.b 128; have hlb3 := blk_lt hI3.b; simp only [go_sem] at hct; have hbm3 := (hx3.blk _ hlm2).trans hbm2; have hlm3 := blk_lt hbm3)
                | (gi_at_call 67; refine CallsIn.mono (callsIn_wide.2 (Check_any (movedP p m) p.turn _)) ?_; rintro e w4 ⟨rfl, hx4⟩; rw [HCK.out]; have hq4 : blk w4 w3.heap.size = some (.cells (posCells (movedP p m)) 30 (0, 0)) := (hx4.blk _ (by simp)).trans (blk_alloc_at _ _ _ rfl); have hbm4 := ((Ext.trans (Ext.alloc (Ext.refl w3) _) hx4).blk wr.heap.size hlm3).trans hbm3; have hc40 := blk_cell hbm4 0; have hc41 := blk_cell hbm4 1; have hc42 := blk_cell hbm4 2; simp only [List.getElem?_toArray, List.getElem?_cons_zero, List.getElem?_cons_succ] at hc40 hc41 hc42; have hx34 := Ext.trans (Ext.alloc (Ext.refl w3) _) hx4; have hI4 := hI3.ext G hx34; have hxw4 := Ext.trans hxw hx34))
              all_goals
                have hlt9 := HLT.out
                have hall9 := HAll.out
                go_roundw
                case rel => exact ⟨k + 1, by go_num, by have := HLT.out; omega, hI4, by have := (hxw4).le; omega, by rw [legalUp_succ HM.out, HL.out]; simpa using hJ _ _ _ none hJr (Ext.grownNone (hxw4)) (fun r e => by cases e)⟩
                case measure => have := HLT.out; simp [intOf]; omega
          · have HL := hid (show legalB p m = false by simp [legalB, ht])
            gi_wp2_with (first
              | ((with_reducible refine wpListIn_load_row_g (m := 133) (off := 0) ?_ Tryz.underlying167 ?_ ?_ ?_ (hI2.b) ?_ ?_); exact rfl; exact rfl; kernel_rfl; exact rfl; (rw [posCells_size]; decide))
              | (rw [Oper.semAt_eq _ _ _ (fun c h => by cases h)]; go_simp)
              | ((with_reducible refine wpListIn_load_row (m := 133) (off := 0) Tryz.underlying167 ?_ ?_ ?_ ((Ext.alloc (Ext.refl wr) _).blk _ lf |>.trans HI.out.b) ?_ ?_); exact rfl; kernel_rfl; exact rfl; (rw [posCells_size]; decide))
              | (gi_at_call 155; refine CallsIn.mono (callsIn_wide.2 (castlesJ_any p m _ b0 b1 b2 b3)) ?_; rintro e w2 ⟨rfl, hx2⟩; rw [HCM.out]; have hI2 := HI.out.ext G (Ext.trans (Ext.alloc (Ext.refl wr) _) hx2); have hbm2 := (hx2.blk wr.heap.size (by simp)).trans (blk_alloc_at _ _ _ rfl); have hc20 := blk_cell hbm2 0; have hc21 := blk_cell hbm2 1; have hc22 := blk_cell hbm2 2; simp only [List.getElem?_toArray, List.getElem?_cons_zero, List.getElem?_cons_succ] at hc20 hc21 hc22; have hxr := Ext.trans (Ext.alloc (Ext.refl wr) _) hx2; have hlm2 := blk_lt hbm2)
              | (gi_at_call 156; refine CallsIn.mono (callsIn_wide.2 (safe_any p [m.fr, (m.fr + m.to_) / 2] _ _ (Sl.lits [m.fr, (m.fr + m.to_) / 2] _ _ rfl (alloc_ints2 _ _ _ _)) (by simp))) ?_; rintro e w5 ⟨rfl, hx5⟩; rw [HSF.out]; have hI2 := hI2.ext G (Ext.trans (Ext.alloc (Ext.refl _) _) hx5); have hbm5 := ((Ext.trans (Ext.alloc (Ext.refl _) _) hx5).blk wr.heap.size hlm2).trans hbm2; have hc20 := blk_cell hbm5 0; have hc21 := blk_cell hbm5 1; have hc22 := blk_cell hbm5 2; simp only [List.getElem?_toArray, List.getElem?_cons_zero, List.getElem?_cons_succ] at hc20 hc21 hc22; have hbm2 := hbm5; have hlm2 := blk_lt hbm5; have hxr := Ext.trans hxr (Ext.trans (Ext.alloc (Ext.refl _) _) hx5))
              | ((with_reducible refine wpListIn_load_row (m := 133) (off := 0) Tryz.underlying30 ?_ ?_ ?_ (hI2.b) ?_ ?_); exact rfl; kernel_rfl; exact rfl; (rw [posCells_size]; decide))
              | ((with_reducible refine wpListIn_store_new (q := movedP p m) ?_ ?_ ?_ ?_); exact rfl; exact rfl; kernel_rfl)
              | (gi_at_call 157; refine CallsIn.mono (callsIn_wide.2 (Move_any p m _)) ?_; rintro e w3 ⟨rfl, hx3⟩; have hI3 := hI2.ext G hx3; have hxw := Ext.trans hxr hx3; have hct := blk_cell hI3.b 128; have hlb3 := blk_lt hI3.b; simp only [go_sem] at hct; have hbm3 := (hx3.blk _ hlm2).trans hbm2; have hlm3 := blk_lt hbm3))
            all_goals
              have hlt9 := HLT.out
              have hall9 := HAll.out
              go_roundw
              case rel => exact ⟨k + 1, by go_num, by have := HLT.out; omega, hI3.ext G (Ext.alloc (Ext.refl _) _), by have := (hxw.alloc (.cells (posCells (movedP p m)) 30 (0, 0))).le; omega, by rw [legalUp_succ HM.out, HL.out]; simpa using hJ _ _ _ none hJr (Ext.grownNone (hxw.alloc (.cells (posCells (movedP p m)) 30 (0, 0)))) (fun r e => by cases e)⟩
              case measure => have := HLT.out; simp [intOf]; omega
    · obtain rfl : k = (AllL p).length := by omega
      gi_wp2
      go_end0
      exact ⟨⟨_, rfl⟩, .inl ⟨_, by unfold legalL legalUp; rw [List.take_length], hJr⟩⟩
end Go.Proofs.YtdmgimfgoajmjaaGreatDoor
namespace Go.Proofs.YtdmgimfgoajmjaaGreatDoor
open Go.RowKit
def castlingOf (p : Pos) (m : Mv) : Int := if (rookOf p m (p.kind m.fr.toNat) (p.side m.fr.toNat)).2.2 = true then (if m.to_ = homeOf (p.side m.fr.toNat) + 2 then 1 else -1) else 0
theorem castlingOf_eq (p : Pos) (m : Mv) : castlingOf p m = if p.kind m.fr.toNat = 6 ∧ m.fr = homeOf (p.side m.fr.toNat) then
    (if m.to_ = homeOf (p.side m.fr.toNat) + 2 then (if p.castle / (if p.side m.fr.toNat = 1 then 4 else 1) % 2 = 1 then 1 else 0) else if m.to_ = homeOf (p.side m.fr.toNat) - 2 then (if p.castle / (if p.side m.fr.toNat = 1 then 8 else 2) % 2 = 1 then -1 else 0) else 0) else 0 := by
  unfold castlingOf rookOf
  split <;> rename_i hc
  · split <;> rename_i h1
    · simp [h1]
    · split <;> rename_i h2
      · simp
      · simp
  · simp
set_option maxRecDepth 100000 in
set_option maxHeartbeats 2000000 in
theorem rCastling_any (p : Pos) (m : Mv) (w : World) (H : CanAt p m) (c0 : 0 ≤ p.castle) (c1 : p.castle ≤ 15) :
    Calls Tryz.prog 119 #[.agg (posCells p), .agg #[.int .i64 m.fr, .int .i64 m.to_, .int .i64 m.be]] w (Ret (.int .i64 (castlingOf p m)) w) := by
  obtain ⟨f0, f1, t0, t1, ne, k0, k1, st, s0, be⟩ := H
  have HE := hid (castlingOf_eq p m)
  have f2 : m.fr.toNat < 64 := by omega
  have q0 : p.castle.tmod 2 = p.castle % 2 := Int.tmod_eq_emod_of_nonneg c0
  have q1 : p.castle.tdiv 2 = p.castle / 2 := Int.tdiv_eq_ediv_of_nonneg c0
  have q2 : p.castle.tdiv 4 = p.castle / 4 := Int.tdiv_eq_ediv_of_nonneg c0
  have q3 : p.castle.tdiv 8 = p.castle / 8 := Int.tdiv_eq_ediv_of_nonneg c0
  have q4 : (p.castle / 2).tmod 2 = p.castle / 2 % 2 := Int.tmod_eq_emod_of_nonneg (by omega)
  have q5 : (p.castle / 4).tmod 2 = p.castle / 4 % 2 := Int.tmod_eq_emod_of_nonneg (by omega)
  have q6 : (p.castle / 8).tmod 2 = p.castle / 8 % 2 := Int.tmod_eq_emod_of_nonneg (by omega)
  clear be k0 k1
  rcases s0 with e | e
  · rw [e] at st
    have H0 := HE.out
    clear HE
    rw [st] at H0
    have HE := hid (H0.trans (show _ = (if p.kind m.fr.toNat = 6 ∧ m.fr = 4 then (if m.to_ = 6 then (if p.castle % 2 = 1 then 1 else 0) else if m.to_ = 2 then (if p.castle / 2 % 2 = 1 then -1 else 0) else 0) else 0) by simp [homeOf]))
    clear H0
    go_enter Tryz.func119, Tryz.ntmps119
    go_wp2_with (first | (go_at_call 121; (with_reducible refine (rCas8_any p _ c0 c1).mono ?_); rintro e w1 ⟨rfl, hx⟩; obtain ⟨hxc, hxf, hxb, hxs⟩ := hx.all; (try simp only [World.size_alloc, size_set, size_drew] at hxc hxf hxb hxs); (first | (have h4 := lt4 w.heap.size w1.heap.size (by omega)); (obtain ⟨_, _, _, _⟩ := h4) | (have h4 := lt3 w.heap.size w1.heap.size (by omega)); (obtain ⟨_, _, _⟩ := h4) | (have h4 := lt2 w.heap.size w1.heap.size (by omega)); (obtain ⟨_, _⟩ := h4) | have := lt1 w.heap.size w1.heap.size (by omega) | skip)))
    all_goals (go_ret; exact Ret.mk' (vint (by rw [HE.out]; go_light; (repeat' split); all_goals first | rfl | (exfalso; (try simp at *); omega))) (Ext.auto))
  · rw [e] at st
    have H0 := HE.out
    clear HE
    rw [st] at H0
    have HE := hid (H0.trans (show _ = (if p.kind m.fr.toNat = 6 ∧ m.fr = 60 then (if m.to_ = 62 then (if p.castle / 4 % 2 = 1 then 1 else 0) else if m.to_ = 58 then (if p.castle / 8 % 2 = 1 then -1 else 0) else 0) else 0) by simp [homeOf]))
    clear H0
    go_enter Tryz.func119, Tryz.ntmps119
    go_wp2_with (first | (go_at_call 121; (with_reducible refine (rCas8_any p _ c0 c1).mono ?_); rintro e w1 ⟨rfl, hx⟩; obtain ⟨hxc, hxf, hxb, hxs⟩ := hx.all; (try simp only [World.size_alloc, size_set, size_drew] at hxc hxf hxb hxs); (first | (have h4 := lt4 w.heap.size w1.heap.size (by omega)); (obtain ⟨_, _, _, _⟩ := h4) | (have h4 := lt3 w.heap.size w1.heap.size (by omega)); (obtain ⟨_, _, _⟩ := h4) | (have h4 := lt2 w.heap.size w1.heap.size (by omega)); (obtain ⟨_, _⟩ := h4) | have := lt1 w.heap.size w1.heap.size (by omega) | skip)))
    all_goals (go_ret; exact Ret.mk' (vint (by rw [HE.out]; go_light; (repeat' split); all_goals first | rfl | (exfalso; (try simp at *); omega))) (Ext.auto))
theorem takesAt_over {p : Pos} {m : Mv} (f0 : 0 ≤ m.fr) (f1 : m.fr < 64) (t0 : 0 ≤ m.to_) (t1 : m.to_ < 64) : takesAt p m (p.kind m.fr.toNat) = if overC p m = true then m.fr / 8 * 8 + m.to_ % 8 else m.to_ := by
  have g1 : fileOf m.fr = m.fr % 8 := if_pos ⟨f0, f1⟩
  have g2 : fileOf m.to_ = m.to_ % 8 := if_pos ⟨t0, t1⟩
  unfold takesAt overC turnsOf
  rw [g1, g2]
  simp only [Bool.and_eq_true, beq_iff_eq, bne_iff_ne]
  by_cases h : p.kind m.fr.toNat = 1 ∧ m.to_ % 8 - m.fr % 8 ≠ 0 ∧ m.to_ = p.over ∧ bareB p m.to_ = true
  · rw [if_pos h, if_pos ⟨⟨⟨h.1, by omega⟩, h.2.2.1⟩, h.2.2.2⟩]
  · rw [if_neg h, if_neg (fun c => h ⟨c.1.1.1, by omega, c.1.2, c.2⟩)]
set_option maxRecDepth 100000 in
set_option maxHeartbeats 2000000 in
theorem rTakes_any (p : Pos) (m : Mv) (w : World) (h : takenE p m = 0) :
    Calls Tryz.prog 118 #[.agg (posCells p), .agg #[.int .i64 m.fr, .int .i64 m.to_, .int .i64 m.be]] w (Ret (.int .i64 (takesOf p m (p.kind m.fr.toNat))) w) := by
  have H := can_at h
  have HC := fun w => rCan_any p m w h
  obtain ⟨f0, f1, t0, t1, ne, -, -, -, -, -⟩ := H
  have h1 : m.fr.tdiv 8 = m.fr / 8 := by rw [Int.tdiv_eq_ediv_of_nonneg f0]
  have h2 : m.to_.tmod 8 = m.to_ % 8 := by rw [Int.tmod_eq_emod_of_nonneg t0]
  have i1 : isSq m.fr = true := by simp [isSq, f0, f1]
  have i2 : isSq m.to_ = true := by simp [isSq, t0, t1]
  have e1 : (m.fr == m.to_) = false := by simpa using ne
  have HT := takesAt_over (p := p) f0 f1 t0 t1
  have HO := fun w => rOver8_any p m w f0 f1 t0 t1
  have hx0 : 0 ≤ m.fr / 8 * 8 + m.to_ % 8 ∧ m.fr / 8 * 8 + m.to_ % 8 < 64 := by omega
  have HE := hid (show takesOf p m (p.kind m.fr.toNat) = if bareB p (takesAt p m (p.kind m.fr.toNat)) = true then -1 else takesAt p m (p.kind m.fr.toNat) from rfl)
  clear h ne
  cases hov : overC p m
  · rw [hov] at HT HO
    rw [if_neg (by decide)] at HT
    rw [HT] at HE
    clear HT hov
    have t2 : m.to_.toNat < 64 := by omega
    by_cases b1 : p.kind m.to_.toNat = 0
    · by_cases b2 : p.side m.to_.toNat = 0
      · have hb := hid (show bareB p m.to_ = true by simp [bareB, b1, b2])
        go_enter Tryz.func118, Tryz.ntmps118
        go_wp2_with (first | (go_at_call 116; (with_reducible refine (rIs8_any _ _).mono ?_); rintro e w1 ⟨rfl, hx⟩; obtain ⟨hxc, hxf, hxb, hxs⟩ := hx.all; (try simp only [World.size_alloc, size_set, size_drew] at hxc hxf hxb hxs); (first | (have h4 := lt4 w.heap.size w1.heap.size (by omega)); (obtain ⟨_, _, _, _⟩ := h4) | (have h4 := lt3 w.heap.size w1.heap.size (by omega)); (obtain ⟨_, _, _⟩ := h4) | (have h4 := lt2 w.heap.size w1.heap.size (by omega)); (obtain ⟨_, _⟩ := h4) | have := lt1 w.heap.size w1.heap.size (by omega) | skip)) | (go_at_call 117; (with_reducible refine (HC _).mono ?_); rintro e w1 ⟨rfl, hx⟩; obtain ⟨hxc, hxf, hxb, hxs⟩ := hx.all; (try simp only [World.size_alloc, size_set, size_drew] at hxc hxf hxb hxs); (first | (have h4 := lt4 w.heap.size w1.heap.size (by omega)); (obtain ⟨_, _, _, _⟩ := h4) | (have h4 := lt3 w.heap.size w1.heap.size (by omega)); (obtain ⟨_, _, _⟩ := h4) | (have h4 := lt2 w.heap.size w1.heap.size (by omega)); (obtain ⟨_, _⟩ := h4) | have := lt1 w.heap.size w1.heap.size (by omega) | skip)) | (go_at_call 166; (with_reducible refine (HO _).mono ?_); rintro e w1 ⟨rfl, hx⟩; obtain ⟨hxc, hxf, hxb, hxs⟩ := hx.all; (try simp only [World.size_alloc, size_set, size_drew] at hxc hxf hxb hxs); (first | (have h4 := lt4 w.heap.size w1.heap.size (by omega)); (obtain ⟨_, _, _, _⟩ := h4) | (have h4 := lt3 w.heap.size w1.heap.size (by omega)); (obtain ⟨_, _, _⟩ := h4) | (have h4 := lt2 w.heap.size w1.heap.size (by omega)); (obtain ⟨_, _⟩ := h4) | have := lt1 w.heap.size w1.heap.size (by omega) | skip)))
        all_goals (go_ret; exact Ret.mk' (vint (by rw [HE.out, hb.out]; rfl)) (Ext.auto))
      · have hb := hid (show bareB p m.to_ = false by simp [bareB, b1, b2])
        have b3 : (p.side m.to_.toNat == 0) = false := by simpa using b2
        clear b2
        go_enter Tryz.func118, Tryz.ntmps118
        go_wp2_with (first | (go_at_call 116; (with_reducible refine (rIs8_any _ _).mono ?_); rintro e w1 ⟨rfl, hx⟩; obtain ⟨hxc, hxf, hxb, hxs⟩ := hx.all; (try simp only [World.size_alloc, size_set, size_drew] at hxc hxf hxb hxs); (first | (have h4 := lt4 w.heap.size w1.heap.size (by omega)); (obtain ⟨_, _, _, _⟩ := h4) | (have h4 := lt3 w.heap.size w1.heap.size (by omega)); (obtain ⟨_, _, _⟩ := h4) | (have h4 := lt2 w.heap.size w1.heap.size (by omega)); (obtain ⟨_, _⟩ := h4) | have := lt1 w.heap.size w1.heap.size (by omega) | skip)) | (go_at_call 117; (with_reducible refine (HC _).mono ?_); rintro e w1 ⟨rfl, hx⟩; obtain ⟨hxc, hxf, hxb, hxs⟩ := hx.all; (try simp only [World.size_alloc, size_set, size_drew] at hxc hxf hxb hxs); (first | (have h4 := lt4 w.heap.size w1.heap.size (by omega)); (obtain ⟨_, _, _, _⟩ := h4) | (have h4 := lt3 w.heap.size w1.heap.size (by omega)); (obtain ⟨_, _, _⟩ := h4) | (have h4 := lt2 w.heap.size w1.heap.size (by omega)); (obtain ⟨_, _⟩ := h4) | have := lt1 w.heap.size w1.heap.size (by omega) | skip)) | (go_at_call 166; (with_reducible refine (HO _).mono ?_); rintro e w1 ⟨rfl, hx⟩; obtain ⟨hxc, hxf, hxb, hxs⟩ := hx.all; (try simp only [World.size_alloc, size_set, size_drew] at hxc hxf hxb hxs); (first | (have h4 := lt4 w.heap.size w1.heap.size (by omega)); (obtain ⟨_, _, _, _⟩ := h4) | (have h4 := lt3 w.heap.size w1.heap.size (by omega)); (obtain ⟨_, _, _⟩ := h4) | (have h4 := lt2 w.heap.size w1.heap.size (by omega)); (obtain ⟨_, _⟩ := h4) | have := lt1 w.heap.size w1.heap.size (by omega) | skip)))
        all_goals (go_ret; exact Ret.mk' (vint (by rw [HE.out, hb.out]; rfl)) (Ext.auto))
    · have hb := hid (show bareB p m.to_ = false by simp [bareB, b1])
      have b3 : (p.kind m.to_.toNat == 0) = false := by simpa using b1
      clear b1
      go_enter Tryz.func118, Tryz.ntmps118
      go_wp2_with (first | (go_at_call 116; (with_reducible refine (rIs8_any _ _).mono ?_); rintro e w1 ⟨rfl, hx⟩; obtain ⟨hxc, hxf, hxb, hxs⟩ := hx.all; (try simp only [World.size_alloc, size_set, size_drew] at hxc hxf hxb hxs); (first | (have h4 := lt4 w.heap.size w1.heap.size (by omega)); (obtain ⟨_, _, _, _⟩ := h4) | (have h4 := lt3 w.heap.size w1.heap.size (by omega)); (obtain ⟨_, _, _⟩ := h4) | (have h4 := lt2 w.heap.size w1.heap.size (by omega)); (obtain ⟨_, _⟩ := h4) | have := lt1 w.heap.size w1.heap.size (by omega) | skip)) | (go_at_call 117; (with_reducible refine (HC _).mono ?_); rintro e w1 ⟨rfl, hx⟩; obtain ⟨hxc, hxf, hxb, hxs⟩ := hx.all; (try simp only [World.size_alloc, size_set, size_drew] at hxc hxf hxb hxs); (first | (have h4 := lt4 w.heap.size w1.heap.size (by omega)); (obtain ⟨_, _, _, _⟩ := h4) | (have h4 := lt3 w.heap.size w1.heap.size (by omega)); (obtain ⟨_, _, _⟩ := h4) | (have h4 := lt2 w.heap.size w1.heap.size (by omega)); (obtain ⟨_, _⟩ := h4) | have := lt1 w.heap.size w1.heap.size (by omega) | skip)) | (go_at_call 166; (with_reducible refine (HO _).mono ?_); rintro e w1 ⟨rfl, hx⟩; obtain ⟨hxc, hxf, hxb, hxs⟩ := hx.all; (try simp only [World.size_alloc, size_set, size_drew] at hxc hxf hxb hxs); (first | (have h4 := lt4 w.heap.size w1.heap.size (by omega)); (obtain ⟨_, _, _, _⟩ := h4) | (have h4 := lt3 w.heap.size w1.heap.size (by omega)); (obtain ⟨_, _, _⟩ := h4) | (have h4 := lt2 w.heap.size w1.heap.size (by omega)); (obtain ⟨_, _⟩ := h4) | have := lt1 w.heap.size w1.heap.size (by omega) | skip)))
      all_goals (go_ret; exact Ret.mk' (vint (by rw [HE.out, hb.out]; rfl)) (Ext.auto))
  · rw [hov] at HT HO
    rw [if_pos rfl] at HT
    rw [HT] at HE
    clear HT hov
    obtain ⟨x0, x1⟩ := hx0
    have t2 : (m.fr / 8 * 8 + m.to_ % 8).toNat < 64 := by omega
    by_cases b1 : p.kind (m.fr / 8 * 8 + m.to_ % 8).toNat = 0
    · by_cases b2 : p.side (m.fr / 8 * 8 + m.to_ % 8).toNat = 0
      · have hb := hid (show bareB p (m.fr / 8 * 8 + m.to_ % 8) = true by simp [bareB, b1, b2])
        go_enter Tryz.func118, Tryz.ntmps118
        go_wp2_with (first | (go_at_call 116; (with_reducible refine (rIs8_any _ _).mono ?_); rintro e w1 ⟨rfl, hx⟩; obtain ⟨hxc, hxf, hxb, hxs⟩ := hx.all; (try simp only [World.size_alloc, size_set, size_drew] at hxc hxf hxb hxs); (first | (have h4 := lt4 w.heap.size w1.heap.size (by omega)); (obtain ⟨_, _, _, _⟩ := h4) | (have h4 := lt3 w.heap.size w1.heap.size (by omega)); (obtain ⟨_, _, _⟩ := h4) | (have h4 := lt2 w.heap.size w1.heap.size (by omega)); (obtain ⟨_, _⟩ := h4) | have := lt1 w.heap.size w1.heap.size (by omega) | skip)) | (go_at_call 117; (with_reducible refine (HC _).mono ?_); rintro e w1 ⟨rfl, hx⟩; obtain ⟨hxc, hxf, hxb, hxs⟩ := hx.all; (try simp only [World.size_alloc, size_set, size_drew] at hxc hxf hxb hxs); (first | (have h4 := lt4 w.heap.size w1.heap.size (by omega)); (obtain ⟨_, _, _, _⟩ := h4) | (have h4 := lt3 w.heap.size w1.heap.size (by omega)); (obtain ⟨_, _, _⟩ := h4) | (have h4 := lt2 w.heap.size w1.heap.size (by omega)); (obtain ⟨_, _⟩ := h4) | have := lt1 w.heap.size w1.heap.size (by omega) | skip)) | (go_at_call 166; (with_reducible refine (HO _).mono ?_); rintro e w1 ⟨rfl, hx⟩; obtain ⟨hxc, hxf, hxb, hxs⟩ := hx.all; (try simp only [World.size_alloc, size_set, size_drew] at hxc hxf hxb hxs); (first | (have h4 := lt4 w.heap.size w1.heap.size (by omega)); (obtain ⟨_, _, _, _⟩ := h4) | (have h4 := lt3 w.heap.size w1.heap.size (by omega)); (obtain ⟨_, _, _⟩ := h4) | (have h4 := lt2 w.heap.size w1.heap.size (by omega)); (obtain ⟨_, _⟩ := h4) | have := lt1 w.heap.size w1.heap.size (by omega) | skip)))
        all_goals (go_ret; exact Ret.mk' (vint (by rw [HE.out, hb.out]; rfl)) (Ext.auto))
      · have hb := hid (show bareB p (m.fr / 8 * 8 + m.to_ % 8) = false by simp [bareB, b1, b2])
        have b3 : (p.side (m.fr / 8 * 8 + m.to_ % 8).toNat == 0) = false := by simpa using b2
        clear b2
        go_enter Tryz.func118, Tryz.ntmps118
        go_wp2_with (first | (go_at_call 116; (with_reducible refine (rIs8_any _ _).mono ?_); rintro e w1 ⟨rfl, hx⟩; obtain ⟨hxc, hxf, hxb, hxs⟩ := hx.all; (try simp only [World.size_alloc, size_set, size_drew] at hxc hxf hxb hxs); (first | (have h4 := lt4 w.heap.size w1.heap.size (by omega)); (obtain ⟨_, _, _, _⟩ := h4) | (have h4 := lt3 w.heap.size w1.heap.size (by omega)); (obtain ⟨_, _, _⟩ := h4) | (have h4 := lt2 w.heap.size w1.heap.size (by omega)); (obtain ⟨_, _⟩ := h4) | have := lt1 w.heap.size w1.heap.size (by omega) | skip)) | (go_at_call 117; (with_reducible refine (HC _).mono ?_); rintro e w1 ⟨rfl, hx⟩; obtain ⟨hxc, hxf, hxb, hxs⟩ := hx.all; (try simp only [World.size_alloc, size_set, size_drew] at hxc hxf hxb hxs); (first | (have h4 := lt4 w.heap.size w1.heap.size (by omega)); (obtain ⟨_, _, _, _⟩ := h4) | (have h4 := lt3 w.heap.size w1.heap.size (by omega)); (obtain ⟨_, _, _⟩ := h4) | (have h4 := lt2 w.heap.size w1.heap.size (by omega)); (obtain ⟨_, _⟩ := h4) | have := lt1 w.heap.size w1.heap.size (by omega) | skip)) | (go_at_call 166; (with_reducible refine (HO _).mono ?_); rintro e w1 ⟨rfl, hx⟩; obtain ⟨hxc, hxf, hxb, hxs⟩ := hx.all; (try simp only [World.size_alloc, size_set, size_drew] at hxc hxf hxb hxs); (first | (have h4 := lt4 w.heap.size w1.heap.size (by omega)); (obtain ⟨_, _, _, _⟩ := h4) | (have h4 := lt3 w.heap.size w1.heap.size (by omega)); (obtain ⟨_, _, _⟩ := h4) | (have h4 := lt2 w.heap.size w1.heap.size (by omega)); (obtain ⟨_, _⟩ := h4) | have := lt1 w.heap.size w1.heap.size (by omega) | skip)))
        all_goals (go_ret; exact Ret.mk' (vint (by rw [HE.out, hb.out]; rfl)) (Ext.auto))
    · have hb := hid (show bareB p (m.fr / 8 * 8 + m.to_ % 8) = false by simp [bareB, b1])
      have b3 : (p.kind (m.fr / 8 * 8 + m.to_ % 8).toNat == 0) = false := by simpa using b1
      clear b1
      go_enter Tryz.func118, Tryz.ntmps118
      go_wp2_with (first | (go_at_call 116; (with_reducible refine (rIs8_any _ _).mono ?_); rintro e w1 ⟨rfl, hx⟩; obtain ⟨hxc, hxf, hxb, hxs⟩ := hx.all; (try simp only [World.size_alloc, size_set, size_drew] at hxc hxf hxb hxs); (first | (have h4 := lt4 w.heap.size w1.heap.size (by omega)); (obtain ⟨_, _, _, _⟩ := h4) | (have h4 := lt3 w.heap.size w1.heap.size (by omega)); (obtain ⟨_, _, _⟩ := h4) | (have h4 := lt2 w.heap.size w1.heap.size (by omega)); (obtain ⟨_, _⟩ := h4) | have := lt1 w.heap.size w1.heap.size (by omega) | skip)) | (go_at_call 117; (with_reducible refine (HC _).mono ?_); rintro e w1 ⟨rfl, hx⟩; obtain ⟨hxc, hxf, hxb, hxs⟩ := hx.all; (try simp only [World.size_alloc, size_set, size_drew] at hxc hxf hxb hxs); (first | (have h4 := lt4 w.heap.size w1.heap.size (by omega)); (obtain ⟨_, _, _, _⟩ := h4) | (have h4 := lt3 w.heap.size w1.heap.size (by omega)); (obtain ⟨_, _, _⟩ := h4) | (have h4 := lt2 w.heap.size w1.heap.size (by omega)); (obtain ⟨_, _⟩ := h4) | have := lt1 w.heap.size w1.heap.size (by omega) | skip)) | (go_at_call 166; (with_reducible refine (HO _).mono ?_); rintro e w1 ⟨rfl, hx⟩; obtain ⟨hxc, hxf, hxb, hxs⟩ := hx.all; (try simp only [World.size_alloc, size_set, size_drew] at hxc hxf hxb hxs); (first | (have h4 := lt4 w.heap.size w1.heap.size (by omega)); (obtain ⟨_, _, _, _⟩ := h4) | (have h4 := lt3 w.heap.size w1.heap.size (by omega)); (obtain ⟨_, _, _⟩ := h4) | (have h4 := lt2 w.heap.size w1.heap.size (by omega)); (obtain ⟨_, _⟩ := h4) | have := lt1 w.heap.size w1.heap.size (by omega) | skip)))
      all_goals (go_ret; exact Ret.mk' (vint (by rw [HE.out, hb.out]; rfl)) (Ext.auto))
end Go.Proofs.YtdmgimfgoajmjaaGreatDoor
