/- GameStops: the law's function, whatever the position, the moves and the reason. -/
import Derived.Test.YtdmgimfgoajmjaaGreatDoorC43
set_option linter.unusedVariables false
set_option linter.unusedSimpArgs false
set_option maxRecDepth 100000
set_option maxHeartbeats 4000000
namespace Go.Proofs.YtdmgimfgoajmjaaGreatDoor
open Go.RowKit Go.Maps
theorem turn_pos {p : Pos} (h : positionB p = true) : p.turn = 0 ∨ p.turn = 1 := by
 unfold positionB rightB at h
 simp only [Bool.and_eq_true] at h
 exact (pieces_iff.1 h.1.1.1.1).2.2.2
theorem less_turn {p : Pos} (h : positionB p = true) : IntKind.i64.wrap (1 - p.turn) = otherOf p.turn := by
 rcases turn_pos h with e | e <;> rw [e] <;> rfl
@[go_sem] theorem field_side (p : Pos) (w : World) : (Instr.field 30 (.agg (posCells p)) 1).run Tryz.prog w = .ok (.int .i64 p.turn) w := by
  have h : ∀ cs : Array Value, cs[128]? = some (.int .i64 p.turn) → (Instr.field 30 (.agg cs) 1).run Tryz.prog w = .ok (.int .i64 p.turn) w := by
   intro cs hc
   simp only [Instr.field, Sem.run_bind, run_underlying Tryz.underlying30 w, Result.andThen_ok]
   show (asAgg (.agg cs) >>= fun c => part 24 c 128).run Tryz.prog w = _
   simp only [Sem.run_bind, asAgg, part, Tryz.isAgg24, Result.andThen_ok, Sem.run_pure, hc]
   rfl
  exact h _ (posCells_turn p)
theorem may_six {s : GS} (h : s.res = 0) : mayS s 6 = decide (3 ≤ manyB s.ps s.at_) := by unfold mayS; simp [h]
theorem may_seven {s : GS} (h : s.res = 0) : mayS s 7 = beyondB s.at_ [100] := by unfold mayS; simp [h]
theorem may_shut {s : GS} (h : s.res ≠ 0) (y : Int) : mayS s y = false := by unfold mayS; simp [h]
theorem may_else {s : GS} {y : Int} (h6 : y ≠ 6) (h7 : y ≠ 7) : mayS s y = false := by unfold mayS; simp [h6, h7]
theorem claim_yes {s : GS} {y : Int} (h : mayS s y = true) : claimE s y = 0 ∧ (claimS s y).res = 3 ∧ (claimS s y).why = y := by
 have h2 : claimE s y = 0 := by
  unfold claimE
  by_cases h0 : s.res = 0
  ·by_cases h6 : y ≠ 6 ∧ y ≠ 7
   ·rw [may_else h6.1 h6.2] at h; cases h
   ·rw [if_neg h6, if_neg (by simp [h0]), if_pos h]
  ·rw [may_shut h0] at h; cases h
 refine ⟨h2, ?_, ?_⟩ <;> (unfold claimS; rw [if_pos h2])
theorem claim_no {s : GS} {y : Int} (h : mayS s y = false) : claimE s y ≠ 0 ∧ claimS s y = s := by
 have h2 : claimE s y ≠ 0 := by
  unfold claimE
  (repeat' split) <;> first | decide | (rename_i hm; rw [h] at hm; cases hm)
 exact ⟨h2, if_neg h2⟩
theorem stop_yes {s : GS} {y : Int} (h : s.res = 0) (hy : y = 8 ∨ y = 9 ∨ y = 10) : stopE s y = 0 ∧ (stopS s y).res = (if y = 8 then 3 else winsOf (otherOf s.at_.turn)) ∧ (stopS s y).why = y ∧ (stopS s y).at_ = s.at_ := by
 have h2 : stopE s y = 0 := by unfold stopE; rw [if_neg (by omega), if_neg (by simp [h])]
 refine ⟨h2, ?_, ?_, ?_⟩ <;> (unfold stopS; rw [if_pos h2])
theorem stop_shut {s : GS} {y : Int} (h : s.res ≠ 0) (hy : y = 8 ∨ y = 9 ∨ y = 10) : stopE s y = 9 ∧ stopS s y = s := by
 have h2 : stopE s y = 9 := by unfold stopE; rw [if_neg (by omega), if_pos h]
 exact ⟨h2, if_neg (by rw [h2]; decide)⟩
theorem stop_else {s : GS} {y : Int} (hy : ¬ (y = 8 ∨ y = 9 ∨ y = 10)) : stopE s y = 2 ∧ stopS s y = s := by
 have h2 : stopE s y = 2 := by unfold stopE; rw [if_pos (by omega)]
 exact ⟨h2, if_neg (by rw [h2]; decide)⟩
theorem GameStops_any (p : Pos) (ms : List Mv) (y : Int) (v : Value) (w : World) (hS : SlMv w v ms) (ht : Tab10 w.heap.size w) (hA : ∀ W, Ext w W → Calls Tryz.prog 39 #[] W (Ret (.bool true) W)) :
 Calls Tryz.prog 11 #[.agg (posCells p), v, .int .i64 y] w (Ret (.bool true) w) := by
 obtain ⟨a, cap, rfl⟩ := hS.1
 have hE0 : Ext w (w.alloc (.cells (posCells p) 30)) := Ext.alloc (Ext.refl w) _
 have hA1 := hA _ hE0
 have HT := hid ht
 have HSS := hid hS
 clear ht hA hS
 by_cases hbig : 30 < ms.length
 ·go_enter Tryz.func11, Tryz.ntmps11
  go_wp2_with (go_at_call 39; (with_reducible refine hA1.mono ?_); rintro e w1 ⟨rfl, hx1⟩)
  go_ret
  exact Ret.mk' rfl (hE0.trans hx1)
 ·cases hpos : positionB p
  ·have hF := fun W => FromG_no p W hpos
   clear hpos
   go_enter Tryz.func11, Tryz.ntmps11
   go_wp2_with (first
    | (go_at_call 39; (with_reducible refine hA1.mono ?_); rintro e w1 ⟨rfl, hx1⟩; (have hp1 := (hx1.blk w.heap.size (by simp)).trans (blk_alloc_at w (.cells (posCells p) 30) _ rfl)))
    | (go_at_call 40; (with_reducible refine (hF _).mono ?_); rintro e w2 ⟨rfl, hx2⟩))
   go_ret
   exact Ret.mk' rfl (hE0.trans (hx1.trans hx2))
  ·have hF := fun W (h : Ext w W) => FromG_yes p W hpos (HT.out.up h)
   have HOK := hid hpos
   clear hpos
   go_enter Tryz.func11, Tryz.ntmps11
   go_upto_region 5 with (go_at_call 39; (with_reducible refine hA1.mono ?_); rintro e w1 ⟨rfl, hx1⟩; (have hp1 := (hx1.blk w.heap.size (by simp)).trans (blk_alloc_at w (.cells (posCells p) 30) _ rfl)))
   have hF1 := hF _ (hE0.trans hx1)
   go_upto_region 8 with (go_at_call 40; (with_reducible refine hF1.mono ?_); rintro e w2 ⟨g, b, m, rfl, hP2, hf2, hx2⟩; (have hp2 := (hx2.blk _ (blk_lt hp1)).trans hp1); (have HP2 := hid hP2); (have HF2 := hid hf2); clear hP2 hf2)
   have hE2 : Ext w w2 := hE0.trans (hx1.trans hx2)
   have hA3 : Ext w2 (w2.alloc (.cells (posCells p) 30)) := Ext.alloc (Ext.refl _) _
   have hNw := New_any (.slice (some ⟨w2.heap.size, 0, none⟩) 1 1) [p] _ (SlP.of_own (own_pos1 (blk_alloc_at w2 (.cells (posCells p) 30) _ rfl))) (by simp) (by simpa using rng_pos HOK.out) (HT.out.up (hE2.trans hA3))
   go_upto_block 0 with (go_at_call 13; (with_reducible refine hNw.mono ?_); rintro e w4 ⟨c, n, D, rfl, lc, ln, hcn, hb4, hc4, hg4, hx4⟩)
   have hE4 : Ext w w4 := hE2.trans (hA3.trans hx4)
   have hG4 : GB g b m c n (.slice none 0 0) (fromS p) [p] w4 := GB.start (HP2.out.ext hA3) hx4 lc ln hb4 hc4 hg4
   have hfl4 : ∀ k, footG g b m (.slice none 0 0) k → w.heap.size ≤ k := fun k hk => Nat.le_trans (hE0.trans hx1).le (HF2.out k hk)
   have hnB : w.heap.size ≤ n := Nat.le_trans (hE2.trans hA3).le ln
   have HG4 := hid hG4
   have HFL4 := hid hfl4
   clear hF hF1 hA1 hNw hA3 HP2 HF2 hcn hb4 hc4 hg4 hx4 hG4 hfl4 lc ln hx1 hx2 hp1 hp2 hE2 hE0
   go_wp2
   go_loopw [10] (fun i wr => ∃ (k : Nat) (s : GS) (mv : Value), i = .int .i64 k ∧ k ≤ ms.length ∧ GB g b m c n mv s s.ps wr ∧ Ext w wr ∧ (∀ j, footG g b m mv j → w.heap.size ≤ j) ∧ positionB s.at_ = true ∧ s.ps.length ≤ 1 + k ∧ s.ms.length ≤ k) (fun i _ => ms.length - (intOf i).toNat)
   case atStart => exact ⟨0, fromS p, _, rfl, by omega, HG4.out, hE4, HFL4.out, HOK.out, by simp [fromS, comeS, zeroS], by simp [fromS, comeS, zeroS]⟩
   case round =>
    obtain ⟨k, s, mv, rfl, hk, hGB, hEr, hfl, hok, hps, hms⟩ := hrel
    clear hE4 HG4 HFL4
    by_cases hlt : k < ms.length
    ·obtain ⟨x, hx⟩ : ∃ x, ms[k]? = some x := ⟨_, List.getElem?_eq_getElem hlt⟩
     obtain ⟨gd, od, rfl, hgd, hcd⟩ := (HSS.out.2 (by omega)).pos (by omega)
     have c0 := hcd (k * 3) _ (mvsC_at hx 0 (by omega))
     have c1 := hcd (k * 3 + 1) _ (mvsC_at hx 1 (by omega))
     have c2 := hcd (k * 3 + 2) _ (mvsC_at hx 2 (by omega))
     simp only [mvE, List.getElem!_cons_zero, List.getElem!_cons_succ] at c0 c1 c2
     rw [← Nat.add_assoc] at c1 c2
     rw [← hEr.cell _ _ hgd] at c0 c1 c2
     have hgr : gd < wr.heap.size := Nat.lt_of_lt_of_le hgd hEr.le
     have hxA : Ext wr (wr.alloc (.cells #[.int .i64 x.fr, .int .i64 x.to_, .int .i64 x.be] 51)) := Ext.alloc (Ext.refl _) _
     have hEA := hEr.trans hxA
     have hGA := hGB.ext hxA
     have hP := PlayG_any g b m w.heap.size mv s [x] (.slice (some ⟨wr.heap.size, 0, none⟩) 1 1) _ hGA.p hok (Sl.mv (ms := [x]) (Sl.of_blk (blk_alloc_at wr (.cells (mvC x) 51) _ rfl) 3 1 rfl 1)) (fun _ => foot_not (Nat.le_refl _) (fun k h => hGB.p.foot_lt k h)) hfl (HT.out.on hEA) (by simp; omega)
     have HGA := hid hGA
     have HFL := hid hfl
     have HEA := hid hEA
     clear hx hcd hGB hEr hfl hok hGA hEA hxA
     rcases playG_end (s := s) (x := x) with ⟨e0, eps, e2, -⟩ | ⟨e0, es⟩
     ·have hms6 : (playG s [x]).1.ms.length = s.ms.length + 1 := by rw [e2]; simp [stepS, comeS]
      have hps6 : (playG s [x]).1.ps.length = s.ps.length + 1 := by rw [eps]; simp
      clear e2
      rw [e0] at hP
      generalize (playG s [x]).1 = s6 at *
      generalize (playG s [x]).2 = z at *
      subst e0
      go_upto_region 13 with (go_at_call 42; (with_reducible refine hP.mono ?_); rintro e w6 ⟨rfl, mv6, hP6, hf6, hg6, hok6⟩)
      have hG6 := HGA.out.move hP6 hf6 hg6
      have hE6 := hf6.toExt HEA.out HFL.out
      have hfl6 : ∀ j, footG g b m mv6 j → w.heap.size ≤ j := fun j hj => (hg6 j hj).elim (HFL.out j) (Nat.le_trans HEA.out.le)
      have hN := Now_any hP6
      have HG6 := hid hG6
      have HFL6 := hid hfl6
      have hPu := fun W (hx : Ext w6 W) => (hG6.ext hx).put (rng_pos hok6) (HT.out.up (hE6.trans hx)) (by omega)
      clear hP hP6 hf6 hg6 hG6 hfl6
      go_wp2_with (first
       | (go_at_call 48; (with_reducible refine hN.mono ?_); rintro e w7 ⟨rfl, hx7⟩)
       | (go_at_call 19; (with_reducible refine (hPu _ hx7).mono ?_); rintro e w8 ⟨rfl, hG8, hf8⟩))
      go_roundw
      case rel => exact ⟨k + 1, s6, mv6, by go_num, by omega, by rw [eps]; exact hG8, hf8.toExt (hE6.trans hx7) (fun _ e => e ▸ hnB), HFL6.out, hok6, by omega, by omega⟩
      case measure => simp [intOf]; omega
     ·rw [es] at hP
      generalize (playG s [x]).2 = z at *
      have hz : (z == 0) = false := by simp [e0]
      go_wp2_with (go_at_call 42; (with_reducible refine hP.mono ?_); rintro e w6 ⟨rfl, mv6, hP6, hf6, hg6, hok6⟩)
      have hG6 := HGA.out.move hP6 hf6 hg6
      have hE6 := hf6.toExt HEA.out HFL.out
      have hfl6 : ∀ j, footG g b m mv6 j → w.heap.size ≤ j := fun j hj => (hg6 j hj).elim (HFL.out j) (Nat.le_trans HEA.out.le)
      go_roundw
      case rel => exact ⟨k + 1, s, mv6, by go_num, by omega, hG6, hE6, hfl6, hok6, by omega, by omega⟩
      case measure => simp [intOf]; omega
    ·have hp := hGB.p
     have hRs := fun W (hx : Ext wr W) => Result_any (hp.ext hx)
     have hM6 := fun W (hx : Ext wr W) => MayG_any 6 (hp.ext hx) (rng_pos hok) (HT.out.up (hEr.trans hx))
     have hM7 := fun W (hx : Ext wr W) => MayG_any 7 (hp.ext hx) (rng_pos hok) (HT.out.up (hEr.trans hx))
     have hMy := fun W (hx : Ext wr W) => MayG_any y (hp.ext hx) (rng_pos hok) (HT.out.up (hEr.trans hx))
     have hNw := fun W (hx : Ext wr W) => Now_any (hp.ext hx)
     have hMn := fun W (hx : Ext wr W) => (hGB.ext hx).many (rng_pos hok) (HT.out.up (hEr.trans hx))
     have hFy := fun W => Fifty_any s.at_ W
     have hCp := fun W (hx : Ext wr W) => CopyG_any (hp.ext hx) (by omega)
     have hCl := fun c b2 m2 mv2 W (hx : Ext wr W) (hc : PG c b2 m2 mv2 s W) => ClaimG_any y hc (rng_pos hok) (HT.out.up (hEr.trans hx))
     have hSt := fun W (hx : Ext wr W) => StopG_any y (hp.ext hx)
     have hWi : ∀ W, Calls Tryz.prog 59 #[.int .i64 (otherOf s.at_.turn)] W (Ret (.int .i64 (winsOf (otherOf s.at_.turn))) W) := fun W => Wins_any (otherOf s.at_.turn) W
     have hlt1 := less_turn hok
     have HLR := hid hfl
     have HER := hid hEr
     clear hGB hfl hEr hok hp hps hms HSS HOK hbig
     have hC : (mayS s y = true ∧ claimE s y = 0 ∧ (claimS s y).res = 3 ∧ (claimS s y).why = y) ∨ (mayS s y = false ∧ (claimE s y == 0) = false ∧ (claimS s y).res = s.res ∧ (claimS s y).why = s.why) := by
      cases hm : mayS s y
      ·obtain ⟨a1, a2⟩ := claim_no hm
       exact .inr ⟨rfl, by simp [a1], by rw [a2], by rw [a2]⟩
      ·exact .inl ⟨rfl, claim_yes hm⟩
     have HC := hid hC
     clear hC
     by_cases h0 : s.res = 0
     ·have m6 := may_six h0
      have m7 := may_seven h0
      have hm6 : mayS s 6 = decide ((3 : Int) ≤ ((manyB s.ps s.at_ : Nat) : Int)) := by rw [m6]; exact decide_eq_decide.2 (by omega)
      clear m6
      have hD : (mayS s y = true ∧ claimE s y = 0 ∧ (claimS s y).res = 3 ∧ (claimS s y).why = y ∧ (y = 6 ∨ y = 7)) ∨ (mayS s y = false ∧ (claimE s y == 0) = false ∧ (claimS s y).res = s.res ∧ (claimS s y).why = s.why) := by
       rcases HC.out with ⟨a1, a2, a3, a4⟩ | h
       ·refine .inl ⟨a1, a2, a3, a4, ?_⟩
        by_cases y6 : y = 6
        ·exact .inl y6
        ·by_cases y7 : y = 7
         ·exact .inr y7
         ·rw [may_else y6 y7] at a1; cases a1
       ·exact .inr h
      have hy : (stopE s y = 0 ∧ (y = 8 ∨ y = 9 ∨ y = 10)) ∨ (stopE s y = 2 ∧ y ≠ 8 ∧ y ≠ 9 ∧ y ≠ 10) := by
       by_cases hy : y = 8 ∨ y = 9 ∨ y = 10
       ·exact .inl ⟨(stop_yes h0 hy).1, hy⟩
       ·exact .inr ⟨(stop_else hy).1, by omega⟩
      have s5 : (stopS s y).at_ = s.at_ := by unfold stopS; split <;> rfl
      have hS9 : (stopS s y).res = (if stopE s y = 0 then (if y = 8 then 3 else winsOf (otherOf s.at_.turn)) else s.res) ∧ (stopS s y).why = (if stopE s y = 0 then y else s.why) := by unfold stopS; split <;> exact ⟨rfl, rfl⟩
      obtain ⟨s3, s4⟩ := hS9
      have zb : ∀ z : Int, y ≠ z → (y == z) = false := fun z h => by simp [h]
      have ZB := hid zb
      clear zb
      rcases hD with ⟨d1, d2, d3, d4, rfl | rfl⟩ | ⟨d1, d2, d3, d4⟩
      obtain ⟨s1, y8, y9, y10⟩ := hy.resolve_left (by omega)
      rw [if_neg (by omega)] at s3 s4
      have h3 : (3 : Int) ≤ ((manyB s.ps s.at_ : Nat) : Int) := by rw [d1] at hm6; exact of_decide_eq_true hm6.symm
      clear hm6 y8 y9 y10
      rotate_left
      obtain ⟨s1, y8, y9, y10⟩ := hy.resolve_left (by omega)
      rw [if_neg (by omega)] at s3 s4
      have h3 : beyondB s.at_ [100] = true := by rw [← m7]; exact d1
      clear m7 y8 y9 y10
      rotate_left
      rcases hy with ⟨s1, rfl | rfl | rfl⟩ | ⟨s1, y8, y9, y10⟩
      rotate_left 3
      rw [if_neg (by omega)] at s3 s4
      have z8 := ZB.out 8 y8
      have z9 := ZB.out 9 y9
      have z10 := ZB.out 10 y10
      rotate_left 3
      rw [if_pos s1] at s3 s4
      rotate_left
      rw [if_pos s1] at s3 s4
      rotate_left
      rw [if_pos s1] at s3 s4
      all_goals
       go_wp2_with (first
        | (go_at_call 47; first | (with_reducible refine hRc.mono ?_); rintro e w7 ⟨rfl, hx7⟩ | (with_reducible refine hRt.mono ?_); rintro e w9 ⟨rfl, hx9⟩ | (with_reducible refine (hRs _ Ext.auto).mono ?_); rintro e w1 ⟨rfl, hx1⟩)
        | (go_at_call 57; first | (with_reducible refine (hM6 _ Ext.auto).mono ?_); rintro e w2 ⟨rfl, hx2⟩ | (with_reducible refine (hM7 _ Ext.auto).mono ?_); rintro e w3 ⟨rfl, hx3⟩ | (with_reducible refine (hMy _ Ext.auto).mono ?_); rintro e w4 ⟨rfl, hx4⟩)
        | (go_at_call 48; first | (with_reducible refine (hNt _ Ext.auto).mono ?_); rintro e w12 ⟨rfl, hx12⟩ | (with_reducible refine (hNw _ Ext.auto).mono ?_); rintro e w11 ⟨rfl, hx11⟩)
        | (go_at_call 23; (with_reducible refine (hMn _ Ext.auto).mono ?_); rintro e w13 ⟨rfl, hx13⟩)
        | (go_at_call 58; (with_reducible refine (hFy _).mono ?_); rintro e w14 ⟨rfl, hx14⟩)
        | (go_at_call 59; (with_reducible refine (hWi _).mono ?_); rintro e w15 ⟨rfl, hx15⟩)
        | (go_at_call 52; (with_reducible refine (hCp _ Ext.auto).mono ?_); rintro e w5 ⟨c2, b2, m2, mv2, rfl, hC5, hfc5, hx5⟩; (have hcl : wr.heap.size ≤ c2 := Nat.le_trans (Ext.le Ext.auto) (hfc5 c2 (.inl rfl))); clear hfc5)
        | (go_at_call 50; (with_reducible refine (hCl c2 b2 m2 mv2 _ Ext.auto (hC5.ext Ext.auto)).mono ?_); rintro e w6 ⟨rfl, hC6, hf6⟩; (have hx6 : Ext wr w6 := hf6.toExt Ext.auto (fun k e => e ▸ hcl)); (have hRc := Result_any hC6); clear hC5 hC6 hf6 hCl)
        | (go_at_call 51; (with_reducible refine (hSt _ Ext.auto).mono ?_); rintro e w8 ⟨rfl, hP8, hf8⟩; (have hx8 : Ext w w8 := hf8.toExt (HER.out.trans Ext.auto) (fun k e => e ▸ HLR.out g (.inl rfl))); (have hRt := Result_any hP8); (have hNt := fun W (hx : Ext w8 W) => Now_any (hP8.ext hx)); simp only [s5] at hNt; clear hP8 hf8 hSt))
       all_goals first | (go_ret; exact Ret.mk' rfl Ext.auto; done) | (trace_state; sorry)
     ·have hr0 : (s.res == 0) = false := by simp [h0]
      have hm6 := may_shut h0 6
      have hm7 := may_shut h0 7
      have hmy := may_shut h0 y
      obtain ⟨q1, q2, q3, q4⟩ : mayS s y = false ∧ (claimE s y == 0) = false ∧ (claimS s y).res = s.res ∧ (claimS s y).why = s.why := HC.out.resolve_left fun h => by rw [hmy] at h; cases h.1
      clear q1 hMn hFy hWi
      have hy : (stopE s y = 9 ∧ (y = 8 ∨ y = 9 ∨ y = 10)) ∨ (stopE s y = 2 ∧ y ≠ 8 ∧ y ≠ 9 ∧ y ≠ 10) := by
       by_cases hy : y = 8 ∨ y = 9 ∨ y = 10
       ·exact .inl ⟨(stop_shut h0 hy).1, hy⟩
       ·exact .inr ⟨(stop_else hy).1, by omega⟩
      obtain ⟨s3, s4⟩ : (stopS s y).res = s.res ∧ (stopS s y).why = s.why := by
       by_cases hy : y = 8 ∨ y = 9 ∨ y = 10
       ·rw [(stop_shut h0 hy).2]; exact ⟨rfl, rfl⟩
       ·rw [(stop_else hy).2]; exact ⟨rfl, rfl⟩
      rcases hy with ⟨s1, rfl | rfl | rfl⟩ | ⟨s1, y8, y9, y10⟩
      all_goals
       go_wp2_with (first
        | (go_at_call 47; first | (with_reducible refine hRc.mono ?_); rintro e w7 ⟨rfl, hx7⟩ | (with_reducible refine hRt.mono ?_); rintro e w9 ⟨rfl, hx9⟩ | (with_reducible refine (hRs _ Ext.auto).mono ?_); rintro e w1 ⟨rfl, hx1⟩)
        | (go_at_call 57; first | (with_reducible refine (hM6 _ Ext.auto).mono ?_); rintro e w2 ⟨rfl, hx2⟩ | (with_reducible refine (hM7 _ Ext.auto).mono ?_); rintro e w3 ⟨rfl, hx3⟩ | (with_reducible refine (hMy _ Ext.auto).mono ?_); rintro e w4 ⟨rfl, hx4⟩)
        | (go_at_call 52; (with_reducible refine (hCp _ Ext.auto).mono ?_); rintro e w5 ⟨c2, b2, m2, mv2, rfl, hC5, hfc5, hx5⟩; (have hcl : wr.heap.size ≤ c2 := Nat.le_trans (Ext.le Ext.auto) (hfc5 c2 (.inl rfl))); clear hfc5)
        | (go_at_call 50; (with_reducible refine (hCl c2 b2 m2 mv2 _ Ext.auto (hC5.ext Ext.auto)).mono ?_); rintro e w6 ⟨rfl, hC6, hf6⟩; (have hx6 : Ext wr w6 := hf6.toExt Ext.auto (fun k e => e ▸ hcl)); (have hRc := Result_any hC6); clear hC5 hC6 hf6 hCl)
        | (go_at_call 51; (with_reducible refine (hSt _ Ext.auto).mono ?_); rintro e w8 ⟨rfl, hP8, hf8⟩; (have hx8 : Ext w w8 := hf8.toExt (HER.out.trans Ext.auto) (fun k e => e ▸ HLR.out g (.inl rfl))); (have hRt := Result_any hP8); clear hP8 hf8 hSt))
       go_ret; exact Ret.mk' rfl Ext.auto
end Go.Proofs.YtdmgimfgoajmjaaGreatDoor
