/- Positions that may be. -/
import Derived.Test.YtdmgimfgoajmjaaGreatDoorC11
import Derived.Test.YtdmgimfgoajmjaaGreatDoorC08
import Derived.Test.YtdmgimfgoajmjaaGreatDoorC06
import Derived.Test.YtdmgimfgoajmjaaGreatDoorC04
set_option linter.unusedVariables false
set_option linter.unusedSimpArgs false
set_option maxRecDepth 100000
set_option maxHeartbeats 2000000
namespace Go.Proofs.YtdmgimfgoajmjaaGreatDoor
open Go.RowKit
def positionB (p : Pos) : Bool := rightB p && !checkB p (otherOf p.turn)
theorem Position_any (p : Pos) (w : World) : Calls Tryz.prog 28 #[.agg (posCells p)] w (Ret (.bool (positionB p)) w) := by
 cases hR : rightB p
 ·have HE := hid (show positionB p = false by unfold positionB; rw [hR]; rfl)
  go_enter Tryz.func28, Tryz.ntmps28
  go_wp2
  refine wp_quiet (by kernel_rfl) (by kernel_rfl) ?_; (repeat (first | go_big_quiet_step (first | (go_at_call 66; with_reducible exact Calls.reg (Right_any _ _)) | (go_at_call 68; with_reducible exact Calls.reg (Other_any _ _)) | (go_at_call 67; with_reducible exact Calls.reg (Check_any _ _ _))) | quiet_step (first | (go_at_call 66; with_reducible exact Calls.reg (Right_any _ _)) | (go_at_call 68; with_reducible exact Calls.reg (Other_any _ _)) | (go_at_call 67; with_reducible exact Calls.reg (Check_any _ _ _))))); refine wpQuiet_nil ?_; intro w1 hx; obtain ⟨hxc, hxf, hxb, hxs⟩ := hx.als; (try have := sW w w1)
  go_wp2
  go_ret
  exact Ret.mk' (by rw [HE.out]; rfl) (Ext.auto)
 ·have HE := hid (show positionB p = !checkB p (otherOf p.turn) by unfold positionB; rw [hR]; rfl)
  go_enter Tryz.func28, Tryz.ntmps28
  go_wp2
  refine wp_quiet (by kernel_rfl) (by kernel_rfl) ?_; (repeat (first | go_big_quiet_step (first | (go_at_call 66; with_reducible exact Calls.reg (Right_any _ _)) | (go_at_call 68; with_reducible exact Calls.reg (Other_any _ _)) | (go_at_call 67; with_reducible exact Calls.reg (Check_any _ _ _))) | quiet_step (first | (go_at_call 66; with_reducible exact Calls.reg (Right_any _ _)) | (go_at_call 68; with_reducible exact Calls.reg (Other_any _ _)) | (go_at_call 67; with_reducible exact Calls.reg (Check_any _ _ _))))); refine wpQuiet_nil ?_; intro w1 hx; obtain ⟨hxc, hxf, hxb, hxs⟩ := hx.als; (try have := sW w w1)
  go_wp2
  go_ret
  exact Ret.mk' (by rw [HE.out]; rfl) (Ext.auto)
theorem rMay_any (k s : Int) (w : World) : Calls Tryz.prog 165 #[.agg #[.int .i64 k, .int .i64 s]] w (Ret (.bool (mayB k s)) w) := by
 go_enter Tryz.func165, Tryz.ntmps165
 go_wp2
 all_goals (go_ret; exact Ret.mk' (vbool (by rw [Bool.eq_iff_iff]; simp [mayB]; omega)) (Ext.auto))
theorem rOther_any (s : Int) (w : World) : Calls Tryz.prog 112 #[.int .i64 s] w (Ret (.int .i64 (otherOf s)) w) := by
 by_cases h : s = 0
 ·have H := hid (show otherOf s = 1 by simp [otherOf, h])
  have h2 : (s == 0) = true := by simp [h]
  clear h
  go_enter Tryz.func112, Tryz.ntmps112
  go_wp2
  go_ret; exact Ret.mk' (vint H.out.symm) (Ext.auto)
 ·have H := hid (show otherOf s = 0 by simp [otherOf, h])
  have h2 : (s == 0) = false := by simp [h]
  clear h
  go_enter Tryz.func112, Tryz.ntmps112
  go_wp2
  go_ret; exact Ret.mk' (vint H.out.symm) (Ext.auto)
theorem rNone_any (k s : Int) (w : World) : Calls Tryz.prog 182 #[.agg #[.int .i64 k, .int .i64 s]] w (Ret (.bool (k == 0 && s == 0)) w) := by
 go_enter Tryz.func182, Tryz.ntmps182
 go_wp2
 go_ret; exact Ret.mk' rfl (Ext.auto)
theorem rHome_any (p : Pos) (s a b : Int) (w : World) (ha : 0 ≤ a) (ha' : a < 64) (hb : 0 ≤ b) (hb' : b < 64) :
 Calls Tryz.prog 183 #[.agg (posCells p), .int .i64 s, .int .i64 a, .int .i64 b] w (Ret (.bool (standsB p 6 s a && standsB p 4 s b)) w) := by
 have a2 : a.toNat < 64 := by omega
 have b2 : b.toNat < 64 := by omega
 cases h1 : standsB p 6 s a
 ·have h2 : (p.kind a.toNat == 6 && p.side a.toNat == s) = false := h1
  go_enter Tryz.func183, Tryz.ntmps183
  go_wp2
  go_ret; exact Ret.mk' rfl (Ext.auto)
 ·have h2 : (p.kind a.toNat == 6 && p.side a.toNat == s) = true := h1
  have HS := hid (show standsB p 4 s b = (p.kind b.toNat == 4 && p.side b.toNat == s) from rfl)
  go_enter Tryz.func183, Tryz.ntmps183
  go_wp2
  go_ret; exact Ret.mk' (by rw [HS.out]; rfl) (Ext.auto)
def signOf (n : Int) : Int := if n < 0 then -1 else if 0 < n then 1 else 0
theorem rSign_any (n : Int) (w : World) : Calls Tryz.prog 238 #[.int .i64 n] w (Ret (.int .i64 (signOf n)) w) := by
 by_cases h : n < 0
 ·have H := hid (show signOf n = -1 by simp [signOf, h])
  go_enter Tryz.func238, Tryz.ntmps238
  go_wp2
  go_ret; exact Ret.mk' (vint H.out.symm) (Ext.auto)
 ·by_cases h2 : 0 < n
  ·have H := hid (show signOf n = 1 by simp [signOf, h, h2])
   go_enter Tryz.func238, Tryz.ntmps238
   go_wp2
   go_ret; exact Ret.mk' (vint H.out.symm) (Ext.auto)
  ·have H := hid (show signOf n = 0 by simp [signOf, h, h2])
   go_enter Tryz.func238, Tryz.ntmps238
   go_wp2
   go_ret; exact Ret.mk' (vint H.out.symm) (Ext.auto)
def absOf (n : Int) : Int := if n < 0 then -n else n
theorem rAbs_any (n : Int) (w : World) (h0 : -1000 ≤ n) (h1 : n ≤ 1000) : Calls Tryz.prog 216 #[.int .i64 n] w (Ret (.int .i64 (absOf n)) w) := by
 by_cases h : n < 0
 ·have H := hid (show absOf n = -n by simp [absOf, h])
  go_enter Tryz.func216, Tryz.ntmps216
  go_wp2
  go_ret; exact Ret.mk' (vint (by rw [H.out])) (Ext.auto)
 ·have H := hid (show absOf n = n by simp [absOf, h])
  go_enter Tryz.func216, Tryz.ntmps216
  go_wp2
  go_ret; exact Ret.mk' (vint H.out.symm) (Ext.auto)
theorem rFind_any (p : Pos) (kd sd : Int) (w : World) : Calls Tryz.prog 162 #[.agg (posCells p), .agg #[.int .i64 kd, .int .i64 sd]] w (RetInts (findL p kd sd 64) w) := by
 go_enter Tryz.func162, Tryz.ntmps162
 go_wp2
 obtain ⟨W0, hW0⟩ : ∃ W0, W0 = (w.alloc (.cells (posCells p) 30)).alloc (.cells #[.int .i64 kd, .int .i64 sd] 26) := ⟨_, rfl⟩
 have hsz : W0.heap.size = w.heap.size + 2 := by rw [hW0]; simp
 have hbx : blk W0 (w.heap.size + 1) = some (.cells #[.int .i64 kd, .int .i64 sd] 26 (0, 0)) := by rw [hW0]; simp [go_sem]
 have hbp : blk W0 w.heap.size = some (.cells (posCells p) 30 (0, 0)) := by rw [hW0]; simp [go_sem]
 have hEx : Ext w W0 := by rw [hW0]; exact (Ext.auto)
 rw [← hW0]
 have HW := hid hW0
 have HSZ := hid hsz
 have hs1 : w.heap.size + 1 < W0.heap.size := by omega
 clear hW0 hsz
 go_loopw [5, 6] (fun v i wr => ∃ k : Nat, i = .int .i64 k ∧ FindAt p kd sd W0 k v wr) (fun _ i _ => 64 - (intOf i).toNat)
 case atStart => exact ⟨0, rfl, by omega, by exact World.ownsRow_nil _ _ _ _, Ext.refl _⟩
 case round =>
  obtain ⟨k, rfl, hk⟩ := hrel
  have hcx := blk_cell ((hk.x.blk _ hs1).trans hbx)
  have hs2 : w.heap.size + 1 < wr.heap.size := Nat.lt_of_lt_of_le hs1 hk.x.le
  have hbp1 := (hk.x.blk _ (blk_lt hbp)).trans hbp
  have hs3 : w.heap.size < wr.heap.size := blk_lt hbp1
  have hown := hk.own
  have hxw := hk.x
  have hle := hk.x.le
  have hlen := findL_len p kd sd k
  have HK := hid hk
  clear hk hbx
  by_cases hlt : k < 64
  ·have c0 := cell_of_row wr w.heap.size (k * 2) _ _ _ hbp1
   have c1 := cell_of_row wr w.heap.size (k * 2 + 1) _ _ _ hbp1
   have hsym : (p.kind k == kd && p.side k == sd) = (kd == p.kind k && sd == p.side k) := by rw [show (p.kind k == kd) = (kd == p.kind k) from BEq.comm, show (p.side k == sd) = (sd == p.side k) from BEq.comm]
   cases hE : (kd == p.kind k && sd == p.side k)
   ·have HE := hid hE
    rw [hE] at hsym
    go_wp2
    refine wp_quiet (by kernel_rfl) (by kernel_rfl) ?_; (repeat (first | go_big_quiet_step (fail) | quiet_step (fail))); refine wpQuiet_nil ?_; intro w1 hx; obtain ⟨hxc, hxf, hxb, hxs⟩ := hx.als; (try have := sW W0 w1); (try have := sW wr w1)
    go_wp2
    go_roundw
    case rel => exact ⟨k + 1, by go_num, HK.out.no hlt HE.out (Ext.auto)⟩
    case measure => simp [intOf]; omega
   ·have HE := hid hE
    rw [hE] at hsym
    go_wp2
    refine wp_quiet (by kernel_rfl) (by kernel_rfl) ?_; (repeat (first | go_big_quiet_step (fail) | quiet_step (fail))); refine wpQuiet_nil ?_; intro w1 hx; obtain ⟨hxc, hxf, hxb, hxs⟩ := hx.als; (try have := sW W0 w1); (try have := sW wr w1)
    go_wp2_with (at_builtin; refine wpList_append_int rfl _ _ rfl (W0.heap.size) u5 ((findL p kd sd k).length) (ints (findL p kd sd k)) rfl ?c0 _ (.int .i64 (k : Int)) rfl rfl ?c1 ?c2 ?c3 (fun v' w1 hown1 hg1 => ?_))
    case c0 => exact own_auto
    case c1 => simp [go_sem]
    case c2 => omega
    case c3 => simp; omega
    go_roundw
    case rel => exact ⟨k + 1, by go_num, HK.out.yes hlt HE.out (Ext.auto) hown1 hg1⟩
    case measure => simp [intOf]; omega
  ·obtain rfl : k = 64 := by have := HK.out.le; omega
   go_wp2
   go_ret
   exact RetInts.mk' hown rfl rfl (by omega) (hEx.trans hxw)
theorem rApart_any (a b : Int) (w : World) (ha : 0 ≤ a) (ha' : a < 64) (hb : 0 ≤ b) (hb' : b < 64) :
 Calls Tryz.prog 215 #[.int .i64 a, .int .i64 b] w (Ret (.tuple #[.int .i64 (b % 8 - a % 8), .int .i64 (b / 8 - a / 8)]) w) := by
 have h1 : a.tmod 8 = a % 8 := by rw [Int.tmod_eq_emod_of_nonneg ha]
 have h2 : b.tmod 8 = b % 8 := by rw [Int.tmod_eq_emod_of_nonneg hb]
 have h3 : a.tdiv 8 = a / 8 := by rw [Int.tdiv_eq_ediv_of_nonneg ha]
 have h4 : b.tdiv 8 = b / 8 := by rw [Int.tdiv_eq_ediv_of_nonneg hb]
 go_enter Tryz.func215, Tryz.ntmps215
 go_wp2
 go_ret2
 exact Ret.mk' rfl (Ext.auto)
theorem Wins_any (s : Int) (w : World) : Calls Tryz.prog 59 #[.int .i64 s] w (Ret (.int .i64 (if s = 1 then 2 else 1)) w) := by
 by_cases h : s = 1
 ·subst h
  go_enter Tryz.func59, Tryz.ntmps59
  go_wp2
  go_ret; exact Ret.mk' rfl (Ext.auto)
 ·have h2 : (s == 1) = false := by simp [h]
  have H := hid h
  clear h
  go_enter Tryz.func59, Tryz.ntmps59
  go_wp2
  go_ret; exact Ret.mk' (by simp [H.out]) (Ext.auto)
theorem rCastles_any (p : Pos) (w : World) : Calls Tryz.prog 160 #[.agg (posCells p)] w (Ret (.bool (castlesB p)) w) := by
 by_cases h0 : p.castle < 0
 ·have H := hid (show false = castlesB p by simp [castlesB]; intro h; omega)
  go_enter Tryz.func160, Tryz.ntmps160
  go_wp2
  go_ret; exact Ret.mk' (vbool H.out) (Ext.auto)
 by_cases h1 : 15 < p.castle
 ·have H := hid (show false = castlesB p by simp [castlesB]; intro h; omega)
  go_enter Tryz.func160, Tryz.ntmps160
  go_wp2
  go_ret; exact Ret.mk' (vbool H.out) (Ext.auto)
 have h0' : 0 ≤ p.castle := by omega
 have h1' : p.castle ≤ 15 := by omega
 have q0 : p.castle.tmod 2 = p.castle % 2 := Int.tmod_eq_emod_of_nonneg h0'
 have q1 : p.castle.tdiv 2 = p.castle / 2 := Int.tdiv_eq_ediv_of_nonneg h0'
 have q2 : p.castle.tdiv 4 = p.castle / 4 := Int.tdiv_eq_ediv_of_nonneg h0'
 have q3 : p.castle.tdiv 8 = p.castle / 8 := Int.tdiv_eq_ediv_of_nonneg h0'
 have q4 : (p.castle / 2).tmod 2 = p.castle / 2 % 2 := Int.tmod_eq_emod_of_nonneg (by omega)
 have q5 : (p.castle / 4).tmod 2 = p.castle / 4 % 2 := Int.tmod_eq_emod_of_nonneg (by omega)
 have HE := hid (show castlesB p = (((p.castle % 2 == 0) || (standsB p 6 0 4 && standsB p 4 0 7)) && ((p.castle / 2 % 2 == 0) || (standsB p 6 0 4 && standsB p 4 0 0)) && ((p.castle / 4 % 2 == 0) || (standsB p 6 1 60 && standsB p 4 1 63)) && ((p.castle / 8 == 0) || (standsB p 6 1 60 && standsB p 4 1 56))) by
  have e8 : (p.castle / 8 % 2 == 0) = (p.castle / 8 == 0) := by rw [Bool.eq_iff_iff]; simp; omega
  simp only [castlesB, castAt_0, castAt_1, castAt_2, castAt_3, e8, h0', h1', and_self, decide_true, Bool.true_and, Int.ediv_one, Bool.and_comm, Bool.and_assoc])
 clear h0 h1
 go_enter Tryz.func160, Tryz.ntmps160
 go_wp2_with (go_at_call 183; with_reducible refine arm (rHome_any _ _ _ _ _ (by omega) (by omega) (by omega) (by omega)) fun w1 hx hxc hxf hxb hxs => ?_; (try have := sW w w1))
 all_goals (go_ret; refine Ret.mk' (vbool ?_) (Ext.auto); rw [HE.out]; go_light; simp_all)
structure RPiecesAt (p : Pos) (w : World) (k : Nat) (wr : World) : Prop where
 le : k ≤ 64
 ok : ∀ i, i < k → okSq p i = true
 c : blk wr w.heap.size = some (.cells (posCells p) 30 (0, 0))
 n : blk wr (w.heap.size + 1) = some (.cells #[.int .i64 (kings p 0 k), .int .i64 (kings p 1 k)] 55 (0, 0))
 x : Ext w wr
theorem RPiecesAt.next {p : Pos} {w wr wr' : World} {k : Nat} (h : RPiecesAt p w k wr) (hlt : k < 64) (hok : okSq p k = true) (hk : ¬ p.kind k = 6) (hx : Ext wr wr') : RPiecesAt p w (k + 1) wr' := by
 refine ⟨by omega, ?_, ?_, ?_, h.x.trans hx⟩
 ·intro i hi
  by_cases e : i = k
  ·exact e ▸ hok
  ·exact h.ok i (by omega)
 ·rw [hx.blk _ (blk_lt h.c)]; exact h.c
 ·rw [hx.blk _ (blk_lt h.n), h.n]; simp [kings, hk]
theorem RPiecesAt.king0 {p : Pos} {w wr wr' : World} {k : Nat} (h : RPiecesAt p w k wr) (hlt : k < 64) (hok : okSq p k = true) (hk : p.kind k = 6) (hs : p.side k = 0) (hx : Ext wr wr') :
 RPiecesAt p w (k + 1) (wr'.setCell ⟨w.heap.size + 1, 0, none⟩ (.int .i64 (kings p 0 k + 1))) := by
 have hn : blk wr' (w.heap.size + 1) = _ := (hx.blk _ (blk_lt h.n)).trans h.n
 refine ⟨by omega, ?_, ?_, ?_, (h.x.trans hx).set (by simp) _⟩
 ·intro i hi
  by_cases e : i = k
  ·exact e ▸ hok
  ·exact h.ok i (by omega)
 ·rw [blk_setCell_past _ _ _ _ (by simp), hx.blk _ (blk_lt h.c)]; exact h.c
 ·rw [blk_setCell_same _ _ _ _ _ _ hn]; simp [kings, hk, hs]
theorem RPiecesAt.king1 {p : Pos} {w wr wr' : World} {k : Nat} (h : RPiecesAt p w k wr) (hlt : k < 64) (hok : okSq p k = true) (hk : p.kind k = 6) (hs : p.side k = 1) (hx : Ext wr wr') :
 RPiecesAt p w (k + 1) (wr'.setCell ⟨w.heap.size + 1, 1, none⟩ (.int .i64 (kings p 1 k + 1))) := by
 have hn : blk wr' (w.heap.size + 1) = _ := (hx.blk _ (blk_lt h.n)).trans h.n
 refine ⟨by omega, ?_, ?_, ?_, (h.x.trans hx).set (by simp) _⟩
 ·intro i hi
  by_cases e : i = k
  ·exact e ▸ hok
  ·exact h.ok i (by omega)
 ·rw [blk_setCell_past _ _ _ _ (by simp), hx.blk _ (blk_lt h.c)]; exact h.c
 ·rw [blk_setCell_same _ _ _ _ _ _ hn]; simp [kings, hk, hs]
theorem rPieces_any (p : Pos) (w : World) : Calls Tryz.prog 159 #[.agg (posCells p)] w (Ret (.bool (piecesB p)) w) := by
 go_enter Tryz.func159, Tryz.ntmps159
 go_wp2
 go_loopw [4] (fun i wr => ∃ k : Nat, i = .int .i64 k ∧ RPiecesAt p w k wr) (fun i _ => 64 - (intOf i).toNat)
 case atStart => exact ⟨0, rfl, by omega, by omega, by simp [go_sem], by simp [go_sem, kings], (Ext.auto)⟩
 case round =>
  obtain ⟨k, rfl, hk⟩ := hrel
  have hsz : w.heap.size + 1 < wr.heap.size := blk_lt hk.n
  have hsz0 : w.heap.size < wr.heap.size := by omega
  have hbc := hk.c
  have hxw := hk.x
  have hbn := hk.n
  have hcn := blk_cell hk.n
  obtain ⟨kb0, kb1⟩ := kings_bd p 0 k
  obtain ⟨kb2, kb3⟩ := kings_bd p 1 k
  have hfn := blk_froz hk.n
  by_cases hlt : k < 64
  ·have c0 := cell_of_row wr w.heap.size (k * 2) _ _ _ hbc
   have c1 := cell_of_row wr w.heap.size (k * 2 + 1) _ _ _ hbc
   by_cases hz : p.kind k = 0 ∧ p.side k = 0
   ·obtain ⟨hz1, hz2⟩ := hz
    have HZ := hid (And.intro hz1 hz2)
    have hzz : (p.kind k == 0 && p.side k == 0) = true := by simp [hz1, hz2]
    go_wp2_with (first | (go_at_call 182; with_reducible refine arm (rNone_any _ _ _) fun w1 hx hxc hxf hxb hxs => ?_; (try have := sW wr w1); (try have := sW w w1)) | (go_at_call 165; with_reducible refine arm (rMay_any _ _ _) fun w1 hx hxc hxf hxb hxs => ?_; (try have := sW wr w1); (try have := sW w w1)))
    go_roundw
    case rel => exact ⟨k + 1, by go_num, hk.next hlt (by simp [okSq, HZ.out.1, HZ.out.2]) (by rw [HZ.out.1]; decide) (Ext.auto)⟩
    case measure => simp [intOf]; omega
   ·have hz' : (p.kind k == 0 && p.side k == 0) = false := by rw [Bool.eq_false_iff]; simpa using hz
    clear hz
    have HK := hid hk
    clear hk
    by_cases hm : mayB (p.kind k) (p.side k) = true
    ·by_cases h6 : p.kind k = 6
     ·have hp : (p.kind k == 1) = false := by simp [h6]
      have hk00 : (p.kind k == 0) = false := by simp [h6]
      have h6' : (p.kind k == 6) = true := by simp [h6]
      have HOK := hid (show okSq p k = true by simp [okSq, hm, hp])
      by_cases hs : p.side k = 0
      ·have H6 := hid h6
       clear h6
       have HS := hid hs
       rw [hs] at hm
       go_wp2_with (first | (go_at_call 182; with_reducible refine arm (rNone_any _ _ _) fun w1 hx hxc hxf hxb hxs => ?_; (try have := sW wr w1); (try have := sW w w1)) | (go_at_call 165; with_reducible refine arm (rMay_any _ _ _) fun w1 hx hxc hxf hxb hxs => ?_; (try have := sW wr w1); (try have := sW w w1)))
       all_goals
        go_roundw
        case rel => exact ⟨k + 1, by go_num, HK.out.king0 hlt HOK.out H6.out HS.out (Ext.auto)⟩
        case measure => simp [intOf]; omega
      ·have hs1 : p.side k = 1 := by simp [mayB] at hm; omega
       clear hs
       have H6 := hid h6
       clear h6
       have HS := hid hs1
       rw [hs1] at hm
       go_wp2_with (first | (go_at_call 182; with_reducible refine arm (rNone_any _ _ _) fun w1 hx hxc hxf hxb hxs => ?_; (try have := sW wr w1); (try have := sW w w1)) | (go_at_call 165; with_reducible refine arm (rMay_any _ _ _) fun w1 hx hxc hxf hxb hxs => ?_; (try have := sW wr w1); (try have := sW w w1)))
       all_goals
        go_roundw
        case rel => exact ⟨k + 1, by go_num, HK.out.king1 hlt HOK.out H6.out HS.out (Ext.auto)⟩
        case measure => simp [intOf]; omega
     ·have h6' : (p.kind k == 6) = false := by simp [h6]
      have H6 := hid h6
      clear h6
      go_wp2_with (first | (go_at_call 182; with_reducible refine arm (rNone_any _ _ _) fun w1 hx hxc hxf hxb hxs => ?_; (try have := sW wr w1); (try have := sW w w1)) | (go_at_call 165; with_reducible refine arm (rMay_any _ _ _) fun w1 hx hxc hxf hxb hxs => ?_; (try have := sW wr w1); (try have := sW w w1)))
      all_goals first
       | (go_ret; exact Ret.mk' (vbool (pieces_bad hlt (by
        go_light
        have e1 : (p.kind k == 1) = true := by simp; assumption
        have e2 : (decide (k < 8) || decide (56 ≤ k)) = true := by simp; omega
        simp only [okSq, hz', e1, e2]; simp))) (Ext.auto))
       | (go_roundw
          case rel =>
           refine ⟨k + 1, by go_num, HK.out.next hlt ?_ H6.out (Ext.auto)⟩
           have e2 : ((decide (k < 8) || decide (56 ≤ k)) && p.kind k == 1) = false := by
            go_light; clear hxc hxf hxb; rw [Bool.eq_false_iff]; simp at *; omega
           simp only [okSq, hz', hm, e2]; simp
          case measure => simp [intOf]; omega)
    ·have hm' : mayB (p.kind k) (p.side k) = false := by simpa using hm
     clear hm
     have HB := hid (pieces_bad hlt (show okSq p k = false by simp only [okSq, hz', hm']; rfl))
     go_wp2_with (first | (go_at_call 182; with_reducible refine arm (rNone_any _ _ _) fun w1 hx hxc hxf hxb hxs => ?_; (try have := sW wr w1); (try have := sW w w1)) | (go_at_call 165; with_reducible refine arm (rMay_any _ _ _) fun w1 hx hxc hxf hxb hxs => ?_; (try have := sW wr w1); (try have := sW w w1)))
     all_goals (go_ret; exact Ret.mk' (vbool HB.out) (Ext.auto))
  ·obtain rfl : k = 64 := by have := hk.le; omega
   have hall : (List.range 64).all (okSq p) = true := by
    rw [List.all_eq_true]
    intro i hi
    exact hk.ok i (List.mem_range.1 hi)
   have HE := hid (show piecesB p = ((kings p 0 64 == 1 && kings p 1 64 == 1) && (p.turn == 0 || p.turn == 1)) by simp only [piecesB, hall, Bool.true_and])
   clear hall
   have hcc := blk_cell hk.c
   clear hk hbn hbc
   generalize kings p 0 64 = x0 at *
   generalize kings p 1 64 = x1 at *
   go_wp2
   all_goals (go_ret; exact Ret.mk' (vbool (by go_light; rw [HE.out, Bool.eq_iff_iff]; simp at *; omega)) (Ext.auto))
end Go.Proofs.YtdmgimfgoajmjaaGreatDoor
