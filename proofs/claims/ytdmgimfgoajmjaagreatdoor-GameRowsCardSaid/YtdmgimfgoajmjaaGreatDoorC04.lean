/- How pieces stand: what the functions of package board answer, but for loops. -/
import Derived.Test.YtdmgimfgoajmjaaGreatDoorC02
import Derived.Test.YtdmgimfgoajmjaaGreatDoorC03
set_option linter.unusedVariables false
set_option linter.unusedSimpArgs false
set_option maxRecDepth 100000
set_option maxHeartbeats 2000000
namespace Go.Proofs.YtdmgimfgoajmjaaGreatDoor
open Go.RowKit
def mayB (k s : Int) : Bool := decide (1 ≤ k ∧ k ≤ 6 ∧ (s = 0 ∨ s = 1))
theorem may_any (k s : Int) (w : World) : Calls Tryz.prog 148 #[.agg #[.int .i64 k, .int .i64 s]] w (Ret (.bool (mayB k s)) w) := by
 go_enter Tryz.func148, Tryz.ntmps148
 go_wp2
 all_goals (go_ret; exact Ret.mk' (vbool (by rw [Bool.eq_iff_iff]; simp [mayB]; omega)) (Ext.auto))
def otherOf (s : Int) : Int := if s = 0 then 1 else 0
theorem Other_any (s : Int) (w : World) : Calls Tryz.prog 68 #[.int .i64 s] w (Ret (.int .i64 (otherOf s)) w) := by
 by_cases h : s = 0
 ·have H := hid (show otherOf s = 1 by simp [otherOf, h])
  have h2 : (s == 0) = true := by simp [h]
  clear h
  go_enter Tryz.func68, Tryz.ntmps68
  go_wp2
  go_ret; exact Ret.mk' (vint H.out.symm) (Ext.auto)
 ·have H := hid (show otherOf s = 0 by simp [otherOf, h])
  have h2 : (s == 0) = false := by simp [h]
  clear h
  go_enter Tryz.func68, Tryz.ntmps68
  go_wp2
  go_ret; exact Ret.mk' (vint H.out.symm) (Ext.auto)
def standsB (p : Pos) (k s at_ : Int) : Bool := p.kind at_.toNat == k && p.side at_.toNat == s
theorem stands_any (p : Pos) (k s at_ : Int) (w : World) (h0 : 0 ≤ at_) (h1 : at_ < 64) :
 Calls Tryz.prog 149 #[.agg (posCells p), .int .i64 k, .int .i64 s, .int .i64 at_] w (Ret (.bool (standsB p k s at_)) w) := by
 have h2 : at_.toNat < 64 := by omega
 go_enter Tryz.func149, Tryz.ntmps149
 go_wp2
 go_ret; exact Ret.mk' rfl (Ext.auto)
theorem free_any (p : Pos) (at_ : Int) (w : World) (h0 : 0 ≤ at_) (h1 : at_ < 64) (b : Nat) (t : Nat) (fr : Nat × Nat) (hb : blk w b = some (.cells (posCells p) t fr)) :
 Calls Tryz.prog 150 #[.int .i64 at_, .pointer (some ⟨b, 0, none⟩)] w (Ret (.bool (standsB p 0 0 at_)) w) := by
 have h2 : at_.toNat < 64 := by omega
 have c0 := cell_of_row w b (at_.toNat * 2) _ t fr hb
 have c1 := cell_of_row w b (at_.toNat * 2 + 1) _ t fr hb
 clear hb
 go_enter Tryz.func150, Tryz.ntmps150
 go_wp2
 go_ret; exact Ret.mk' rfl (Ext.auto)
def okSq (p : Pos) (i : Nat) : Bool := (p.kind i == 0 && p.side i == 0) || (mayB (p.kind i) (p.side i) && !((decide (i < 8) || decide (56 ≤ i)) && p.kind i == 1))
def kings (p : Pos) (s : Int) : Nat → Int
 | 0 => 0
 | n + 1 => kings p s n + if p.kind n = 6 ∧ p.side n = s then 1 else 0
theorem kings_bd (p : Pos) (s : Int) (n : Nat) : 0 ≤ kings p s n ∧ kings p s n ≤ n := by
 induction n with
 | zero => simp [kings]
 | succ n ih => simp only [kings]; split <;> omega
def piecesB (p : Pos) : Bool := (List.range 64).all (okSq p) && (kings p 0 64 == 1 && kings p 1 64 == 1) && (p.turn == 0 || p.turn == 1)
structure PiecesAt (p : Pos) (w : World) (k : Nat) (wr : World) : Prop where
 le : k ≤ 64
 ok : ∀ i, i < k → okSq p i = true
 c : blk wr w.heap.size = some (.cells (posCells p) 163 (0, 0))
 n : blk wr (w.heap.size + 1) = some (.cells #[.int .i64 (kings p 0 k), .int .i64 (kings p 1 k)] 55 (0, 0))
 x : Ext w wr
theorem PiecesAt.next {p : Pos} {w wr wr' : World} {k : Nat} (h : PiecesAt p w k wr) (hlt : k < 64) (hok : okSq p k = true) (hk : ¬ p.kind k = 6) (hx : Ext wr wr') : PiecesAt p w (k + 1) wr' := by
 refine ⟨by omega, ?_, ?_, ?_, h.x.trans hx⟩
 ·intro i hi
  by_cases e : i = k
  ·exact e ▸ hok
  ·exact h.ok i (by omega)
 ·rw [hx.blk _ (blk_lt h.c)]; exact h.c
 ·rw [hx.blk _ (blk_lt h.n), h.n]; simp [kings, hk]
theorem PiecesAt.king0 {p : Pos} {w wr wr' : World} {k : Nat} (h : PiecesAt p w k wr) (hlt : k < 64) (hok : okSq p k = true) (hk : p.kind k = 6) (hs : p.side k = 0) (hx : Ext wr wr') :
 PiecesAt p w (k + 1) (wr'.setCell ⟨w.heap.size + 1, 0, none⟩ (.int .i64 (kings p 0 k + 1))) := by
 have hn : blk wr' (w.heap.size + 1) = _ := (hx.blk _ (blk_lt h.n)).trans h.n
 refine ⟨by omega, ?_, ?_, ?_, (h.x.trans hx).set (by simp) _⟩
 ·intro i hi
  by_cases e : i = k
  ·exact e ▸ hok
  ·exact h.ok i (by omega)
 ·rw [blk_setCell_past _ _ _ _ (by simp), hx.blk _ (blk_lt h.c)]; exact h.c
 ·rw [blk_setCell_same _ _ _ _ _ _ hn]; simp [kings, hk, hs]
theorem PiecesAt.king1 {p : Pos} {w wr wr' : World} {k : Nat} (h : PiecesAt p w k wr) (hlt : k < 64) (hok : okSq p k = true) (hk : p.kind k = 6) (hs : p.side k = 1) (hx : Ext wr wr') :
 PiecesAt p w (k + 1) (wr'.setCell ⟨w.heap.size + 1, 1, none⟩ (.int .i64 (kings p 1 k + 1))) := by
 have hn : blk wr' (w.heap.size + 1) = _ := (hx.blk _ (blk_lt h.n)).trans h.n
 refine ⟨by omega, ?_, ?_, ?_, (h.x.trans hx).set (by simp) _⟩
 ·intro i hi
  by_cases e : i = k
  ·exact e ▸ hok
  ·exact h.ok i (by omega)
 ·rw [blk_setCell_past _ _ _ _ (by simp), hx.blk _ (blk_lt h.c)]; exact h.c
 ·rw [blk_setCell_same _ _ _ _ _ _ hn]; simp [kings, hk, hs]
theorem pieces_bad {p : Pos} {k : Nat} (hk : k < 64) (h : okSq p k = false) : false = piecesB p := by
 have : (List.range 64).all (okSq p) = false := by
  rw [List.all_eq_false]; exact ⟨k, List.mem_range.2 hk, by simp [h]⟩
 simp [piecesB, this]
theorem rank0 (k : Nat) (h : k < 64) : (rankOf ↑k == 0) = decide (k < 8) := by
 rw [Bool.eq_iff_iff]; simp [rankOf]; omega
theorem rank7 (k : Nat) (h : k < 64) : (rankOf ↑k == 7) = decide (56 ≤ k) := by
 rw [Bool.eq_iff_iff]; simp [rankOf]; omega
theorem pieces_any (p : Pos) (w : World) : Calls Tryz.prog 100 #[.agg (posCells p)] w (Ret (.bool (piecesB p)) w) := by
 go_enter Tryz.func100, Tryz.ntmps100
 go_wp2
 go_loopw [10] (fun i wr => ∃ k : Nat, i = .int .i64 k ∧ PiecesAt p w k wr) (fun i _ => 64 - (intOf i).toNat)
 case atStart => exact ⟨0, rfl, by omega, by omega, by simp [go_sem], by simp [go_sem, kings], (Ext.auto)⟩
 case round =>
  obtain ⟨k, rfl, hk⟩ := hrel
  have hsz : w.heap.size + 1 < wr.heap.size := blk_lt hk.n
  have hsz0 : w.heap.size < wr.heap.size := by omega
  have hbc := hk.c
  have hxw := hk.x
  have hbn := hk.n
  have hcn := blk_cell hk.n
  obtain ⟨kb0, kb1⟩ := kings_bd p 0 k
  obtain ⟨kb2, kb3⟩ := kings_bd p 1 k
  have hfn := blk_froz hk.n
  by_cases hlt : k < 64
  ·by_cases hz : p.kind k = 0 ∧ p.side k = 0
   ·go_wp2
    go_roundw
    case rel => exact ⟨k + 1, by go_num, hk.next hlt (by simp [okSq, hz]) (by simp [hz]) (Ext.auto)⟩
    case measure => simp [intOf]; omega
   ·have hz' : (p.kind k == 0 && p.side k == 0) = false := by rw [Bool.eq_false_iff]; simpa using hz
    clear hz
    have r0 := rank0 k hlt
    have r7 := rank7 k hlt
    have HK := hid hk
    clear hk
    by_cases hm : mayB (p.kind k) (p.side k) = true
    ·by_cases h6 : p.kind k = 6
     ·have hp : (p.kind k == 1) = false := by simp [h6]
      have h6' : (p.kind k == 6) = true := by simp [h6]
      have HOK := hid (show okSq p k = true by simp [okSq, hm, hp])
      by_cases hs : p.side k = 0
      ·have H6 := hid h6
       clear h6
       have HS := hid hs
       rw [hs] at hm
       go_wp2_with (first | (go_at_call 143; with_reducible refine arm (Rank_any _ _) fun w1 hx hxc hxf hxb hxs => ?_; (try have := sW wr w1); (try have := sW w w1)) | (go_at_call 148; with_reducible refine arm (may_any _ _ _) fun w1 hx hxc hxf hxb hxs => ?_; (try have := sW wr w1); (try have := sW w w1)))
       all_goals
        go_roundw
        case rel => exact ⟨k + 1, by go_num, HK.out.king0 hlt HOK.out H6.out HS.out (Ext.auto)⟩
        case measure => simp [intOf]; omega
      ·have hs1 : p.side k = 1 := by simp [mayB] at hm; omega
       clear hs
       have H6 := hid h6
       clear h6
       have HS := hid hs1
       rw [hs1] at hm
       go_wp2_with (first | (go_at_call 143; with_reducible refine arm (Rank_any _ _) fun w1 hx hxc hxf hxb hxs => ?_; (try have := sW wr w1); (try have := sW w w1)) | (go_at_call 148; with_reducible refine arm (may_any _ _ _) fun w1 hx hxc hxf hxb hxs => ?_; (try have := sW wr w1); (try have := sW w w1)))
       all_goals
        go_roundw
        case rel => exact ⟨k + 1, by go_num, HK.out.king1 hlt HOK.out H6.out HS.out (Ext.auto)⟩
        case measure => simp [intOf]; omega
     ·have h6' : (p.kind k == 6) = false := by simp [h6]
      have H6 := hid h6
      clear h6
      go_wp2_with (first | (go_at_call 143; with_reducible refine arm (Rank_any _ _) fun w1 hx hxc hxf hxb hxs => ?_; (try have := sW wr w1); (try have := sW w w1)) | (go_at_call 148; with_reducible refine arm (may_any _ _ _) fun w1 hx hxc hxf hxb hxs => ?_; (try have := sW wr w1); (try have := sW w w1)))
      all_goals first
       | (go_ret; exact Ret.mk' (vbool (pieces_bad hlt (by
        go_light
        have e1 : (p.kind k == 1) = true := by first | assumption | exact (‹(k < 8 ∨ 56 ≤ k) ∧ (p.kind k == 1) = true›).2
        have e2 : (decide (k < 8) || decide (56 ≤ k)) = true := by simp; omega
        simp only [okSq, hz', e1, e2]; simp))) (Ext.auto))
       | (go_roundw
          case rel =>
           refine ⟨k + 1, by go_num, HK.out.next hlt ?_ H6.out (Ext.auto)⟩
           have e2 : ((decide (k < 8) || decide (56 ≤ k)) && p.kind k == 1) = false := by
            go_light; clear hxc hxf hxb; rw [Bool.eq_false_iff]; simp at *; omega
           simp only [okSq, hz', hm, e2]; simp
          case measure => simp [intOf]; omega)
    ·have hm' : mayB (p.kind k) (p.side k) = false := by simpa using hm
     clear hm
     have HB := hid (pieces_bad hlt (show okSq p k = false by simp only [okSq, hz', hm']; rfl))
     go_wp2_with (first | (go_at_call 143; with_reducible refine arm (Rank_any _ _) fun w1 hx hxc hxf hxb hxs => ?_; (try have := sW wr w1); (try have := sW w w1)) | (go_at_call 148; with_reducible refine arm (may_any _ _ _) fun w1 hx hxc hxf hxb hxs => ?_; (try have := sW wr w1); (try have := sW w w1)))
     all_goals (go_ret; exact Ret.mk' (vbool HB.out) (Ext.auto))
  ·obtain rfl : k = 64 := by have := hk.le; omega
   have hall : (List.range 64).all (okSq p) = true := by
    rw [List.all_eq_true]
    intro i hi
    exact hk.ok i (List.mem_range.1 hi)
   have HE := hid (show piecesB p = ((kings p 0 64 == 1 && kings p 1 64 == 1) && (p.turn == 0 || p.turn == 1)) by simp only [piecesB, hall, Bool.true_and])
   clear hall
   have hcc := blk_cell hk.c
   clear hk hbn hbc
   generalize kings p 0 64 = x0 at *
   generalize kings p 1 64 = x1 at *
   go_wp2
   all_goals (go_ret; exact Ret.mk' (vbool (by go_light; rw [HE.out, Bool.eq_iff_iff]; simp at *; omega)) (Ext.auto))
end Go.Proofs.YtdmgimfgoajmjaaGreatDoor
