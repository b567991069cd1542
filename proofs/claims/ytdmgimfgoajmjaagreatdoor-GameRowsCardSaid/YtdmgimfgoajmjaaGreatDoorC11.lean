/- Sorted squares; what a piece attacks, rising; a square in a list. -/
import Derived.Test.YtdmgimfgoajmjaaGreatDoorC10
import Derived.Test.YtdmgimfgoajmjaaGreatDoorC00
import Derived.Sort.OwnSortedInts
import Derived.RangeFuncNested
import Derived.WalkKit
import Derived.OwnWalkIn
import Derived.TacticsInMore
import Derived.RegionIn
import Derived.LoopNIn
import Derived.LoopIn
import Derived.Stop.RegionWithIn
import Derived.RangeFuncLeaves
set_option linter.unusedVariables false
set_option linter.unusedSimpArgs false
set_option maxRecDepth 100000
set_option maxHeartbeats 2000000
namespace Go.Proofs.YtdmgimfgoajmjaaGreatDoor
open Go.RowKit Go.Sort
def sortL (l : List Int) : List Int := l.mergeSort fun x y => decide (x ≤ y)
theorem sortL_len (l : List Int) : (sortL l).length = l.length := by simp [sortL]
theorem Sort_own (base : Nat) (v : Value) (l : List Int) (w : World) (h : w.ownsRow base 3 1 v l.length (ints l)) (hn : l.length ≤ 1000000) :
 Calls Tryz.prog 226 #[v] w fun e w' => e = .returned (.tuple #[]) ∧ w'.ownsRow base 3 1 v l.length (ints (sortL l)) ∧ w.grownBy w' v.ownBlock := by
 rcases h.2 with ⟨rfl, h0⟩ | ⟨g, cap, cur, rfl, hbg, hgg, hcap, hcm, hcs, htk⟩
 ·obtain rfl : l = [] := List.eq_nil_of_length_eq_zero h0
  refine (Tryz.slices_Sort_int_none none 0 w).mono ?_
  rintro e w' ⟨rfl, rfl⟩
  exact ⟨rfl, by simpa [sortL, ints] using h, ⟨rfl, rfl, rfl, Nat.le_refl _, fun _ _ _ => rfl⟩⟩
 ·refine (Tryz.slices_Sort_int g 0 cap l w (holds_of_blockI hgg (by simpa [ints] using htk)) (Array.getElem?_eq_some_iff.1 hgg).1 (by omega)).mono ?_
  rintro e w' ⟨rfl, n, os, rfl⟩
  exact ⟨rfl, ownsRow_sortedI (by simp) hbg hgg hcap hcm hcs, grownBy_sortedI _⟩
theorem Contains_sl (v : Value) (l : List Int) (x : Int) (w : World) (h : Sl w 1 v l.length (ints l)) (hn : l.length ≤ 1000000) :
 Calls Tryz.prog 174 #[v, .int .i64 x] w fun e w' => e = .returned (.bool (l.contains x)) ∧ w' = w := by
 rcases h.2 with ⟨rfl, h0⟩ | ⟨b, off, cap, rfl, hb, hc⟩
 ·obtain rfl : l = [] := List.eq_nil_of_length_eq_zero h0
  refine (Tryz.slices_Contains_int_empty none 0 x w).mono ?_
  rintro e w' ⟨rfl, rfl⟩
  exact ⟨by simp, rfl⟩
 ·refine (Tryz.slices_Contains_int b off l.length cap l x w (Nat.le_refl _) (by omega) (fun j hj => hc j _ ?_)).mono ?_
  ·simp [ints, hj, List.getD, List.getElem?_eq_getElem hj]
  ·rintro e w' ⟨rfl, rfl⟩
   exact ⟨by simp, rfl⟩
theorem fromL_len (p : Pos) (s : Int) : (fromL p s).length ≤ 64 := by
 have h1 : ∀ l, l.length ≤ 8 → (ringL s l).length ≤ 64 := fun l h => Nat.le_trans (ringL_len s l) (by omega)
 have h2 : ∀ l, l.length ≤ 8 → (alongL p s l).length ≤ 64 := fun l h => Nat.le_trans (alongL_len p s l) (by omega)
 unfold fromL
 dsimp only
 (repeat' split) <;> first | exact h1 _ (by decide) | exact h2 _ (by decide) | simp
 all_goals exact h1 _ (by simp)
def FromL (p : Pos) (s : Int) : List Int := if 0 ≤ s ∧ s < 64 then sortL (fromL p s) else []
theorem From_any (p : Pos) (s : Int) (w : World) : Calls Tryz.prog 203 #[.agg (posCells p), .int .i64 s] w (RetInts (FromL p s) w) := by
 by_cases hs : 0 ≤ s ∧ s < 64
 ·have HE : Hid (FromL p s = sortL (fromL p s)) := hid (by unfold FromL; rw [if_pos hs])
  obtain ⟨h0, h1⟩ := hs
  have hI : isSq s = true := by simp [isSq, h0, h1]
  have hL := fromL_len p s
  go_enter Tryz.func203, Tryz.ntmps203
  go_wp2_with (first | (go_at_call 142; with_reducible refine arm (Is_any _ _) fun w1 hx hxc hxf hxb hxs => ?_; (try have := sW w w1)) | (go_at_call 175; (with_reducible refine (from_any _ _ _ h0 h1).mono ?_); rintro e w1 ⟨v2, rfl, hown2, hx⟩; obtain ⟨a2, cap2, rfl⟩ := (Sl.of_own hown2).form; obtain ⟨hxc, hxf, hxb, hxs⟩ := hx.als; (try have := sW w w1)) | (go_at_call 226; (with_reducible refine (Sort_own _ _ (fromL p s) _ hown2 ?s1).mono ?_); rotate_left 1; rintro e w2 ⟨rfl, hown3, hg3⟩))
  case s1 => omega
  go_ret
  exact RetInts.mk' hown3 (by rw [HE.out, sortL_len]) (by rw [HE.out]) (by omega) (Ext.trans (Ext.auto) (Ext.grown hx hown2 hg3))
 ·have HE : Hid (FromL p s = []) := hid (by unfold FromL; rw [if_neg hs])
  have hI : isSq s = false := by simp [isSq]; omega
  go_enter Tryz.func203, Tryz.ntmps203
  go_wp2_with (go_at_call 142; with_reducible refine arm (Is_any _ _) fun w1 hx hxc hxf hxb hxs => ?_; (try have := sW w w1))
  go_ret
  rw [HE.out]
  exact RetInts.nil _ _ (Ext.auto)
end Go.Proofs.YtdmgimfgoajmjaaGreatDoor
namespace Go.Proofs.YtdmgimfgoajmjaaGreatDoor
open Go.RowKit
def attacksB (p : Pos) (s by_ : Int) (a : Nat) : Bool := p.side a == by_ && (fromL p a).contains s
def attackersL (p : Pos) (s by_ : Int) (n : Nat) : List Int := ((List.range n).filter fun a => attacksB p s by_ a).map (Nat.cast : Nat → Int)
theorem attackersL_succ (p : Pos) (s b : Int) (n : Nat) : attackersL p s b (n + 1) = attackersL p s b n ++ if attacksB p s b n = true then [(n : Int)] else [] := by
 unfold attackersL
 rw [List.range_succ, List.filter_append, List.map_append]
 congr 1
 simp only [List.filter_cons, List.filter_nil]
 split <;> simp
theorem attackersL_len (p : Pos) (s b : Int) (n : Nat) : (attackersL p s b n).length ≤ n := by
 unfold attackersL
 rw [List.length_map]
 exact Nat.le_trans (List.length_filter_le _ _) (by simp)
theorem attackersL_pre (p : Pos) (s b : Int) (m : Nat) : ∀ d, attackersL p s b m <+: attackersL p s b (m + d)
 | 0 => List.prefix_refl _
 | d + 1 => (attackersL_pre p s b m d).trans (by rw [← Nat.add_assoc, attackersL_succ]; exact List.prefix_append _ _)
theorem attackersL_put (p : Pos) (s b : Int) (k : Nat) (hk : k < 64) (h : attacksB p s b k = true) : attackersL p s b k ++ [(k : Int)] <+: attackersL p s b 64 := by
 have := attackersL_pre p s b (k + 1) (63 - k)
 rw [attackersL_succ, if_pos h, show k + 1 + (63 - k) = 64 by omega] at this
 exact this
structure Caught (p : Pos) (s b : Int) (bf bb bs : Nat) (w : World) : Prop where
 f : blk w bf = some (.cells (posCells p) 195 (0, 0))
 b : blk w bb = some (.cells #[.int .i64 b] 24 (0, 0))
 s : blk w bs = some (.cells #[.int .i64 s] 3 (0, 0))
def KeepB (bf bb bs : Nat) (A B : World) : Prop := A.heap.size ≤ B.heap.size ∧ blk B bf = blk A bf ∧ blk B bb = blk A bb ∧ blk B bs = blk A bs
theorem Caught.keep {p : Pos} {s b : Int} {bf bb bs : Nat} {A B : World} (h : Caught p s b bf bb bs A) (k : KeepB bf bb bs A B) : Caught p s b bf bb bs B := ⟨k.2.1.trans h.f, k.2.2.1.trans h.b, k.2.2.2.trans h.s⟩
theorem Caught.ext {p : Pos} {s b : Int} {bf bb bs : Nat} {A B : World} (h : Caught p s b bf bb bs A) (hx : Ext A B) : Caught p s b bf bb bs B := ⟨(hx.blk _ (blk_lt h.f)).trans h.f, (hx.blk _ (blk_lt h.b)).trans h.b, (hx.blk _ (blk_lt h.s)).trans h.s⟩
section
variable {F : Fence} {n : Nat} {P : Program} {ops : Array Oper} {Q : Exit → Act → World → Prop} {md : Region.Mode}
theorem iTk (i : Nat) {v : Value} {oi : Oper} {fuel : Nat} {listed : Array Bool} {a : Act} {w : World} (h : wpAnyIn F n P md ops Q fuel (listed.setIfInBounds i true) (a.put oi.dst v) w) (hro : F.round = none := by rfl) (hi : ops[i]? = some oi := by rfl)
 (hy : ∀ w, (execOp a.eval oi).run P w = .ok (.value v) w := by intro w0; go_simp; try with_reducible rfl) (hs : Region.noSelect ops = true := by kernel_rfl) (hf : Region.free md ops listed i = true := by kernel_rfl) (hr : (Region.ready md ops listed).contains i = true := by kernel_rfl)
 (hQ : ∀ c a w, Q (.panic c) (a.put oi.dst v) w → Q (.panic c) a w := by exact fun _ _ _ h => h) (hw : Region.wanted oi (yielded ops a.tmps) = true := by rfl) (hb : ∀ w, oi.about P w a.eval = none := by exact fun _ => rfl) : wpAnyIn F n P md ops Q (fuel + 1) listed a w := wpAnyIn_take hro hi hs hf hr hQ ⟨Or.inl ⟨hw, hy⟩, hb⟩ h
theorem iSk (i : Nat) {oi : Oper} {fuel : Nat} {listed : Array Bool} {a : Act} {w : World} (h : wpAnyIn F n P md ops Q fuel (listed.setIfInBounds i true) (a.put oi.dst undef) w) (hro : F.round = none := by rfl) (hi : ops[i]? = some oi := by rfl)
 (hs : Region.noSelect ops = true := by kernel_rfl) (hf : Region.free md ops listed i = true := by kernel_rfl) (hr : (Region.ready md ops listed).contains i = true := by kernel_rfl)
 (hQ : ∀ c a w, Q (.panic c) (a.put oi.dst undef) w → Q (.panic c) a w := by exact fun _ _ _ h => h) (hw : Region.wanted oi (yielded ops a.tmps) = false := by rfl) (hb : ∀ w, oi.about P w a.eval = none := by exact fun _ => rfl) : wpAnyIn F n P md ops Q (fuel + 1) listed a w := wpAnyIn_take hro hi hs hf hr hQ ⟨Or.inr ⟨hw, rfl⟩, hb⟩ h
theorem iCo {fuel : Nat} {listed : Array Bool} {a : Act} {w : World} {i : Nat} {o : Oper} {rs : List Nat}
 (h : ∀ K' : Act → World → Prop, (∀ a w, wpAnyIn F n P md ops Q fuel (listed.setIfInBounds i true) a w → K' a w) → if Region.wanted o (yielded ops a.tmps) = true then Oper.wpIn F n P o a w K' Q else (∀ f, o.about P w a.eval = some f → F.fn f) ∧ K' (a.put o.dst undef) w)
 (hs : AllReadyIn F n P md ops Q fuel listed a w rs) (ho : ops[i]? = some o := by rfl) : AllReadyIn F n P md ops Q fuel listed a w (i :: rs) := AllReadyIn.cons ho h hs
theorem iRy (rs : List Nat) {fuel : Nat} {listed : Array Bool} {a : Act} {w : World} (h : AllReadyIn F n P md ops Q fuel listed a w rs) (hr : Region.ready md ops listed = rs := by kernel_rfl) (hne : rs ≠ [] := by simp) : wpAnyIn F n P md ops Q (fuel + 1) listed a w := wpAnyIn_ready hr hne h
end
theorem wpIn_region_drew {F : Fence} {n : Nat} {P : Program} {ops : Array Oper} {Q : Exit → Act → World → Prop} {id : Nat} {a : Act} {w : World} (hm : P.follows .mixedOrders = true)
 (h : wpAnyIn F n P .any ops Q ops.size (Array.replicate ops.size false) a w.drew) : (Code.region id ops true).wpIn F n P Q a w := wpIn_region_any hm h
@[go_sem] theorem wide_fn (f : FuncId) : Fence.wide.fn f = True := rfl
theorem Ext.grownNone {w w' : World} (h : Ext w w') : w.grownBy w' none := ⟨h.1, h.2, h.3, h.4, fun k hk _ => h.5 k hk⟩
theorem operIn_load_row {F : Fence} {n : Nat} {P : Program} {a : Act} {w : World} {K : Act → World → Prop} {Q : Exit → Act → World → Prop} {dst : Option Tmp} {T : TypeId} {x : Operand} {ty : TypeId} {pos : String} {af : Array Edge} {g : Option (Nat × Bool)}
 {m : Nat} {d : TypeDesc} (hu : P.underlying T = some d) (hd : (match d with | .struct _ | .array _ _ => true | _ => false) = true) (hi : (P.info? T).map (·.size) = some m)
 {b off : Nat} (hx : a.eval x = .pointer (some ⟨b, off, none⟩)) {cs : Array Value} {t : TypeId} {fr : Nat × Nat} (hb : blk w b = some (.cells cs t fr)) (hle : off + m ≤ cs.size)
 (h : K (a.put dst (.agg (cs.extract off (off + m)))) w) : (⟨dst, .load T x, ty, pos, af, g⟩ : Oper).wpIn F n P a w K Q := by
 have hrun : (execOp a.eval ⟨dst, .load T x, ty, pos, af, g⟩).run P w = .ok (.value (.agg (cs.extract off (off + m)))) w := by
  rw [exec_load_sub hu hd hi, hx]
  simp [loadSub, hb, hle]
 unfold Oper.wpIn
 refine ⟨?_, ?_⟩
 ·intro f hf; simp [Oper.about] at hf
 ·rw [Oper.semAt_plain F _ _ (by intro c hc'; cases hc'), hrun]
  exact h
theorem wpListIn_load_row {F : Fence} {n : Nat} {P : Program} {ops : Array Oper} {rest : List Oper} {a : Act} {w : World} {Q : Exit → Act → World → Prop} {dst : Option Tmp} {T : TypeId} {x : Operand} {ty : TypeId} {pos : String} {af : Array Edge}
 {m : Nat} {d : TypeDesc} (hu : P.underlying T = some d) (hd : (match d with | .struct _ | .array _ _ => true | _ => false) = true) (hi : (P.info? T).map (·.size) = some m)
 {b off : Nat} (hx : a.eval x = .pointer (some ⟨b, off, none⟩)) {cs : Array Value} {t : TypeId} {fr : Nat × Nat} (hb : blk w b = some (.cells cs t fr)) (hle : off + m ≤ cs.size)
 (h : wpListIn F n P ops Q rest (a.put dst (.agg (cs.extract off (off + m)))) w) : wpListIn F n P ops Q (⟨dst, .load T x, ty, pos, af, none⟩ :: rest) a w := by
 refine wpListIn_plain rfl fun K hK' => ?_
 have hrun : (execOp a.eval ⟨dst, .load T x, ty, pos, af, none⟩).run P w = .ok (.value (.agg (cs.extract off (off + m)))) w := by
  rw [exec_load_sub hu hd hi, hx]
  simp [loadSub, hb, hle]
 unfold Oper.wpIn
 refine ⟨?_, ?_⟩
 ·intro f hf; simp [Oper.about] at hf
 ·rw [Oper.semAt_plain F _ _ (by intro c hc'; cases hc'), hrun]
  exact hK' _ _ h
theorem attackers_in (n : Nat) (hn : 1 ≤ n) (l : Nat) (p : Pos) (s b : Int) (bf bb bs : Nat) (J Jx : List Int → World → Prop)
 (hY : ∀ pre x W1, J pre W1 → pre.length < 64 → YieldAt Fence.wide (n - 1) Tryz.prog l #[.int .i64 x] W1 fun e W' => (e = .returned (.bool true) ∧ J (pre ++ [x]) W' ∧ KeepB bf bb bs W1 W') ∨ (e = .returned (.bool false) ∧ Jx (pre ++ [x]) W'))
 (W : World) (hJ : AbidesFrom W.heap.size J) (hC : Caught p s b bf bb bs W) (h0 : J [] W) :
 CallsIn Fence.wide n Tryz.prog 173 #[.func (.yield l) #[] #[], .pointer (some ⟨bf, 0, none⟩), .pointer (some ⟨bb, 0, none⟩), .pointer (some ⟨bs, 0, none⟩)] W fun e W' => (∃ v, e = .returned v) ∧
  ((∃ xs, xs = attackersL p s b 64 ∧ J xs W') ∨ (∃ pre : List Int, (pre ≠ [] ∧ pre <+: attackersL p s b 64) ∧ Jx pre W')) := by
 have hcF := blk_cell hC.f
 have hb1 := hC.f
 refine callsIn_of_wp Tryz.func173 rfl trivial ?_ rfl
 simp only [Tryz.ntmps173, List.size_toArray, List.length_cons, List.length_nil, Nat.reduceAdd, Nat.reduceSub, Array.replicate_succ, Array.replicate_zero, List.push_toArray, List.append_toArray, List.nil_append, List.cons_append]
 gi_wp2_with (refine wpListIn_load_row (T := 27) (m := 128) Tryz.underlying27 rfl (by kernel_rfl) rfl hb1 (by rw [posCells_size]; decide) ?_)
 try simp only [posCells_sq, Nat.zero_add]
 gi_loopw [10] (fun i wr => ∃ k : Nat, i = .int .i64 k ∧ k ≤ 64 ∧ Caught p s b bf bb bs wr ∧ W.heap.size ≤ wr.heap.size ∧ J (attackersL p s b k) wr) (fun i _ => 64 - (intOf i).toNat)
 case atStart => exact ⟨0, rfl, by omega, hC, Nat.le_refl _, h0⟩
 case round =>
  obtain ⟨k, rfl, hk, hCr, hWr, hJr⟩ := hrel
  have HK := hid hk
  clear hcF hb1 hC h0
  have cb := blk_cell hCr.b 0
  have cs := blk_cell hCr.s 0
  have lb := blk_lt hCr.b
  have ls := blk_lt hCr.s
  have lf := blk_lt hCr.f
  have HC := hid hCr
  clear hCr
  simp only [List.getElem?_toArray, List.getElem?_cons_zero] at cb cs
  by_cases hlt : k < 64
  ·by_cases hs : p.side k = b
   ·cases hc : (fromL p k).contains s
    ·have hq : (p.side k == b) = true := by simp [hs]
     have k0 : 0 ≤ (k : Int) := by omega
     have k1 : (k : Int) < 64 := by omega
     have HA := hid (show attacksB p s b k = (fromL p k).contains s by simp [attacksB, hs])
     rw [hc] at HA
     gi_wp2
     refine wpIn_region_drew (by kernel_rfl) ?_
     refine iTk 0 ?_
     refine iRy [1, 2] (iCo (fun K hK => ?_) (iCo (fun K hK => ?_) AllReadyIn.nil))
     ·go_simp; refine hK _ _ ?_; clear hK
      refine iRy [2] (iCo (fun K hK => ?_) AllReadyIn.nil)
      go_simp; refine hK _ _ ?_; clear hK
      refine iTk 3 ?_
      refine iTk 4 ?_
      refine iTk 6 ?_
      refine iRy [5, 8] (iCo (fun K hK => ?_) (iCo (fun K hK => ?_) AllReadyIn.nil))
      ·rw [if_pos (by rfl)]
       refine operIn_load_row (m := 133) Tryz.underlying195 rfl (by kernel_rfl) rfl (HC.out.ext (Ext.auto)).f (by rw [posCells_size]; decide) ?_
       refine hK _ _ ?_; clear hK
       refine iRy [7, 8] (iCo (fun K hK => ?_) (iCo (fun K hK => ?_) AllReadyIn.nil))
       ·go_simp
        refine CallsIn.mono (callsIn_wide.2 (from_any p k _ k0 k1)) ?_
        rintro e w1 ⟨v, rfl, hown, hx⟩
        refine hK _ _ ?_; clear hK
        have hxw : Ext wr w1 := Ext.trans (Ext.auto) hx
        have cs1 : w1.cell? ⟨bs, 0, none⟩ = some (.int .i64 s) := blk_cell (HC.out.ext hxw).s 0
        have hsz := hxw.le
        refine iRy [8] (iCo (fun K hK => ?_) AllReadyIn.nil)
        go_simp; refine hK _ _ ?_; clear hK
        refine iRy [9] (iCo (fun K hK => ?_) AllReadyIn.nil)
        go_simp
        refine CallsIn.mono (callsIn_wide.2 (Contains_sl v _ s _ (Sl.of_own hown) (Nat.le_trans (fromL_len p k) (by decide)))) ?_
        rintro e w2 ⟨rfl, hw2⟩
        obtain rfl : w1 = w2 := hw2.symm
        refine hK _ _ ?_; clear hK
        simp only [hc]
        refine iTk 10 ?_
        refine iTk 11 ?_
        refine iSk 12 ?_
        refine iSk 13 ?_
        refine iRy [14] (iCo (fun K hK => ?_) AllReadyIn.nil)
        go_simp; refine hK _ _ ?_; clear hK
        refine iSk 15 ?_
        refine iTk 16 ?_
        refine wpAnyIn_done (by kernel_rfl) ?_ _
        gi_wp2
        go_roundw
        case rel => exact ⟨k + 1, by go_num, by omega, HC.out.ext hxw, by omega, by rw [attackersL_succ, if_neg (by unfold attacksB; rw [hc]; simp)]; simpa using hJ _ _ _ none hJr (Ext.grownNone hxw) (fun r e => by cases e)⟩
        case measure => simp [intOf]; omega
       ·go_simp; refine hK _ _ ?_; clear hK
        refine iRy [7] (iCo (fun K hK => ?_) AllReadyIn.nil)
        go_simp
        refine CallsIn.mono (callsIn_wide.2 (from_any p k _ k0 k1)) ?_
        rintro e w1 ⟨v, rfl, hown, hx⟩
        refine hK _ _ ?_; clear hK
        have hxw : Ext wr w1 := Ext.trans (Ext.auto) hx
        have cs1 : w1.cell? ⟨bs, 0, none⟩ = some (.int .i64 s) := blk_cell (HC.out.ext hxw).s 0
        have hsz := hxw.le
        refine iRy [9] (iCo (fun K hK => ?_) AllReadyIn.nil)
        go_simp
        refine CallsIn.mono (callsIn_wide.2 (Contains_sl v _ s _ (Sl.of_own hown) (Nat.le_trans (fromL_len p k) (by decide)))) ?_
        rintro e w2 ⟨rfl, hw2⟩
        obtain rfl : w1 = w2 := hw2.symm
        refine hK _ _ ?_; clear hK
        simp only [hc]
        refine iTk 10 ?_
        refine iTk 11 ?_
        refine iSk 12 ?_
        refine iSk 13 ?_
        refine iRy [14] (iCo (fun K hK => ?_) AllReadyIn.nil)
        go_simp; refine hK _ _ ?_; clear hK
        refine iSk 15 ?_
        refine iTk 16 ?_
        refine wpAnyIn_done (by kernel_rfl) ?_ _
        gi_wp2
        go_roundw
        case rel => exact ⟨k + 1, by go_num, by omega, HC.out.ext hxw, by omega, by rw [attackersL_succ, if_neg (by unfold attacksB; rw [hc]; simp)]; simpa using hJ _ _ _ none hJr (Ext.grownNone hxw) (fun r e => by cases e)⟩
        case measure => simp [intOf]; omega
      ·go_simp; refine hK _ _ ?_; clear hK
       refine iRy [5] (iCo (fun K hK => ?_) AllReadyIn.nil)
       rw [if_pos (by rfl)]
       refine operIn_load_row (m := 133) Tryz.underlying195 rfl (by kernel_rfl) rfl (HC.out.ext (Ext.auto)).f (by rw [posCells_size]; decide) ?_
       refine hK _ _ ?_; clear hK
       refine iRy [7] (iCo (fun K hK => ?_) AllReadyIn.nil)
       go_simp
       refine CallsIn.mono (callsIn_wide.2 (from_any p k _ k0 k1)) ?_
       rintro e w1 ⟨v, rfl, hown, hx⟩
       refine hK _ _ ?_; clear hK
       have hxw : Ext wr w1 := Ext.trans (Ext.auto) hx
       have cs1 : w1.cell? ⟨bs, 0, none⟩ = some (.int .i64 s) := blk_cell (HC.out.ext hxw).s 0
       have hsz := hxw.le
       refine iRy [9] (iCo (fun K hK => ?_) AllReadyIn.nil)
       go_simp
       refine CallsIn.mono (callsIn_wide.2 (Contains_sl v _ s _ (Sl.of_own hown) (Nat.le_trans (fromL_len p k) (by decide)))) ?_
       rintro e w2 ⟨rfl, hw2⟩
       obtain rfl : w1 = w2 := hw2.symm
       refine hK _ _ ?_; clear hK
       simp only [hc]
       refine iTk 10 ?_
       refine iTk 11 ?_
       refine iSk 12 ?_
       refine iSk 13 ?_
       refine iRy [14] (iCo (fun K hK => ?_) AllReadyIn.nil)
       go_simp; refine hK _ _ ?_; clear hK
       refine iSk 15 ?_
       refine iTk 16 ?_
       refine wpAnyIn_done (by kernel_rfl) ?_ _
       gi_wp2
       go_roundw
       case rel => exact ⟨k + 1, by go_num, by omega, HC.out.ext hxw, by omega, by rw [attackersL_succ, if_neg (by unfold attacksB; rw [hc]; simp)]; simpa using hJ _ _ _ none hJr (Ext.grownNone hxw) (fun r e => by cases e)⟩
       case measure => simp [intOf]; omega
     ·go_simp; refine hK _ _ ?_; clear hK
      refine iRy [1] (iCo (fun K hK => ?_) AllReadyIn.nil)
      go_simp; refine hK _ _ ?_; clear hK
      refine iTk 3 ?_
      refine iTk 4 ?_
      refine iTk 6 ?_
      refine iRy [5, 8] (iCo (fun K hK => ?_) (iCo (fun K hK => ?_) AllReadyIn.nil))
      ·rw [if_pos (by rfl)]
       refine operIn_load_row (m := 133) Tryz.underlying195 rfl (by kernel_rfl) rfl (HC.out.ext (Ext.auto)).f (by rw [posCells_size]; decide) ?_
       refine hK _ _ ?_; clear hK
       refine iRy [7, 8] (iCo (fun K hK => ?_) (iCo (fun K hK => ?_) AllReadyIn.nil))
       ·go_simp
        refine CallsIn.mono (callsIn_wide.2 (from_any p k _ k0 k1)) ?_
        rintro e w1 ⟨v, rfl, hown, hx⟩
        refine hK _ _ ?_; clear hK
        have hxw : Ext wr w1 := Ext.trans (Ext.auto) hx
        have cs1 : w1.cell? ⟨bs, 0, none⟩ = some (.int .i64 s) := blk_cell (HC.out.ext hxw).s 0
        have hsz := hxw.le
        refine iRy [8] (iCo (fun K hK => ?_) AllReadyIn.nil)
        go_simp; refine hK _ _ ?_; clear hK
        refine iRy [9] (iCo (fun K hK => ?_) AllReadyIn.nil)
        go_simp
        refine CallsIn.mono (callsIn_wide.2 (Contains_sl v _ s _ (Sl.of_own hown) (Nat.le_trans (fromL_len p k) (by decide)))) ?_
        rintro e w2 ⟨rfl, hw2⟩
        obtain rfl : w1 = w2 := hw2.symm
        refine hK _ _ ?_; clear hK
        simp only [hc]
        refine iTk 10 ?_
        refine iTk 11 ?_
        refine iSk 12 ?_
        refine iSk 13 ?_
        refine iRy [14] (iCo (fun K hK => ?_) AllReadyIn.nil)
        go_simp; refine hK _ _ ?_; clear hK
        refine iSk 15 ?_
        refine iTk 16 ?_
        refine wpAnyIn_done (by kernel_rfl) ?_ _
        gi_wp2
        go_roundw
        case rel => exact ⟨k + 1, by go_num, by omega, HC.out.ext hxw, by omega, by rw [attackersL_succ, if_neg (by unfold attacksB; rw [hc]; simp)]; simpa using hJ _ _ _ none hJr (Ext.grownNone hxw) (fun r e => by cases e)⟩
        case measure => simp [intOf]; omega
       ·go_simp; refine hK _ _ ?_; clear hK
        refine iRy [7] (iCo (fun K hK => ?_) AllReadyIn.nil)
        go_simp
        refine CallsIn.mono (callsIn_wide.2 (from_any p k _ k0 k1)) ?_
        rintro e w1 ⟨v, rfl, hown, hx⟩
        refine hK _ _ ?_; clear hK
        have hxw : Ext wr w1 := Ext.trans (Ext.auto) hx
        have cs1 : w1.cell? ⟨bs, 0, none⟩ = some (.int .i64 s) := blk_cell (HC.out.ext hxw).s 0
        have hsz := hxw.le
        refine iRy [9] (iCo (fun K hK => ?_) AllReadyIn.nil)
        go_simp
        refine CallsIn.mono (callsIn_wide.2 (Contains_sl v _ s _ (Sl.of_own hown) (Nat.le_trans (fromL_len p k) (by decide)))) ?_
        rintro e w2 ⟨rfl, hw2⟩
        obtain rfl : w1 = w2 := hw2.symm
        refine hK _ _ ?_; clear hK
        simp only [hc]
        refine iTk 10 ?_
        refine iTk 11 ?_
        refine iSk 12 ?_
        refine iSk 13 ?_
        refine iRy [14] (iCo (fun K hK => ?_) AllReadyIn.nil)
        go_simp; refine hK _ _ ?_; clear hK
        refine iSk 15 ?_
        refine iTk 16 ?_
        refine wpAnyIn_done (by kernel_rfl) ?_ _
        gi_wp2
        go_roundw
        case rel => exact ⟨k + 1, by go_num, by omega, HC.out.ext hxw, by omega, by rw [attackersL_succ, if_neg (by unfold attacksB; rw [hc]; simp)]; simpa using hJ _ _ _ none hJr (Ext.grownNone hxw) (fun r e => by cases e)⟩
        case measure => simp [intOf]; omega
      ·go_simp; refine hK _ _ ?_; clear hK
       refine iRy [5] (iCo (fun K hK => ?_) AllReadyIn.nil)
       rw [if_pos (by rfl)]
       refine operIn_load_row (m := 133) Tryz.underlying195 rfl (by kernel_rfl) rfl (HC.out.ext (Ext.auto)).f (by rw [posCells_size]; decide) ?_
       refine hK _ _ ?_; clear hK
       refine iRy [7] (iCo (fun K hK => ?_) AllReadyIn.nil)
       go_simp
       refine CallsIn.mono (callsIn_wide.2 (from_any p k _ k0 k1)) ?_
       rintro e w1 ⟨v, rfl, hown, hx⟩
       refine hK _ _ ?_; clear hK
       have hxw : Ext wr w1 := Ext.trans (Ext.auto) hx
       have cs1 : w1.cell? ⟨bs, 0, none⟩ = some (.int .i64 s) := blk_cell (HC.out.ext hxw).s 0
       have hsz := hxw.le
       refine iRy [9] (iCo (fun K hK => ?_) AllReadyIn.nil)
       go_simp
       refine CallsIn.mono (callsIn_wide.2 (Contains_sl v _ s _ (Sl.of_own hown) (Nat.le_trans (fromL_len p k) (by decide)))) ?_
       rintro e w2 ⟨rfl, hw2⟩
       obtain rfl : w1 = w2 := hw2.symm
       refine hK _ _ ?_; clear hK
       simp only [hc]
       refine iTk 10 ?_
       refine iTk 11 ?_
       refine iSk 12 ?_
       refine iSk 13 ?_
       refine iRy [14] (iCo (fun K hK => ?_) AllReadyIn.nil)
       go_simp; refine hK _ _ ?_; clear hK
       refine iSk 15 ?_
       refine iTk 16 ?_
       refine wpAnyIn_done (by kernel_rfl) ?_ _
       gi_wp2
       go_roundw
       case rel => exact ⟨k + 1, by go_num, by omega, HC.out.ext hxw, by omega, by rw [attackersL_succ, if_neg (by unfold attacksB; rw [hc]; simp)]; simpa using hJ _ _ _ none hJr (Ext.grownNone hxw) (fun r e => by cases e)⟩
       case measure => simp [intOf]; omega
    ·have hq : (p.side k == b) = true := by simp [hs]
     have k0 : 0 ≤ (k : Int) := by omega
     have k1 : (k : Int) < 64 := by omega
     have HA := hid (show attacksB p s b k = (fromL p k).contains s by simp [attacksB, hs])
     rw [hc] at HA
     gi_wp2
     refine wpIn_region_drew (by kernel_rfl) ?_
     refine iTk 0 ?_
     refine iRy [1, 2] (iCo (fun K hK => ?_) (iCo (fun K hK => ?_) AllReadyIn.nil))
     ·go_simp; refine hK _ _ ?_; clear hK
      refine iRy [2] (iCo (fun K hK => ?_) AllReadyIn.nil)
      go_simp; refine hK _ _ ?_; clear hK
      refine iTk 3 ?_
      refine iTk 4 ?_
      refine iTk 6 ?_
      refine iRy [5, 8] (iCo (fun K hK => ?_) (iCo (fun K hK => ?_) AllReadyIn.nil))
      ·rw [if_pos (by rfl)]
       refine operIn_load_row (m := 133) Tryz.underlying195 rfl (by kernel_rfl) rfl (HC.out.ext (Ext.auto)).f (by rw [posCells_size]; decide) ?_
       refine hK _ _ ?_; clear hK
       refine iRy [7, 8] (iCo (fun K hK => ?_) (iCo (fun K hK => ?_) AllReadyIn.nil))
       ·go_simp
        refine CallsIn.mono (callsIn_wide.2 (from_any p k _ k0 k1)) ?_
        rintro e w1 ⟨v, rfl, hown, hx⟩
        refine hK _ _ ?_; clear hK
        have hxw : Ext wr w1 := Ext.trans (Ext.auto) hx
        have cs1 : w1.cell? ⟨bs, 0, none⟩ = some (.int .i64 s) := blk_cell (HC.out.ext hxw).s 0
        have hsz := hxw.le
        refine iRy [8] (iCo (fun K hK => ?_) AllReadyIn.nil)
        go_simp; refine hK _ _ ?_; clear hK
        refine iRy [9] (iCo (fun K hK => ?_) AllReadyIn.nil)
        go_simp
        refine CallsIn.mono (callsIn_wide.2 (Contains_sl v _ s _ (Sl.of_own hown) (Nat.le_trans (fromL_len p k) (by decide)))) ?_
        rintro e w2 ⟨rfl, hw2⟩
        obtain rfl : w1 = w2 := hw2.symm
        refine hK _ _ ?_; clear hK
        simp only [hc]
        refine iTk 10 ?_
        refine iTk 11 ?_
        refine iTk 12 ?_
        refine iTk 13 ?_
        refine iRy [14] (iCo (fun K hK => ?_) AllReadyIn.nil)
        have hJ2 : J (attackersL p s b k) w1 := hJ _ _ _ none hJr (Ext.grownNone hxw) (fun r e => by cases e)
        obtain ⟨fn, tmps, assign, body, hy, hR⟩ := hY _ (k : Int) w1 hJ2 (Nat.lt_of_le_of_lt (attackersL_len p s b k) hlt)
        go_simp
        refine hR.mono ?_
        rintro e W3 (⟨rfl, hJ3, hk3⟩ | ⟨rfl, hJx3⟩)
        ·refine hK _ _ ?_; clear hK
         refine iTk 15 ?_
         refine iTk 16 ?_
         refine wpAnyIn_done (by kernel_rfl) ?_ _
         gi_wp2
         go_roundw
         case rel => exact ⟨k + 1, by go_num, by omega, (HC.out.ext hxw).keep hk3, Nat.le_trans hsz hk3.1 |> Nat.le_trans hWr, by rw [attackersL_succ, if_pos HA.out]; exact hJ3⟩
         case measure => simp [intOf]; omega
        ·refine hK _ _ ?_; clear hK
         refine iTk 15 ?_
         refine iTk 16 ?_
         refine wpAnyIn_done (by kernel_rfl) ?_ _
         gi_wp2
         exact bodyPost_ret (results_none rfl _ _ _) rfl ⟨⟨_, rfl⟩, .inr ⟨_, ⟨by simp, attackersL_put p s b k hlt HA.out⟩, hJx3⟩⟩
       ·go_simp; refine hK _ _ ?_; clear hK
        refine iRy [7] (iCo (fun K hK => ?_) AllReadyIn.nil)
        go_simp
        refine CallsIn.mono (callsIn_wide.2 (from_any p k _ k0 k1)) ?_
        rintro e w1 ⟨v, rfl, hown, hx⟩
        refine hK _ _ ?_; clear hK
        have hxw : Ext wr w1 := Ext.trans (Ext.auto) hx
        have cs1 : w1.cell? ⟨bs, 0, none⟩ = some (.int .i64 s) := blk_cell (HC.out.ext hxw).s 0
        have hsz := hxw.le
        refine iRy [9] (iCo (fun K hK => ?_) AllReadyIn.nil)
        go_simp
        refine CallsIn.mono (callsIn_wide.2 (Contains_sl v _ s _ (Sl.of_own hown) (Nat.le_trans (fromL_len p k) (by decide)))) ?_
        rintro e w2 ⟨rfl, hw2⟩
        obtain rfl : w1 = w2 := hw2.symm
        refine hK _ _ ?_; clear hK
        simp only [hc]
        refine iTk 10 ?_
        refine iTk 11 ?_
        refine iTk 12 ?_
        refine iTk 13 ?_
        refine iRy [14] (iCo (fun K hK => ?_) AllReadyIn.nil)
        have hJ2 : J (attackersL p s b k) w1 := hJ _ _ _ none hJr (Ext.grownNone hxw) (fun r e => by cases e)
        obtain ⟨fn, tmps, assign, body, hy, hR⟩ := hY _ (k : Int) w1 hJ2 (Nat.lt_of_le_of_lt (attackersL_len p s b k) hlt)
        go_simp
        refine hR.mono ?_
        rintro e W3 (⟨rfl, hJ3, hk3⟩ | ⟨rfl, hJx3⟩)
        ·refine hK _ _ ?_; clear hK
         refine iTk 15 ?_
         refine iTk 16 ?_
         refine wpAnyIn_done (by kernel_rfl) ?_ _
         gi_wp2
         go_roundw
         case rel => exact ⟨k + 1, by go_num, by omega, (HC.out.ext hxw).keep hk3, Nat.le_trans hsz hk3.1 |> Nat.le_trans hWr, by rw [attackersL_succ, if_pos HA.out]; exact hJ3⟩
         case measure => simp [intOf]; omega
        ·refine hK _ _ ?_; clear hK
         refine iTk 15 ?_
         refine iTk 16 ?_
         refine wpAnyIn_done (by kernel_rfl) ?_ _
         gi_wp2
         exact bodyPost_ret (results_none rfl _ _ _) rfl ⟨⟨_, rfl⟩, .inr ⟨_, ⟨by simp, attackersL_put p s b k hlt HA.out⟩, hJx3⟩⟩
      ·go_simp; refine hK _ _ ?_; clear hK
       refine iRy [5] (iCo (fun K hK => ?_) AllReadyIn.nil)
       rw [if_pos (by rfl)]
       refine operIn_load_row (m := 133) Tryz.underlying195 rfl (by kernel_rfl) rfl (HC.out.ext (Ext.auto)).f (by rw [posCells_size]; decide) ?_
       refine hK _ _ ?_; clear hK
       refine iRy [7] (iCo (fun K hK => ?_) AllReadyIn.nil)
       go_simp
       refine CallsIn.mono (callsIn_wide.2 (from_any p k _ k0 k1)) ?_
       rintro e w1 ⟨v, rfl, hown, hx⟩
       refine hK _ _ ?_; clear hK
       have hxw : Ext wr w1 := Ext.trans (Ext.auto) hx
       have cs1 : w1.cell? ⟨bs, 0, none⟩ = some (.int .i64 s) := blk_cell (HC.out.ext hxw).s 0
       have hsz := hxw.le
       refine iRy [9] (iCo (fun K hK => ?_) AllReadyIn.nil)
       go_simp
       refine CallsIn.mono (callsIn_wide.2 (Contains_sl v _ s _ (Sl.of_own hown) (Nat.le_trans (fromL_len p k) (by decide)))) ?_
       rintro e w2 ⟨rfl, hw2⟩
       obtain rfl : w1 = w2 := hw2.symm
       refine hK _ _ ?_; clear hK
       simp only [hc]
       refine iTk 10 ?_
       refine iTk 11 ?_
       refine iTk 12 ?_
       refine iTk 13 ?_
       refine iRy [14] (iCo (fun K hK => ?_) AllReadyIn.nil)
       have hJ2 : J (attackersL p s b k) w1 := hJ _ _ _ none hJr (Ext.grownNone hxw) (fun r e => by cases e)
       obtain ⟨fn, tmps, assign, body, hy, hR⟩ := hY _ (k : Int) w1 hJ2 (Nat.lt_of_le_of_lt (attackersL_len p s b k) hlt)
       go_simp
       refine hR.mono ?_
       rintro e W3 (⟨rfl, hJ3, hk3⟩ | ⟨rfl, hJx3⟩)
       ·refine hK _ _ ?_; clear hK
        refine iTk 15 ?_
        refine iTk 16 ?_
        refine wpAnyIn_done (by kernel_rfl) ?_ _
        gi_wp2
        go_roundw
        case rel => exact ⟨k + 1, by go_num, by omega, (HC.out.ext hxw).keep hk3, Nat.le_trans hsz hk3.1 |> Nat.le_trans hWr, by rw [attackersL_succ, if_pos HA.out]; exact hJ3⟩
        case measure => simp [intOf]; omega
       ·refine hK _ _ ?_; clear hK
        refine iTk 15 ?_
        refine iTk 16 ?_
        refine wpAnyIn_done (by kernel_rfl) ?_ _
        gi_wp2
        exact bodyPost_ret (results_none rfl _ _ _) rfl ⟨⟨_, rfl⟩, .inr ⟨_, ⟨by simp, attackersL_put p s b k hlt HA.out⟩, hJx3⟩⟩
     ·go_simp; refine hK _ _ ?_; clear hK
      refine iRy [1] (iCo (fun K hK => ?_) AllReadyIn.nil)
      go_simp; refine hK _ _ ?_; clear hK
      refine iTk 3 ?_
      refine iTk 4 ?_
      refine iTk 6 ?_
      refine iRy [5, 8] (iCo (fun K hK => ?_) (iCo (fun K hK => ?_) AllReadyIn.nil))
      ·rw [if_pos (by rfl)]
       refine operIn_load_row (m := 133) Tryz.underlying195 rfl (by kernel_rfl) rfl (HC.out.ext (Ext.auto)).f (by rw [posCells_size]; decide) ?_
       refine hK _ _ ?_; clear hK
       refine iRy [7, 8] (iCo (fun K hK => ?_) (iCo (fun K hK => ?_) AllReadyIn.nil))
       ·go_simp
        refine CallsIn.mono (callsIn_wide.2 (from_any p k _ k0 k1)) ?_
        rintro e w1 ⟨v, rfl, hown, hx⟩
        refine hK _ _ ?_; clear hK
        have hxw : Ext wr w1 := Ext.trans (Ext.auto) hx
        have cs1 : w1.cell? ⟨bs, 0, none⟩ = some (.int .i64 s) := blk_cell (HC.out.ext hxw).s 0
        have hsz := hxw.le
        refine iRy [8] (iCo (fun K hK => ?_) AllReadyIn.nil)
        go_simp; refine hK _ _ ?_; clear hK
        refine iRy [9] (iCo (fun K hK => ?_) AllReadyIn.nil)
        go_simp
        refine CallsIn.mono (callsIn_wide.2 (Contains_sl v _ s _ (Sl.of_own hown) (Nat.le_trans (fromL_len p k) (by decide)))) ?_
        rintro e w2 ⟨rfl, hw2⟩
        obtain rfl : w1 = w2 := hw2.symm
        refine hK _ _ ?_; clear hK
        simp only [hc]
        refine iTk 10 ?_
        refine iTk 11 ?_
        refine iTk 12 ?_
        refine iTk 13 ?_
        refine iRy [14] (iCo (fun K hK => ?_) AllReadyIn.nil)
        have hJ2 : J (attackersL p s b k) w1 := hJ _ _ _ none hJr (Ext.grownNone hxw) (fun r e => by cases e)
        obtain ⟨fn, tmps, assign, body, hy, hR⟩ := hY _ (k : Int) w1 hJ2 (Nat.lt_of_le_of_lt (attackersL_len p s b k) hlt)
        go_simp
        refine hR.mono ?_
        rintro e W3 (⟨rfl, hJ3, hk3⟩ | ⟨rfl, hJx3⟩)
        ·refine hK _ _ ?_; clear hK
         refine iTk 15 ?_
         refine iTk 16 ?_
         refine wpAnyIn_done (by kernel_rfl) ?_ _
         gi_wp2
         go_roundw
         case rel => exact ⟨k + 1, by go_num, by omega, (HC.out.ext hxw).keep hk3, Nat.le_trans hsz hk3.1 |> Nat.le_trans hWr, by rw [attackersL_succ, if_pos HA.out]; exact hJ3⟩
         case measure => simp [intOf]; omega
        ·refine hK _ _ ?_; clear hK
         refine iTk 15 ?_
         refine iTk 16 ?_
         refine wpAnyIn_done (by kernel_rfl) ?_ _
         gi_wp2
         exact bodyPost_ret (results_none rfl _ _ _) rfl ⟨⟨_, rfl⟩, .inr ⟨_, ⟨by simp, attackersL_put p s b k hlt HA.out⟩, hJx3⟩⟩
       ·go_simp; refine hK _ _ ?_; clear hK
        refine iRy [7] (iCo (fun K hK => ?_) AllReadyIn.nil)
        go_simp
        refine CallsIn.mono (callsIn_wide.2 (from_any p k _ k0 k1)) ?_
        rintro e w1 ⟨v, rfl, hown, hx⟩
        refine hK _ _ ?_; clear hK
        have hxw : Ext wr w1 := Ext.trans (Ext.auto) hx
        have cs1 : w1.cell? ⟨bs, 0, none⟩ = some (.int .i64 s) := blk_cell (HC.out.ext hxw).s 0
        have hsz := hxw.le
        refine iRy [9] (iCo (fun K hK => ?_) AllReadyIn.nil)
        go_simp
        refine CallsIn.mono (callsIn_wide.2 (Contains_sl v _ s _ (Sl.of_own hown) (Nat.le_trans (fromL_len p k) (by decide)))) ?_
        rintro e w2 ⟨rfl, hw2⟩
        obtain rfl : w1 = w2 := hw2.symm
        refine hK _ _ ?_; clear hK
        simp only [hc]
        refine iTk 10 ?_
        refine iTk 11 ?_
        refine iTk 12 ?_
        refine iTk 13 ?_
        refine iRy [14] (iCo (fun K hK => ?_) AllReadyIn.nil)
        have hJ2 : J (attackersL p s b k) w1 := hJ _ _ _ none hJr (Ext.grownNone hxw) (fun r e => by cases e)
        obtain ⟨fn, tmps, assign, body, hy, hR⟩ := hY _ (k : Int) w1 hJ2 (Nat.lt_of_le_of_lt (attackersL_len p s b k) hlt)
        go_simp
        refine hR.mono ?_
        rintro e W3 (⟨rfl, hJ3, hk3⟩ | ⟨rfl, hJx3⟩)
        ·refine hK _ _ ?_; clear hK
         refine iTk 15 ?_
         refine iTk 16 ?_
         refine wpAnyIn_done (by kernel_rfl) ?_ _
         gi_wp2
         go_roundw
         case rel => exact ⟨k + 1, by go_num, by omega, (HC.out.ext hxw).keep hk3, Nat.le_trans hsz hk3.1 |> Nat.le_trans hWr, by rw [attackersL_succ, if_pos HA.out]; exact hJ3⟩
         case measure => simp [intOf]; omega
        ·refine hK _ _ ?_; clear hK
         refine iTk 15 ?_
         refine iTk 16 ?_
         refine wpAnyIn_done (by kernel_rfl) ?_ _
         gi_wp2
         exact bodyPost_ret (results_none rfl _ _ _) rfl ⟨⟨_, rfl⟩, .inr ⟨_, ⟨by simp, attackersL_put p s b k hlt HA.out⟩, hJx3⟩⟩
      ·go_simp; refine hK _ _ ?_; clear hK
       refine iRy [5] (iCo (fun K hK => ?_) AllReadyIn.nil)
       rw [if_pos (by rfl)]
       refine operIn_load_row (m := 133) Tryz.underlying195 rfl (by kernel_rfl) rfl (HC.out.ext (Ext.auto)).f (by rw [posCells_size]; decide) ?_
       refine hK _ _ ?_; clear hK
       refine iRy [7] (iCo (fun K hK => ?_) AllReadyIn.nil)
       go_simp
       refine CallsIn.mono (callsIn_wide.2 (from_any p k _ k0 k1)) ?_
       rintro e w1 ⟨v, rfl, hown, hx⟩
       refine hK _ _ ?_; clear hK
       have hxw : Ext wr w1 := Ext.trans (Ext.auto) hx
       have cs1 : w1.cell? ⟨bs, 0, none⟩ = some (.int .i64 s) := blk_cell (HC.out.ext hxw).s 0
       have hsz := hxw.le
       refine iRy [9] (iCo (fun K hK => ?_) AllReadyIn.nil)
       go_simp
       refine CallsIn.mono (callsIn_wide.2 (Contains_sl v _ s _ (Sl.of_own hown) (Nat.le_trans (fromL_len p k) (by decide)))) ?_
       rintro e w2 ⟨rfl, hw2⟩
       obtain rfl : w1 = w2 := hw2.symm
       refine hK _ _ ?_; clear hK
       simp only [hc]
       refine iTk 10 ?_
       refine iTk 11 ?_
       refine iTk 12 ?_
       refine iTk 13 ?_
       refine iRy [14] (iCo (fun K hK => ?_) AllReadyIn.nil)
       have hJ2 : J (attackersL p s b k) w1 := hJ _ _ _ none hJr (Ext.grownNone hxw) (fun r e => by cases e)
       obtain ⟨fn, tmps, assign, body, hy, hR⟩ := hY _ (k : Int) w1 hJ2 (Nat.lt_of_le_of_lt (attackersL_len p s b k) hlt)
       go_simp
       refine hR.mono ?_
       rintro e W3 (⟨rfl, hJ3, hk3⟩ | ⟨rfl, hJx3⟩)
       ·refine hK _ _ ?_; clear hK
        refine iTk 15 ?_
        refine iTk 16 ?_
        refine wpAnyIn_done (by kernel_rfl) ?_ _
        gi_wp2
        go_roundw
        case rel => exact ⟨k + 1, by go_num, by omega, (HC.out.ext hxw).keep hk3, Nat.le_trans hsz hk3.1 |> Nat.le_trans hWr, by rw [attackersL_succ, if_pos HA.out]; exact hJ3⟩
        case measure => simp [intOf]; omega
       ·refine hK _ _ ?_; clear hK
        refine iTk 15 ?_
        refine iTk 16 ?_
        refine wpAnyIn_done (by kernel_rfl) ?_ _
        gi_wp2
        exact bodyPost_ret (results_none rfl _ _ _) rfl ⟨⟨_, rfl⟩, .inr ⟨_, ⟨by simp, attackersL_put p s b k hlt HA.out⟩, hJx3⟩⟩
   ·have hs2 : (p.side k == b) = false := by simp [hs]
    gi_wp2
    refine wpIn_region_drew (by kernel_rfl) ?_
    refine iTk 0 ?_
    refine iRy [1, 2] (iCo (fun K hK => ?_) (iCo (fun K hK => ?_) AllReadyIn.nil))
    ·go_simp; refine hK _ _ ?_; clear hK
     refine iRy [2] (iCo (fun K hK => ?_) AllReadyIn.nil)
     go_simp; refine hK _ _ ?_; clear hK
     refine iTk 3 ?_
     refine iTk 4 ?_
     refine iSk 5 ?_
     refine iSk 6 ?_
     refine iSk 8 ?_
     refine iRy [7] (iCo (fun K hK => ?_) AllReadyIn.nil)
     go_simp; refine hK _ _ ?_; clear hK
     refine iRy [9] (iCo (fun K hK => ?_) AllReadyIn.nil)
     go_simp; refine hK _ _ ?_; clear hK
     refine iTk 10 ?_
     refine iTk 11 ?_
     refine iSk 12 ?_
     refine iSk 13 ?_
     refine iRy [14] (iCo (fun K hK => ?_) AllReadyIn.nil)
     go_simp; refine hK _ _ ?_; clear hK
     refine iSk 15 ?_
     refine iTk 16 ?_
     refine wpAnyIn_done (by kernel_rfl) ?_ _
     gi_wp2
     go_roundw
     case rel => exact ⟨k + 1, by go_num, by omega, HC.out.ext (Ext.auto), by simp; omega, by rw [attackersL_succ, if_neg (by simp [attacksB, hs])]; simpa using hJ _ _ _ none hJr (Ext.grownNone (Ext.auto)) (fun r e => by cases e)⟩
     case measure => simp [intOf]; omega
    ·go_simp; refine hK _ _ ?_; clear hK
     refine iRy [1] (iCo (fun K hK => ?_) AllReadyIn.nil)
     go_simp; refine hK _ _ ?_; clear hK
     refine iTk 3 ?_
     refine iTk 4 ?_
     refine iSk 5 ?_
     refine iSk 6 ?_
     refine iSk 8 ?_
     refine iRy [7] (iCo (fun K hK => ?_) AllReadyIn.nil)
     go_simp; refine hK _ _ ?_; clear hK
     refine iRy [9] (iCo (fun K hK => ?_) AllReadyIn.nil)
     go_simp; refine hK _ _ ?_; clear hK
     refine iTk 10 ?_
     refine iTk 11 ?_
     refine iSk 12 ?_
     refine iSk 13 ?_
     refine iRy [14] (iCo (fun K hK => ?_) AllReadyIn.nil)
     go_simp; refine hK _ _ ?_; clear hK
     refine iSk 15 ?_
     refine iTk 16 ?_
     refine wpAnyIn_done (by kernel_rfl) ?_ _
     gi_wp2
     go_roundw
     case rel => exact ⟨k + 1, by go_num, by omega, HC.out.ext (Ext.auto), by simp; omega, by rw [attackersL_succ, if_neg (by simp [attacksB, hs])]; simpa using hJ _ _ _ none hJr (Ext.grownNone (Ext.auto)) (fun r e => by cases e)⟩
     case measure => simp [intOf]; omega
  ·gi_wp2
   obtain rfl : k = 64 := by omega
   go_end0
   exact ⟨⟨_, rfl⟩, .inl ⟨_, rfl, hJr⟩⟩
end Go.Proofs.YtdmgimfgoajmjaaGreatDoor
namespace Go.Proofs.YtdmgimfgoajmjaaGreatDoor
open Go.RowKit
def iterV (bf bb bs : Nat) : Value := .func (.func 173) #[] #[.pointer (some ⟨bf, 0, none⟩), .pointer (some ⟨bb, 0, none⟩), .pointer (some ⟨bs, 0, none⟩)]
theorem attackers_any (p : Pos) (s b : Int) (w : World) : Calls Tryz.prog 152 #[.agg (posCells p), .int .i64 s, .int .i64 b] w fun e w' =>
 e = .returned (iterV w.heap.size (w.heap.size + 2) (w.heap.size + 1)) ∧ Ext w w' ∧ Caught p s b w.heap.size (w.heap.size + 2) (w.heap.size + 1) w' := by
 go_enter Tryz.func152, Tryz.ntmps152
 go_wp2
 go_ret
 exact ⟨rfl, (Ext.auto), ⟨by simp [go_sem], by simp [go_sem], by simp [go_sem]⟩⟩
theorem attackers_stops (n : Nat) (hn : 1 ≤ n) (p : Pos) (s b : Int) (bf bb bs : Nat) (w : World) (hC : Caught p s b bf bb bs w) :
 SeqStopsK Fence.wide n Tryz.prog 173 #[.pointer (some ⟨bf, 0, none⟩), .pointer (some ⟨bb, 0, none⟩), .pointer (some ⟨bs, 0, none⟩)] (fun x : Int => #[.int .i64 x]) (KeepB bf bb bs)
  (fun xs => xs = attackersL p s b 64) (fun pre => pre ≠ [] ∧ pre <+: attackersL p s b 64) 64 w := fun l J Jx W hW hJ _ hY h0 =>
 attackers_in n hn l p s b bf bb bs J Jx hY W hJ ⟨(hW.block _ (blk_lt hC.f)).trans hC.f, (hW.block _ (blk_lt hC.b)).trans hC.b, (hW.block _ (blk_lt hC.s)).trans hC.s⟩ h0
def markOf (D : Nat) : Deferred := { target := .collected D, args := #[] }
structure Marks (n0 : Nat) (l : List Nat) (w : World) : Prop where
 nd : l.Nodup
 ge : ∀ D ∈ l, n0 ≤ D
 open_ : ∀ D ∈ l, w.heap[D]? = some (.deferred (some []))
theorem leaves_marks {fn : Func} {tmps : Array Value} {P : Program} {R : Ending → World → Prop} {n n0 : Nat} : ∀ (l : List Nat) (w : World), Marks n0 l w →
 (∀ w', Below n0 w w' → LeavesIn Fence.wide n P fn tmps R [] .returning w') → LeavesInM Fence.wide n P fn tmps R (l.map markOf) .returning w
 | [], w, _, h => h w (Below.refl _ _)
 | D :: l, w, hm, h => by
   have hD := hm.open_ D (by simp)
   refine ⟨by simp, .inl ⟨D, w.putObj D (.deferred none), rfl, run_takeDeferred hD, leaves_marks l _ ⟨(List.nodup_cons.1 hm.nd).2, fun E hE => hm.ge E (by simp [hE]), fun E hE => ?_⟩ fun w' hw' => h w' (Below.trans ?_ hw')⟩⟩
   ·have hne : E ≠ D := fun e => (List.nodup_cons.1 hm.nd).1 (e ▸ hE)
    rw [World.putObj_heap_other hne]; exact hm.open_ E (by simp [hE])
   ·have hg := grownBy_putObj' w D (.deferred none)
    exact ⟨hg.os, hg.tape, hg.output, hg.size, fun k hk => hg.block k (by have := (Array.getElem?_eq_some_iff.1 hD).1; have := hm.ge D (by simp); omega) (fun e => by have := hm.ge D (by simp); have e2 := Option.some.inj e; omega)⟩
theorem Marks.below {n0 : Nat} {l : List Nat} {w w' : World} (h : Marks n0 l w) (hx : Ext w w') : Marks n0 l w' :=
 ⟨h.nd, h.ge, fun D hD => (hx.block D (Array.getElem?_eq_some_iff.1 (h.open_ D hD)).1).trans (h.open_ D hD)⟩
theorem Marks.grown {n0 r : Nat} {l : List Nat} {w w' : World} (h : Marks n0 l w) (hx : w.grownBy w' (some r)) (hr : r < n0) : Marks n0 l w' :=
 ⟨h.nd, h.ge, fun D hD => (hx.block D (Array.getElem?_eq_some_iff.1 (h.open_ D hD)).1 (fun e => by have := h.ge D hD; have e2 := Option.some.inj e; omega)).trans (h.open_ D hD)⟩
theorem Marks.cons {n0 D : Nat} {l : List Nat} {w : World} (h : Marks n0 l w) (hD : n0 ≤ D) (hn : D ∉ l) (ho : w.heap[D]? = some (.deferred (some []))) : Marks n0 (D :: l) w :=
 ⟨List.nodup_cons.2 ⟨hn, h.nd⟩, fun E hE => (List.mem_cons.1 hE).elim (fun e => by rw [e]; exact hD) (h.ge E), fun E hE => (List.mem_cons.1 hE).elim (fun e => by rw [e]; exact ho) (h.open_ E)⟩
theorem KeepB.trans {bf bb bs : Nat} {A B C : World} (h : KeepB bf bb bs A B) (k : KeepB bf bb bs B C) : KeepB bf bb bs A C := ⟨Nat.le_trans h.1 k.1, k.2.1.trans h.2.1, k.2.2.1.trans h.2.2.1, k.2.2.2.trans h.2.2.2⟩
theorem KeepB.put {p : Pos} {s b : Int} {bf bb bs : Nat} {w : World} (hC : Caught p s b bf bb bs w) (W : World) (l : Nat) (o o' : Obj) (hl : w.heap.size ≤ l) (_ : W.heap[l]? = some o) (_ : o.isCells = false) (_ : o.isWalk = false) : KeepB bf bb bs W (W.putObj l o') := by
 have h1 := blk_lt hC.f
 have h2 := blk_lt hC.b
 have h3 := blk_lt hC.s
 exact ⟨(grownBy_putObj' W l o').size, World.putObj_heap_other (by omega), World.putObj_heap_other (by omega), World.putObj_heap_other (by omega)⟩
def attacked (p : Pos) (b : Int) (l : List Int) : Bool := l.any fun s => !(attackersL p s b 64).isEmpty
theorem attackIs_any (p : Pos) (b : Int) (L : List Int) (v : Value) (w : World) (hS : Sl w 1 v L.length (ints L)) (hn : L.length ≤ 1000000) :
 Calls Tryz.prog 103 #[.agg (posCells p), .int .i64 b, v] w (Ret (.bool (attacked p b L)) w) := by
 obtain ⟨a, cap, rfl⟩ := hS.form
 have HS := hid hS
 clear hS
 refine (callsIn_wide (n := 5)).1 (callsIn_of_wp_marks Tryz.func103 rfl trivial ?_ rfl)
 simp only [Tryz.ntmps103, List.size_toArray, List.length_cons, List.length_nil, Nat.reduceAdd, Nat.reduceSub, Array.replicate_succ, Array.replicate_zero, List.push_toArray, List.append_toArray, List.nil_append, List.cons_append]
 refine wpIn_wide.2 ?_
 go_wp2
 obtain ⟨W0, hW0⟩ : ∃ W0, W0 = ((w.alloc (.cells (posCells p) 30)).alloc (.cells #[.bool false] 4)).alloc (.cells (posCells p) 195) := ⟨_, rfl⟩
 have hsz : W0.heap.size = w.heap.size + 3 := by rw [hW0]; simp
 have hbf : blk W0 (w.heap.size + 1 + 1) = some (.cells (posCells p) 195 (0, 0)) := by rw [hW0]; simp [go_sem]
 have hbr : blk W0 (w.heap.size + 1) = some (.cells #[.bool false] 4 (0, 0)) := by rw [hW0]; simp [go_sem]
 have hEx : Ext w W0 := by rw [hW0]; exact (Ext.auto)
 rw [← hW0]
 clear hW0
 refine wp_loop (fun a' w' => ∃ (k : Nat) (l : List Nat) (u9 u15 u16 u17 u18 u19 u20 u21 u22 u23 : Value), a' = { tmps := #[.agg (posCells p), .int .i64 b, .slice a L.length cap, .pointer (some ⟨w.heap.size, 0, none⟩), undef, undef, .pointer (some ⟨w.heap.size + 1, 0, none⟩), .pointer (some ⟨w.heap.size + 1 + 1, 0, none⟩), undef, u9, .agg (posCells p), .agg (posCells p), .slice a L.length cap, .int .i64 (L.length : Int), .int .i64 (k : Int), u15, u16, u17, u18, u19, u20, u21, u22, u23], defers := l.map markOf } ∧ k ≤ L.length ∧ (∀ s ∈ L.take k, attackersL p s b 64 = []) ∧ Ext W0 w' ∧ Marks W0.heap.size l w') (fun a' _ => L.length - (intOf (a'.tmps.getD 14 undef)).toNat) ?h0 ?round
 case h0 => exact ⟨0, [], _, _, _, _, _, _, _, _, _, _, rfl, by omega, by simp, Ext.refl _, ⟨by simp, by simp, by simp⟩⟩
 case round =>
  rintro a' w' ⟨k, l, u9, u15, u16, u17, u18, u19, u20, u21, u22, u23, rfl, hk, hnone, hx, hm⟩
  by_cases hlt : k < L.length
  ·obtain ⟨bL, oL, rfl, hbL, hcL⟩ := ((HS.out.ext hEx).ext hx).pos (by omega)
   obtain ⟨s, hs⟩ : ∃ s, L[k]? = some s := ⟨_, List.getElem?_eq_getElem hlt⟩
   have cL := hcL k _ (ints_get hs)
   have hbf1 := (hx.blk _ (blk_lt hbf)).trans hbf
   have HM := hid hm
   have HN := hid hnone
   have HSK := hid hs
   clear hcL hm hnone hs
   go_wp2_with (go_at_call 152; (with_reducible refine (attackers_any _ _ _ _).mono ?_); rintro e w1 ⟨rfl, hx1, hC⟩)
   have hx2 := hx.trans hx1
   have hm1 := HM.out.below hx1
   have hbr1 := (hx2.blk _ (blk_lt hbr)).trans hbr
   have hlw := hx2.le
   refine (wpIn_wide (n := 5)).1 ?_
   refine wpIn_rangeFunc_ownF rfl (by decide) (gf := 173) (lb := #[.pointer (some ⟨w'.heap.size, 0, none⟩), .pointer (some ⟨w'.heap.size + 2, 0, none⟩), .pointer (some ⟨w'.heap.size + 1, 0, none⟩)]) rfl trivial (enters_of Tryz.func173 (by kernel_rfl) rfl)
    (attackers_stops 4 (by decide) p s b _ _ _ w1 hC) KeepB.trans (KeepB.put hC) (Below.refl _ _) (fun _ => rfl)
    (fun pre W => pre = [] ∧ Below w1.heap.size w1 W) (fun c pre W => c = .ret ∧ Below w.heap.size w W ∧ W.cell? ⟨w.heap.size + 1, 0, none⟩ = some (.bool true) ∧ Marks W0.heap.size l W)
    (OwnFrom.and (ownFrom_pure _ _) (ownFrom_below (Nat.le_refl _) (Nat.le_refl _))) (fun c => ?ownx) ⟨rfl, Below.refl _ _⟩
    (fun x => { tmps := #[.agg (posCells p), .int .i64 b, .slice (some ⟨bL, oL, none⟩) L.length cap, .pointer (some ⟨w.heap.size, 0, none⟩), undef, undef, .pointer (some ⟨w.heap.size + 1, 0, none⟩), .pointer (some ⟨w.heap.size + 1 + 1, 0, none⟩), undef, .int .i64 s, .agg (posCells p), .agg (posCells p), .slice (some ⟨bL, oL, none⟩) L.length cap, .int .i64 (L.length : Int), .int .i64 (k : Int), .bool true, .pointer (some ⟨bL, oL + k, none⟩), .int .i64 s, .agg (posCells p), .int .i64 s, .int .i64 b, iterV w'.heap.size (w'.heap.size + 2) (w'.heap.size + 1), .int .i64 x, u23], defers := [] }) ?assign ?body ?done ?stop
   case ownx =>
    rintro pre A B row ⟨hc, hb, hcc, hmm⟩ hg hr
    refine ⟨hc, hb.grown hg hb.size (fun r e => by have := (hr r e).1; omega), cell_kept hcc hg (fun r e => (hr r e).2), hmm.nd, hmm.ge, fun D hD => ?_⟩
    have hlt1 := (Array.getElem?_eq_some_iff.1 (hm1.open_ D hD)).1
    exact (hg.block D (Array.getElem?_eq_some_iff.1 (hmm.open_ D hD)).1 (fun e => by have := (hr D e.symm).1; omega)).trans (hmm.open_ D hD)
   case assign =>
    intro l0 x W K hK
    gi_wp2
    first | exact hK | (go_simp; exact hK) | (simpa using hK)
   case body =>
    rintro l0 pre x W ⟨rfl, hB⟩ _
    have hbr2 : blk W (w.heap.size + 1) = _ := (hB.block _ (blk_lt hbr1)).trans hbr1
    have hcr := blk_cell hbr2 0
    have hfr := blk_froz hbr2 0
    simp only [List.getElem?_toArray, List.getElem?_cons_zero] at hcr
    have HB := hid hB
    clear hB hbr2
    gi_wp2_with (rw [Oper.semAt_eq _ _ _ (fun c h => by cases h)]; go_simp)
    exact ⟨KeepsOthers.setCell _ _ _, rfl, Ext.set (hEx.trans (hx2.trans HB.out)) (by simp) _, World.cell?_setCell_same' _ _ _ (by rw [hcr]; rfl), (hm1.below HB.out).grown (grownBy_setCell' W (w.heap.size + 1) (.bool true)) (by omega)⟩
   case done =>
    rintro D xs W hD hxs ⟨hxs0, hB⟩ hKD
    have hmW := hm1.below hB
    have HE := hid (show attackersL p s b 64 = [] by rw [← hxs, hxs0])
    have hWx := hx2.trans hB
    clear hxs hxs0
    have hlD : D ∉ l := fun hl => by have := (Array.getElem?_eq_some_iff.1 (hm1.open_ D hl)).1; omega
    have HM2 := hid (hmW.cons (show W0.heap.size ≤ D by omega) hlD hKD)
    have hN2 : ∀ s' ∈ L.take (k + 1), attackersL p s' b 64 = [] := by
     intro s' hs'
     rw [List.take_add_one, HSK.out] at hs'
     rcases List.mem_append.1 hs' with h | h
     ·exact HN.out s' h
     ·simp at h; rw [h]; exact HE.out
    have HN2 := hid hN2
    clear hmW hN2 hKD
    go_wp2
    refine ⟨⟨k + 1, D :: l, _, _, _, _, _, _, _, _, _, _, rfl, by omega, HN2.out, hWx, HM2.out⟩, ?_⟩
    simp [intOf]; omega
   case stop =>
    rintro D c pre W hD ⟨hne, hpre⟩ ⟨rfl, hB, hcr, hmm⟩ hKD
    have hlD : D ∉ l := fun hl => by have := (Array.getElem?_eq_some_iff.1 (hm1.open_ D hl)).1; omega
    have hA : attacked p b L = true := by
     have hsm : s ∈ L := List.mem_of_getElem? HSK.out
     unfold attacked
     rw [List.any_eq_true]
     refine ⟨s, hsm, ?_⟩
     cases hE : attackersL p s b 64 with
     | nil => rw [hE] at hpre; exact absurd (List.prefix_nil.1 hpre) hne
     | cons x r => rfl
    have hM2 : Marks W0.heap.size (D :: l) W := hmm.cons (by omega) hlD hKD
    gi_wp2
    refine leaves_marks (D :: l) W hM2 fun w'' hw'' => ?_
    have hc5 : w''.cell? ⟨w.heap.size + 1, 0, none⟩ = some (.bool true) := (World.cell?_of_block (hw''.block _ (by simp; omega))).trans hcr
    refine ⟨.bool true, ?_, ?_⟩
    ·simp [results, Tryz.f103, go_sem, hc5]
    ·rw [hA]; exact ⟨rfl, hB.trans (hw''.mono (by omega))⟩
  ·obtain rfl : k = L.length := by omega
   have hbr1 := (hx.blk _ (blk_lt hbr)).trans hbr
   have hcr := blk_cell hbr1 0
   have hfr := blk_froz hbr1 0
   simp only [List.getElem?_toArray, List.getElem?_cons_zero] at hcr
   have hA : attacked p b L = false := by
    unfold attacked
    rw [List.any_eq_false]
    intro s hs
    rw [hnone s (by rw [List.take_length]; exact hs)]; simp
   have HM := hid hm
   clear hm hnone
   go_wp2
   refine leaves_marks l _ (HM.out.grown (grownBy_setCell' w' (w.heap.size + 1) (.bool false)) (by omega)) fun w'' hw'' => ?_
   have hc5 : w''.cell? ⟨w.heap.size + 1, 0, none⟩ = some (.bool false) := (World.cell?_of_block (hw''.block _ (by simp; omega))).trans (World.cell?_setCell_same' _ _ _ (by rw [hcr]; rfl))
   refine ⟨.bool false, ?_, ?_⟩
   ·simp [results, Tryz.f103, go_sem, hc5]
   ·rw [hA]; exact ⟨rfl, Below.trans (B := w.heap.size) (Ext.set (hEx.trans hx) (by simp) _) (hw''.mono (by omega))⟩
def checkB (p : Pos) (s : Int) : Bool := if s = 0 ∨ s = 1 then attacked p (otherOf s) (findL p 6 s 64) else false
theorem Check_any (p : Pos) (s : Int) (w : World) : Calls Tryz.prog 67 #[.agg (posCells p), .int .i64 s] w (Ret (.bool (checkB p s)) w) := by
 by_cases hs : s = 0 ∨ s = 1
 ·have HE := hid (show checkB p s = attacked p (otherOf s) (findL p 6 s 64) by unfold checkB; rw [if_pos hs])
  have hlen : (findL p 6 s 64).length ≤ 1000000 := Nat.le_trans (findL_len p 6 s 64) (by decide)
  rcases hs with rfl | rfl
  ·generalize hF : findL p 6 0 64 = F at *
   have HF := hid hF
   have hFind := fun w => Find_any p 6 0 w
   rw [hF] at hFind
   clear hF
   go_enter Tryz.func67, Tryz.ntmps67
   go_wp2
   go_region_held3 (fun w' => blk w' (w.heap.size) = some (.cells (posCells p) 30 (0, 0)) ∧ (∀ o, w'.cell? ⟨w.heap.size, o, none⟩ = (posCells p)[o]?) ∧ Ext w w') (first | exact held_keep (by assumption) (by assumption) | (refine held3 ?_ (Ext.auto); go_simp)) (first | (go_at_call 68; (with_reducible refine (Other_any _ _).mono ?_); rintro e w1 ⟨rfl, hx⟩) | (go_at_call 104; (with_reducible refine (hFind _).mono ?_); rintro e w1 ⟨v1, rfl, hown1, hx⟩) | (go_at_call 103; (with_reducible refine (attackIs_any _ _ F _ _ (Sl.of_own hown1) hlen).mono ?_); rintro e w1 ⟨rfl, hx⟩))
   go_wp2
   go_ret
   exact Ret.mk' (by rw [HE.out]; rfl) (Ext.auto)
  ·generalize hF : findL p 6 1 64 = F at *
   have HF := hid hF
   have hFind := fun w => Find_any p 6 1 w
   rw [hF] at hFind
   clear hF
   go_enter Tryz.func67, Tryz.ntmps67
   go_wp2
   go_region_held3 (fun w' => blk w' (w.heap.size) = some (.cells (posCells p) 30 (0, 0)) ∧ (∀ o, w'.cell? ⟨w.heap.size, o, none⟩ = (posCells p)[o]?) ∧ Ext w w') (first | exact held_keep (by assumption) (by assumption) | (refine held3 ?_ (Ext.auto); go_simp)) (first | (go_at_call 68; (with_reducible refine (Other_any _ _).mono ?_); rintro e w1 ⟨rfl, hx⟩) | (go_at_call 104; (with_reducible refine (hFind _).mono ?_); rintro e w1 ⟨v1, rfl, hown1, hx⟩) | (go_at_call 103; (with_reducible refine (attackIs_any _ _ F _ _ (Sl.of_own hown1) hlen).mono ?_); rintro e w1 ⟨rfl, hx⟩))
   go_wp2
   go_ret
   exact Ret.mk' (by rw [HE.out]; rfl) (Ext.auto)
 ·have HE := hid (show checkB p s = false by unfold checkB; rw [if_neg hs])
  have h0 : s ≠ 0 := fun h => hs (.inl h)
  have h1 : s ≠ 1 := fun h => hs (.inr h)
  have e0 : (s != 0) = true := by simp [h0]
  have e1 : (s != 1) = true := by simp [h1]
  clear hs
  go_enter Tryz.func67, Tryz.ntmps67
  go_wp2
  go_ret
  exact Ret.mk' (by rw [HE.out]; rfl) (Ext.auto)
end Go.Proofs.YtdmgimfgoajmjaaGreatDoor
