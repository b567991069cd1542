/- The squares of a piece. -/
import Derived.Test.YtdmgimfgoajmjaaGreatDoorC07
import Derived.Test.YtdmgimfgoajmjaaGreatDoorC04
import Derived.Lib.AppendZeros
import Derived.ArgAppend
import Derived.Lib.AppendStr
import Derived.Lib.UnsafeStr
import Derived.Lib.Builder
import Derived.Deep.CutBlock
import Derived.Shelf.RegionOpenPlain
import Derived.Test.YtdmgimfgoajmjaaGreatDoorC02
import Derived.Test.YtdmgimfgoajmjaaGreatDoorC03
set_option linter.unusedVariables false
set_option linter.unusedSimpArgs false
set_option maxRecDepth 100000
set_option maxHeartbeats 2000000
namespace Go.Proofs.YtdmgimfgoajmjaaGreatDoor
open Go.RowKit
def ints (l : List Int) : List Value := l.map (Value.int .i64)
theorem ints_append (l m : List Int) : ints (l ++ m) = ints l ++ ints m := by simp [ints]
def RetInts (l : List Int) (w : World) (e : Ending) (w' : World) : Prop := ∃ v, e = .returned v ∧ w'.ownsRow w.heap.size 3 1 v l.length (ints l) ∧ Ext w w'
theorem RetInts.mk' {l : List Int} {v : Value} {w w' : World} {base n : Nat} {cs : List Value} (h : w'.ownsRow base 3 1 v n cs) (hn : n = l.length) (hc : cs = ints l) (hb : w.heap.size ≤ base) (hx : Ext w w') : RetInts l w (.returned v) w' :=
 ⟨v, rfl, by subst hn; subst hc; exact own_base h hb, hx⟩
def findL (p : Pos) (k s : Int) (n : Nat) : List Int := ((List.range n).filter fun i => k == p.kind i && s == p.side i).map (Nat.cast : Nat → Int)
theorem findL_succ (p : Pos) (k s : Int) (n : Nat) : findL p k s (n + 1) = findL p k s n ++ if (k == p.kind n && s == p.side n) = true then [(n : Int)] else [] := by
 unfold findL
 rw [List.range_succ, List.filter_append, List.map_append]
 congr 1
 simp only [List.filter_cons, List.filter_nil]
 split <;> simp
theorem findL_len (p : Pos) (k s : Int) (n : Nat) : (findL p k s n).length ≤ n := by
 unfold findL
 rw [List.length_map]
 exact Nat.le_trans (List.length_filter_le _ _) (by simp)
structure FindAt (p : Pos) (kd sd : Int) (W0 : World) (k : Nat) (v : Value) (wr : World) : Prop where
 le : k ≤ 64
 own : wr.ownsRow W0.heap.size 3 1 v (findL p kd sd k).length (ints (findL p kd sd k))
 x : Ext W0 wr
theorem FindAt.no {p : Pos} {kd sd : Int} {W0 wr wr' : World} {k : Nat} {v : Value} (h : FindAt p kd sd W0 k v wr) (hlt : k < 64) (hne : (kd == p.kind k && sd == p.side k) = false) (hx : Ext wr wr') : FindAt p kd sd W0 (k + 1) v wr' := by
 have e : findL p kd sd (k + 1) = findL p kd sd k := by rw [findL_succ, hne]; simp
 exact ⟨by omega, by rw [e]; exact own_ext h.own hx, h.x.trans hx⟩
theorem FindAt.yes {p : Pos} {kd sd : Int} {W0 wr w1 wr' : World} {k : Nat} {v v' : Value} (h : FindAt p kd sd W0 k v wr) (hlt : k < 64) (he : (kd == p.kind k && sd == p.side k) = true) (hx : Ext wr w1)
 (ho : wr'.ownsRow W0.heap.size 3 1 v' ((findL p kd sd k).length + 1) (ints (findL p kd sd k) ++ [.int .i64 (k : Int)])) (hg : w1.grownBy wr' v.ownBlock) : FindAt p kd sd W0 (k + 1) v' wr' := by
 have e : findL p kd sd (k + 1) = findL p kd sd k ++ [(k : Int)] := by rw [findL_succ, if_pos he]
 exact ⟨by omega, by rw [e, ints_append, List.length_append]; exact ho, (h.x.trans hx).grown (own_ext h.own hx) hg⟩
theorem Find_any (p : Pos) (kd sd : Int) (w : World) : Calls Tryz.prog 104 #[.agg (posCells p), .agg #[.int .i64 kd, .int .i64 sd]] w (RetInts (findL p kd sd 64) w) := by
 go_enter Tryz.func104, Tryz.ntmps104
 go_wp2
 obtain ⟨W0, hW0⟩ : ∃ W0, W0 = (w.alloc (.cells (posCells p) 30)).alloc (.cells #[.int .i64 kd, .int .i64 sd] 26) := ⟨_, rfl⟩
 have hsz : W0.heap.size = w.heap.size + 2 := by rw [hW0]; simp
 have hbx : blk W0 (w.heap.size + 1) = some (.cells #[.int .i64 kd, .int .i64 sd] 26 (0, 0)) := by rw [hW0]; simp [go_sem]
 have hEx : Ext w W0 := by rw [hW0]; exact (Ext.auto)
 rw [← hW0]
 have HW := hid hW0
 have HSZ := hid hsz
 have hs1 : w.heap.size + 1 < W0.heap.size := by omega
 clear hW0 hsz
 go_loopw [4, 9] (fun v i wr => ∃ k : Nat, i = .int .i64 k ∧ FindAt p kd sd W0 k v wr) (fun _ i _ => 64 - (intOf i).toNat)
 case atStart => exact ⟨0, rfl, by omega, by exact World.ownsRow_nil _ _ _ _, Ext.refl _⟩
 case round =>
  obtain ⟨k, rfl, hk⟩ := hrel
  have hcx := blk_cell ((hk.x.blk _ hs1).trans hbx)
  have hs2 : w.heap.size + 1 < wr.heap.size := Nat.lt_of_lt_of_le hs1 hk.x.le
  have hown := hk.own
  have hxw := hk.x
  have hle := hk.x.le
  have hlen := findL_len p kd sd k
  have HK := hid hk
  clear hk hbx
  by_cases hlt : k < 64
  ·cases hE : (kd == p.kind k && sd == p.side k)
   ·have HE := hid hE
    go_wp2
    go_roundw
    case rel => exact ⟨k + 1, by go_num, HK.out.no hlt HE.out (Ext.auto)⟩
    case measure => simp [intOf]; omega
   ·have HE := hid hE
    go_wp2_with (at_builtin; refine wpList_append_int rfl _ _ rfl (W0.heap.size) u4 ((findL p kd sd k).length) (ints (findL p kd sd k)) rfl ?c0 _ (.int .i64 (k : Int)) rfl rfl ?c1 ?c2 ?c3 (fun v' w1 hown1 hg1 => ?_))
    case c0 => exact own_auto
    case c1 => simp [go_sem]
    case c2 => omega
    case c3 => simp; omega
    go_roundw
    case rel => exact ⟨k + 1, by go_num, HK.out.yes hlt HE.out (Ext.auto) hown1 hg1⟩
    case measure => simp [intOf]; omega
  ·obtain rfl : k = 64 := by have := HK.out.le; omega
   go_wp2
   go_ret
   exact RetInts.mk' hown rfl rfl (by omega) (hEx.trans hxw)
theorem Sl.form {w : World} {size n : Nat} {v : Value} {cs : List Value} (h : Sl w size v n cs) : ∃ a cap, v = .slice a n cap := by
 rcases h.2 with ⟨rfl, rfl⟩ | ⟨b, off, cap, rfl, _⟩
 ·exact ⟨_, _, rfl⟩
 ·exact ⟨_, _, rfl⟩
theorem Sl.pos {w : World} {size n cap : Nat} {a : Option Addr} {cs : List Value} (h : Sl w size (.slice a n cap) n cs) (hn : 0 < n) : ∃ b off, a = some ⟨b, off, none⟩ ∧ b < w.heap.size ∧ ∀ j u, cs[j]? = some u → w.cell? ⟨b, off + j, none⟩ = some u := by
 rcases h.2 with ⟨_, h0⟩ | ⟨b, off, cap', he, hb, hc⟩
 ·omega
 ·simp only [Value.slice.injEq] at he
  exact ⟨b, off, he.1, hb, hc⟩
def pairs (l : List (Int × Int)) : List Value := l.flatMap fun x => [.int .i64 x.1, .int .i64 x.2]
theorem pairs_get (l : List (Int × Int)) (k : Nat) (x : Int × Int) (h : l[k]? = some x) : (pairs l)[k * 2]? = some (.int .i64 x.1) ∧ (pairs l)[k * 2 + 1]? = some (.int .i64 x.2) := by
 induction l generalizing k with
 | nil => simp at h
 | cons y r ih =>
   cases k with
   | zero => simp only [List.getElem?_cons_zero, Option.some.injEq] at h; subst h; simp [pairs]
   | succ k =>
     simp only [List.getElem?_cons_succ] at h
     have := ih k h
     have e1 : (k + 1) * 2 = k * 2 + 1 + 1 := by omega
     have e2 : (k + 1) * 2 + 1 = k * 2 + 1 + 1 + 1 := by omega
     simp only [pairs, List.flatMap_cons, List.cons_append, List.nil_append] at *
     rw [e1]
     simp only [List.getElem?_cons_succ]
     exact this
def stepsB (l : List (Int × Int)) : Prop := ∀ x ∈ l, -7 ≤ x.1 ∧ x.1 ≤ 7 ∧ -7 ≤ x.2 ∧ x.2 ≤ 7
def ringL (s : Int) (l : List (Int × Int)) : List Int := (l.map fun x => stepOf s x.1 x.2).filter fun t => t != -1
theorem ringL_succ (s : Int) (l : List (Int × Int)) (k : Nat) (x : Int × Int) (h : l[k]? = some x) : ringL s (l.take (k + 1)) = ringL s (l.take k) ++ if (stepOf s x.1 x.2 != -1) = true then [stepOf s x.1 x.2] else [] := by
 have : l.take (k + 1) = l.take k ++ [x] := by rw [List.take_add_one, h]; rfl
 rw [this]
 simp only [ringL, List.map_append, List.filter_append, List.map_cons, List.map_nil, List.filter_cons, List.filter_nil]
theorem ringL_len (s : Int) (l : List (Int × Int)) : (ringL s l).length ≤ l.length := by
 unfold ringL
 exact Nat.le_trans (List.length_filter_le _ _) (by simp)
structure RingAt (s : Int) (l : List (Int × Int)) (W0 : World) (k : Nat) (v : Value) (wr : World) : Prop where
 le : k ≤ l.length
 own : wr.ownsRow W0.heap.size 3 1 v (ringL s (l.take k)).length (ints (ringL s (l.take k)))
 x : Ext W0 wr
theorem RingAt.no {s : Int} {l : List (Int × Int)} {W0 wr wr' : World} {k : Nat} {v : Value} {x : Int × Int} (h : RingAt s l W0 k v wr) (hl : l[k]? = some x) (hne : (stepOf s x.1 x.2 != -1) = false) (hx : Ext wr wr') : RingAt s l W0 (k + 1) v wr' := by
 have hlt := (List.getElem?_eq_some_iff.1 hl).1
 have e : ringL s (l.take (k + 1)) = ringL s (l.take k) := by rw [ringL_succ s l k x hl, hne]; simp
 exact ⟨by omega, by rw [e]; exact own_ext h.own hx, h.x.trans hx⟩
theorem RingAt.yes {s : Int} {l : List (Int × Int)} {W0 wr w1 wr' : World} {k : Nat} {v v' : Value} {x : Int × Int} (h : RingAt s l W0 k v wr) (hl : l[k]? = some x) (he : (stepOf s x.1 x.2 != -1) = true) (hx : Ext wr w1)
 (ho : wr'.ownsRow W0.heap.size 3 1 v' ((ringL s (l.take k)).length + 1) (ints (ringL s (l.take k)) ++ [.int .i64 (stepOf s x.1 x.2)])) (hg : w1.grownBy wr' v.ownBlock) : RingAt s l W0 (k + 1) v' wr' := by
 have hlt := (List.getElem?_eq_some_iff.1 hl).1
 have e : ringL s (l.take (k + 1)) = ringL s (l.take k) ++ [stepOf s x.1 x.2] := by rw [ringL_succ s l k x hl, if_pos he]
 exact ⟨by omega, by rw [e, ints_append, List.length_append]; exact ho, (h.x.trans hx).grown (own_ext h.own hx) hg⟩
theorem Ring_any (s : Int) (l : List (Int × Int)) (v : Value) (w : World) (hB : stepsB l) (hn : l.length ≤ 1000) (hS : Sl w 2 v l.length (pairs l)) :
 Calls Tryz.prog 195 #[.int .i64 s, v] w (RetInts (ringL s l) w) := by
 obtain ⟨a, cap, rfl⟩ := hS.form
 have HS := hid hS
 have HB := hid hB
 clear hS hB
 go_enter Tryz.func195, Tryz.ntmps195
 go_wp2
 go_loopw [4, 10] (fun v i wr => ∃ k : Nat, i = .int .i64 k ∧ RingAt s l w k v wr) (fun _ i _ => l.length - (intOf i).toNat)
 case atStart => exact ⟨0, rfl, by omega, by exact World.ownsRow_nil _ _ _ _, Ext.refl _⟩
 case round =>
  obtain ⟨k, rfl, hk⟩ := hrel
  have hown := hk.own
  have hxw := hk.x
  have hle := hk.x.le
  have hlen := ringL_len s (l.take k)
  rw [List.length_take] at hlen
  have HK := hid hk
  clear hk
  by_cases hlt : k < l.length
  ·obtain ⟨b, off, rfl, hb, hc⟩ := (HS.out.ext hxw).pos (by omega)
   obtain ⟨x, hx0⟩ : ∃ x, l[k]? = some x := ⟨_, List.getElem?_eq_getElem hlt⟩
   obtain ⟨p1, p2⟩ := pairs_get l k x hx0
   have c1 := hc _ _ p1
   have c2 := hc _ _ p2
   rw [← Nat.add_assoc] at c2
   obtain ⟨b1, b2, b3, b4⟩ := HB.out x (List.mem_of_getElem? hx0)
   have HX := hid hx0
   clear hc p1 p2 hx0
   cases hE : (stepOf s x.1 x.2 != -1)
   ·have HE := hid hE
    go_wp2_with (go_at_call 151; with_reducible refine arm (Step_any _ _ _ _ b1 b2 b3 b4) fun w1 hx hxc hxf hxb hxs => ?_; (try have := sW w w1); (try have := sW wr w1))
    go_roundw
    case rel => exact ⟨k + 1, by go_num, HK.out.no HX.out HE.out (Ext.auto)⟩
    case measure => simp [intOf]; omega
   ·have HE := hid hE
    go_wp2_with (first | (go_at_call 151; with_reducible refine arm (Step_any _ _ _ _ b1 b2 b3 b4) fun w1 hx hxc hxf hxb hxs => ?_; (try have := sW w w1); (try have := sW wr w1)) | (at_builtin; refine wpList_append_int rfl _ _ rfl (w.heap.size) u4 ((ringL s (l.take k)).length) (ints (ringL s (l.take k))) rfl ?c0 _ (.int .i64 (stepOf s x.1 x.2)) rfl rfl ?c1 ?c2 ?c3 (fun v' w1 hown1 hg1 => ?_)))
    case c0 => exact own_auto
    case c1 => simp [go_sem]
    case c2 => omega
    case c3 => simp; omega
    go_roundw
    case rel => exact ⟨k + 1, by go_num, HK.out.yes HX.out HE.out (Ext.auto) hown1 hg1⟩
    case measure => simp [intOf]; omega
  ·obtain rfl : k = l.length := by have := HK.out.le; omega
   go_wp2
   go_ret
   exact RetInts.mk' hown (by rw [List.take_length]) (by rw [List.take_length]) (Nat.le_refl _) hxw
def rayL (f r : Int) : Nat → Int → List Int
 | 0, _ => []
 | n + 1, t => if t = -1 then [] else t :: rayL f r n (stepOf t f r)
def rayPot (f r t : Int) : Int := if 0 < f then 7 - t % 8 else if f < 0 then t % 8 else if 0 < r then 7 - t / 8 else t / 8
def rayMeas (f r t : Int) : Nat := if t = -1 then 0 else (rayPot f r t).toNat + 1
def rayOf (s f r : Int) : List Int := if f = 0 ∧ r = 0 then [] else rayL f r 8 (stepOf s f r)
theorem step_sq {s f r t : Int} (h : stepOf s f r = t) (ht : t ≠ -1) : 0 ≤ s ∧ s < 64 ∧ 0 ≤ t ∧ t < 64 ∧ t % 8 = s % 8 + f ∧ t / 8 = s / 8 + r := by
 unfold stepOf onOf numOf at h
 by_cases hs : 0 ≤ s ∧ s < 64
 ·simp only [hs, and_self, if_true] at h
  split at h <;> omega
 ·rw [if_neg hs] at h; simp at h; omega
theorem rayMeas_lt {f r t : Int} (hfr : ¬ (f = 0 ∧ r = 0)) (ht : t ≠ -1) (hsq : 0 ≤ t ∧ t < 64) : rayMeas f r (stepOf t f r) < rayMeas f r t := by
 unfold rayMeas
 rw [if_neg ht]
 split
 ·omega
 ·rename_i h
  obtain ⟨_, _, h0, h1, h2, h3⟩ := step_sq rfl h
  unfold rayPot
  split
  ·omega
  ·split
   ·omega
   ·split <;> omega
theorem rayMeas_le (f r t : Int) (h : t = -1 ∨ 0 ≤ t ∧ t < 64) : rayMeas f r t ≤ 8 := by
 unfold rayMeas rayPot
 split
 ·omega
 ·split
  ·omega
  ·split
   ·omega
   ·split <;> omega
theorem sq_of_step (s f r : Int) : stepOf s f r = -1 ∨ 0 ≤ stepOf s f r ∧ stepOf s f r < 64 := by
 by_cases h : stepOf s f r = -1
 ·exact .inl h
 ·have := step_sq rfl h; exact .inr ⟨this.2.2.1, this.2.2.2.1⟩
theorem rayL_fuel {f r : Int} (hfr : ¬ (f = 0 ∧ r = 0)) : ∀ (n m : Nat) (t : Int), (t = -1 ∨ 0 ≤ t ∧ t < 64) → rayMeas f r t ≤ n → rayMeas f r t ≤ m → rayL f r n t = rayL f r m t := by
 intro n
 induction n with
 | zero =>
   intro m t ht h0 _
   have : t = -1 := by
    unfold rayMeas at h0; split at h0
    ·assumption
    ·omega
   subst this
   cases m <;> simp [rayL]
 | succ n ih =>
   intro m t ht h0 h1
   by_cases h : t = -1
   ·subst h; cases m <;> simp [rayL]
   ·have hsq := ht.resolve_left h
    have hl := rayMeas_lt hfr h hsq
    cases m with
    | zero => unfold rayMeas at h1; rw [if_neg h] at h1; omega
    | succ m =>
      simp only [rayL, h, if_false]
      rw [ih m _ (sq_of_step t f r) (by omega) (by omega)]
theorem rayL_cons {f r t : Int} (hfr : ¬ (f = 0 ∧ r = 0)) (ht : t ≠ -1) (hsq : 0 ≤ t ∧ t < 64) : rayL f r 8 t = t :: rayL f r 8 (stepOf t f r) := by
 have h1 := rayMeas_lt hfr ht hsq
 have h2 := rayMeas_le f r t (.inr hsq)
 rw [rayL_fuel hfr 8 9 t (.inr hsq) h2 (by omega)]
 simp [rayL, ht]
theorem rayL_len (f r : Int) : ∀ (n : Nat) (t : Int), (rayL f r n t).length ≤ n := by
 intro n
 induction n with
 | zero => intro t; simp [rayL]
 | succ n ih => intro t; simp only [rayL]; split <;> simp [ih]
structure RayAt (s f r : Int) (W0 : World) (t : Int) (v : Value) (wr : World) (acc : List Int) : Prop where
 sq : t = -1 ∨ 0 ≤ t ∧ t < 64
 own : wr.ownsRow W0.heap.size 3 1 v acc.length (ints acc)
 eq : acc ++ rayL f r 8 t = rayL f r 8 (stepOf s f r)
 x : Ext W0 wr
theorem RayAt.next {s f r : Int} {W0 wr w1 w2 w3 : World} {t : Int} {v v' : Value} {acc : List Int} (h : RayAt s f r W0 t v wr acc) (hfr : ¬ (f = 0 ∧ r = 0)) (ht : t ≠ -1) (hx : Ext wr w1)
 (ho : w2.ownsRow W0.heap.size 3 1 v' (acc.length + 1) (ints acc ++ [.int .i64 t])) (hg : w1.grownBy w2 v.ownBlock) (hx3 : Ext w2 w3) : RayAt s f r W0 (stepOf t f r) v' w3 (acc ++ [t]) := by
 refine ⟨sq_of_step _ _ _, ?_, ?_, ((h.x.trans hx).grown (own_ext h.own hx) hg).trans hx3⟩
 ·rw [ints_append, List.length_append]; exact own_ext ho hx3
 ·rw [← h.eq, rayL_cons hfr ht (h.sq.resolve_left ht)]; simp
theorem Ray_any (s f r : Int) (w : World) (hf : -7 ≤ f) (hf' : f ≤ 7) (hr : -7 ≤ r) (hr' : r ≤ 7) (hfr : ¬ (f = 0 ∧ r = 0)) :
 Calls Tryz.prog 224 #[.int .i64 s, .int .i64 f, .int .i64 r] w (RetInts (rayOf s f r) w) := by
 have HR := hid (show rayOf s f r = rayL f r 8 (stepOf s f r) by unfold rayOf; rw [if_neg hfr])
 have HF := hid hfr
 by_cases h0 : f = 0
 ·subst h0
  have h1 : (r == 0) = false := by simp; omega
  have HR0 := hid (show r ≠ 0 by omega)
  clear HF hfr
  go_enter Tryz.func224, Tryz.ntmps224
  go_wp2_with (go_at_call 151; with_reducible refine arm (Step_any _ _ _ _ (by omega) (by omega) hr hr') fun w1 hx hxc hxf hxb hxs => ?_; (try have := sW w w1))
  go_loopw [0, 6] (fun t v wr => ∃ (x : Int) (acc : List Int), t = .int .i64 x ∧ RayAt s 0 r w x v wr acc) (fun t _ _ => rayMeas 0 r (intOf t))
  case atStart => exact ⟨_, [], rfl, sq_of_step _ _ _, by exact World.ownsRow_nil _ _ _ _, rfl, (Ext.auto)⟩
  case round =>
   obtain ⟨x, acc, rfl, hk⟩ := hrel
   have hown := hk.own
   have hxw := hk.x
   have hle := hk.x.le
   have hlen : acc.length ≤ 8 := by
    have h1 := congrArg List.length hk.eq
    have h2 := rayL_len 0 r 8 (stepOf s 0 r)
    rw [List.length_append] at h1; omega
   by_cases hx1 : x = -1
   ·subst hx1
    have HE := hid (show acc = rayL 0 r 8 (stepOf s 0 r) by have := hk.eq; simpa [rayL] using this)
    clear hk
    go_wp2
    go_ret
    exact RetInts.mk' hown (by rw [HR.out, ← HE.out]) (by rw [HR.out, ← HE.out]) (Nat.le_refl _) hxw
   ·have hne : (x != -1) = true := by simp [hx1]
    have HK := hid hk
    have HX := hid hx1
    have HM := hid (rayMeas_lt (f := 0) (r := r) (fun h => HR0.out h.2) hx1 (hk.sq.resolve_left hx1))
    clear hk hx1
    go_wp2_with (first | (go_at_call 151; with_reducible refine arm (Step_any _ _ _ _ (by omega) (by omega) hr hr') fun w1 hx hxc hxf hxb hxs => ?_; (try have := sW w w1); (try have := sW wr w1)) | (at_builtin; refine wpList_append_int rfl _ _ rfl (w.heap.size) u6 (acc.length) (ints acc) rfl ?c0 _ (.int .i64 x) rfl rfl ?c1 ?c2 ?c3 (fun v' w1 hown1 hg1 => ?_)))
    case c0 => exact own_auto
    case c1 => simp [go_sem]
    case c2 => omega
    case c3 => simp; omega
    go_roundw
    case rel => exact ⟨_, acc ++ [x], rfl, HK.out.next (f := 0) (fun h => HR0.out h.2) HX.out (Ext.auto) hown1 hg1 hx⟩
    case measure => simpa [intOf] using HM.out
 ·have h1 : (f == 0) = false := by simp [h0]
  clear hfr h0
  go_enter Tryz.func224, Tryz.ntmps224
  go_wp2_with (go_at_call 151; with_reducible refine arm (Step_any _ _ _ _ hf hf' hr hr') fun w1 hx hxc hxf hxb hxs => ?_; (try have := sW w w1); (try have := sW wr w1))
  go_loopw [0, 6] (fun t v wr => ∃ (x : Int) (acc : List Int), t = .int .i64 x ∧ RayAt s f r w x v wr acc) (fun t _ _ => rayMeas f r (intOf t))
  case atStart => exact ⟨_, [], rfl, sq_of_step _ _ _, by exact World.ownsRow_nil _ _ _ _, rfl, (Ext.auto)⟩
  case round =>
   obtain ⟨x, acc, rfl, hk⟩ := hrel
   have hown := hk.own
   have hxw := hk.x
   have hle := hk.x.le
   have hlen : acc.length ≤ 8 := by
    have h1 := congrArg List.length hk.eq
    have h2 := rayL_len f r 8 (stepOf s f r)
    rw [List.length_append] at h1; omega
   by_cases hx1 : x = -1
   ·subst hx1
    have HE := hid (show acc = rayL f r 8 (stepOf s f r) by have := hk.eq; simpa [rayL] using this)
    clear hk
    go_wp2
    go_ret
    exact RetInts.mk' hown (by rw [HR.out, ← HE.out]) (by rw [HR.out, ← HE.out]) (Nat.le_refl _) hxw
   ·have hne : (x != -1) = true := by simp [hx1]
    have HK := hid hk
    have HX := hid hx1
    have HM := hid (rayMeas_lt HF.out hx1 (hk.sq.resolve_left hx1))
    clear hk hx1
    go_wp2_with (first | (go_at_call 151; with_reducible refine arm (Step_any _ _ _ _ hf hf' hr hr') fun w1 hx hxc hxf hxb hxs => ?_; (try have := sW w w1); (try have := sW wr w1)) | (at_builtin; refine wpList_append_int rfl _ _ rfl (w.heap.size) u6 (acc.length) (ints acc) rfl ?c0 _ (.int .i64 x) rfl rfl ?c1 ?c2 ?c3 (fun v' w1 hown1 hg1 => ?_)))
    case c0 => exact own_auto
    case c1 => simp [go_sem]
    case c2 => omega
    case c3 => simp; omega
    go_roundw
    case rel => exact ⟨_, acc ++ [x], rfl, HK.out.next HF.out HX.out (Ext.auto) hown1 hg1 hx⟩
    case measure => simpa [intOf] using HM.out
def straightW : List (Int × Int) := [(1, 0), (-1, 0), (0, 1), (0, -1)]
def slantW : List (Int × Int) := [(1, 1), (1, -1), (-1, 1), (-1, -1)]
def jumpsW : List (Int × Int) := [(1, 2), (2, 1), (2, -1), (1, -2), (-1, -2), (-2, -1), (-2, 1), (-1, 2)]
theorem straight_any (w : World) : Calls Tryz.prog 193 #[] w (Ret (.agg (pairs straightW).toArray) w) := by
 go_enter Tryz.func193, Tryz.ntmps193
 go_wp2
 exact bodyPost_ret (v := .agg (pairs straightW).toArray) (by simp [results, Tryz.results193, go_sem, pairs, straightW]) rfl ⟨rfl, (Ext.auto)⟩
theorem slant_any (w : World) : Calls Tryz.prog 194 #[] w (Ret (.agg (pairs slantW).toArray) w) := by
 go_enter Tryz.func194, Tryz.ntmps194
 go_wp2
 exact bodyPost_ret (v := .agg (pairs slantW).toArray) (by simp [results, Tryz.results194, go_sem, pairs, slantW]) rfl ⟨rfl, (Ext.auto)⟩
theorem jumps_any (w : World) : Calls Tryz.prog 196 #[] w (Ret (.agg (pairs jumpsW).toArray) w) := by
 go_enter Tryz.func196, Tryz.ntmps196
 go_wp2
 exact bodyPost_ret (v := .agg (pairs jumpsW).toArray) (by simp [results, Tryz.results196, go_sem, pairs, jumpsW]) rfl ⟨rfl, (Ext.auto)⟩
theorem info_pair : (Tryz.prog.info? 55).map (fun i => (i.zero, i.size, i.bytes)) = some (some (.agg #[.int .i64 0, .int .i64 0]), 2, 16) := by kernel_rfl
def RetPairs (l : List (Int × Int)) (w : World) (e : Ending) (w' : World) : Prop := ∃ v, e = .returned v ∧ w'.ownsRow w.heap.size 55 2 v l.length (pairs l) ∧ Ext w w'
theorem RetPairs.mk' {l : List (Int × Int)} {v : Value} {w w' : World} {base n : Nat} {cs : List Value} (h : w'.ownsRow base 55 2 v n cs) (hn : n = l.length) (hc : cs = pairs l) (hb : w.heap.size ≤ base) (hx : Ext w w') : RetPairs l w (.returned v) w' :=
 ⟨v, rfl, by subst hn; subst hc; exact own_base h hb, hx⟩
theorem pairs_append (l m : List (Int × Int)) : pairs (l ++ m) = pairs l ++ pairs m := by simp [pairs]
theorem pairs_length (l : List (Int × Int)) : (pairs l).length = l.length * 2 := by
 induction l with
 | nil => rfl
 | cons x r ih => simp [pairs] at *; omega
theorem pairs_one (l : List (Int × Int)) : ∀ u ∈ pairs l, u.oneCell' = true := by
 intro u hu
 simp only [pairs, List.mem_flatMap] at hu
 obtain ⟨x, _, hu⟩ := hu
 simp at hu
 rcases hu with rfl | rfl <;> rfl
theorem Grow_nil (n : Nat) (w : World) (h0 : 0 < n) (hn : n ≤ 1000) : Calls Tryz.prog 223 #[.slice none 0 0, .int .i64 n] w (RetPairs [] w) := by
 obtain ⟨i0, hi, hz0, hz1, hz2⟩ := info_parts info_pair
 have happ := Lib.run_append_nil_zeros (P := Tryz.prog) w 237 3 237 55 i0 _ .i64 .i64 (by kernel_rfl) (by kernel_rfl) hi hz0 n h0 (by rw [hz1]; decide) (by omega) (by rw [hz2]; omega)
 generalize hcap : grownCap w n 0 55 = cap at happ
 have hge : n ≤ cap := by rw [← hcap]; exact grownCap_ge w _ 0 _
 have hle : cap ≤ maxLen := by rw [← hcap]; exact grownCap_le_maxLen w _ 0 _ (by unfold maxLen; omega)
 generalize hZ : (Builtin.zeroCells (Value.agg #[.int .i64 0, .int .i64 0]).cells n ++ Builtin.zeroCells (Value.agg #[.int .i64 0, .int .i64 0]).cells (cap - n)) = Z at happ
 have hZs : Z.size = cap * 2 := by rw [← hZ]; simp [size_zeroCells, Value.cells]; omega
 clear hcap hZ
 go_enter Tryz.func223, Tryz.ntmps223
 go_wp2_with (at_builtin; refine Lib.wpList_append_run _ rfl _ _ _ _ rfl _ _ rfl rfl _ _ happ ?_)
 go_ret
 refine RetPairs.mk' (base := w.heap.size) (n := 0) (cs := []) ⟨rfl, .inr ⟨_, cap, Z, rfl, Nat.le_refl _, ?_, Nat.zero_le _, hle, hZs, by simp⟩⟩ rfl rfl (Nat.le_refl _) (Ext.auto)
 exact heap_alloc_new w _
theorem wpList_append_pairs {ops : Array Oper} {rest : List Oper} {o : Oper} {a : Act} {w : World} {Q : Exit → Act → World → Prop} (hgd : o.guard = none) (s x : Operand)
 (ho : o.op = .call { callee := .builtin .append, args := #[s, x], argTypes := #[237, 237] })
 (base : Nat) (v : Value) (n : Nat) (xs : List Value) (hs : a.eval s = v) (hown : w.ownsRow base 55 2 v n xs) (u : Value) (l : List (Int × Int)) (hx : a.eval x = u) (hu : Sl w 2 u l.length (pairs l)) (hl : 0 < l.length)
 (hn : n + l.length ≤ 1000000) (hbase : base ≤ w.heap.size)
 (h : ∀ v' w', w'.ownsRow base 55 2 v' (n + l.length) (xs ++ pairs l) → w.grownBy w' v.ownBlock → wpList Tryz.prog ops Q rest (a.put o.dst v') w') : wpList Tryz.prog ops Q (o :: rest) a w := by
 obtain ⟨i0, hi0, hz0, hz1, hz2⟩ := info_parts info_pair
 obtain ⟨ad, cap, rfl⟩ := hu.form
 obtain ⟨b, off, rfl, hb, hc⟩ := hu.pos hl
 refine wpList_append_own w hgd s x 237 ho base 55 i0 (.agg #[.int .i64 0, .int .i64 0]) 2 16 Tryz.underlying237 hi0 hz0 hz1 hz2 rfl (by decide) v n xs hs hown ⟨b, off, none⟩ l.length cap (pairs l) hx (pairs_length l) ?_ (pairs_one l) ?_ ?_ hbase fun v' w' h1 h2 _ => h v' w' h1 h2
 ·intro j u hu
  rw [Addr.add_lit]; exact hc j u hu
 ·simp only [maxLen]; omega
 ·omega
theorem Grow_int (i : Int) (w : World) (h0 : 0 < i) (hn : i ≤ 1000) : Calls Tryz.prog 223 #[.slice none 0 0, .int .i64 i] w (RetPairs [] w) := by
 obtain ⟨n, rfl⟩ := Int.eq_ofNat_of_zero_le (show 0 ≤ i by omega)
 exact Grow_nil n w (by omega) (by omega)
structure CatAt (la lb : List (Int × Int)) (W0 : World) (k : Nat) (v : Value) (wr : World) : Prop where
 own : wr.ownsRow W0.heap.size 55 2 v (if k = 0 then 0 else if k = 1 then la.length else la.length + lb.length) (if k = 0 then [] else if k = 1 then pairs la else pairs la ++ pairs lb)
 x : Ext W0 wr
theorem Concat_two (g : Nat) (va vb : Value) (la lb : List (Int × Int)) (w : World) (ha : Sl w 2 va la.length (pairs la)) (hb : Sl w 2 vb lb.length (pairs lb)) (hla : 0 < la.length) (hlb : 0 < lb.length) (hla' : la.length ≤ 100) (hlb' : lb.length ≤ 100)
 (hg : g < w.heap.size) (h0 : w.cell? ⟨g, 0, none⟩ = some va) (h1 : w.cell? ⟨g, 1, none⟩ = some vb) :
 Calls Tryz.prog 197 #[.slice (some ⟨g, 0, none⟩) 2 2] w (RetPairs (la ++ lb) w) := by
 obtain ⟨aa, ca, rfl⟩ := ha.form
 obtain ⟨ab, cb, rfl⟩ := hb.form
 have HA := hid ha
 have HB := hid hb
 clear ha hb
 go_enter Tryz.func197, Tryz.ntmps197
 go_wp2
 go_loopw [3, 11] (fun n i wr => w = wr ∧ ∃ k : Nat, i = .int .i64 k ∧ k ≤ 2 ∧ n = .int .i64 ((if k = 0 then 0 else if k = 1 then la.length else la.length + lb.length : Nat) : Int)) (fun _ i _ => 2 - (intOf i).toNat)
 case atStart => exact ⟨rfl, 0, rfl, by omega, rfl⟩
 case round =>
  obtain ⟨rfl, k, rfl, hk, rfl⟩ := hrel
  rcases (show k = 0 ∨ k = 1 ∨ k = 2 by omega) with rfl | rfl | rfl
  ·go_wp2
   go_roundw
   case rel => exact ⟨by trivial, 1, rfl, by omega, by simp⟩
   case measure => simp [intOf]
  ·go_wp2
   go_roundw
   case rel => exact ⟨by trivial, 2, rfl, by omega, by simp⟩
   case measure => simp [intOf]
  ·have HN : (((if (2 : Nat) = 0 then 0 else if (2 : Nat) = 1 then la.length else la.length + lb.length : Nat)) : Int) = ((la.length + lb.length : Nat) : Int) := by simp
   simp only [HN]
   go_wp2_with (go_at_call 223; (with_reducible refine (Grow_int _ _ (by omega) (by omega)).mono ?_); rintro e w1 ⟨v, rfl, hown, hx⟩)
   have HW := hid (show CatAt la lb w 0 v w1 from ⟨by simpa [pairs] using hown, hx⟩)
   clear hown hx
   go_loopw [6, 27] (fun v i w2 => ∃ k : Nat, i = .int .i64 k ∧ k ≤ 2 ∧ CatAt la lb w k v w2) (fun _ i _ => 2 - (intOf i).toNat)
   case atStart => exact ⟨0, rfl, by omega, HW.out⟩
   case round =>
    obtain ⟨k, rfl, hk, hc⟩ := hrel
    have hx := hc.x
    have hxc := Ext.cell hx; have hxs := Ext.le hx
    have c0 := (hxc g 0 hg).trans h0
    have c1 := (hxc g 1 hg).trans h1
    have sa := HA.out.ext hx
    have sb := HB.out.ext hx
    have hown := hc.own
    have SA := hid sa
    have SB := hid sb
    clear hc
    rcases (show k = 0 ∨ k = 1 ∨ k = 2 by omega) with rfl | rfl | rfl
    ·have hown0 : wr.ownsRow w.heap.size 55 2 u6 0 [] := by simpa using hown
     go_wp2_with (at_builtin; refine wpList_append_pairs rfl _ _ rfl w.heap.size _ 0 [] rfl (by exact hown0) _ la rfl (by exact sa) hla ?c2 ?c3 (fun v' w3 hown1 hg1 => ?_))
     case c2 => omega
     go_roundw
     case rel => exact ⟨1, rfl, by omega, by simpa using hown1, hx.grown hown0 hg1⟩
     case measure => simp [intOf]
    ·have hown0 : wr.ownsRow w.heap.size 55 2 u6 la.length (pairs la) := by simpa using hown
     go_wp2_with (at_builtin; refine wpList_append_pairs rfl _ _ rfl w.heap.size _ la.length (pairs la) rfl (by exact hown0) _ lb rfl (by exact sb) hlb ?c2 ?c3 (fun v' w3 hown1 hg1 => ?_))
     case c2 => omega
     go_roundw
     case rel => exact ⟨2, rfl, by omega, by simpa using hown1, hx.grown hown0 hg1⟩
     case measure => simp [intOf]
    ·go_wp2
     go_ret
     exact RetPairs.mk' hown (by simp) (by simp [pairs_append]) (Nat.le_refl _) hx
theorem run_append_far {P : Program} (w : World) (base : Nat) (t ty e : TypeId) (i : TypeInfo) (z : Value) (size bytes : Nat) (ht : P.underlying t = some (.slice e)) (hi : P.info? e = some i) (hz : i.zero = some z)
 (hsize : i.size = size) (hby : i.bytes = bytes) (hzs : z.cells.size = size) (hsz : 0 < size)
 (v : Value) (n : Nat) (xs : List Value) (hown : w.ownsRow base e size v n xs)
 (a : Addr) (m c : Nat) (news : List Value) (hl : news.length = m * size) (hnews : ∀ j u, news[j]? = some u → w.cell? (a.add j) = some u) (h1 : ∀ u ∈ news, u.oneCell' = true)
 (h63 : n + m ≤ maxLen) (hbytes : (n + m) * bytes ≤ 140737488355328) (hbase : base ≤ w.heap.size) :
 ∃ v' w', (Builtin.append_ #[t, t] ty #[v, .slice (some a) m c]).run P w = .ok v' w' ∧ w'.ownsRow base e size v' (n + m) (xs ++ news) ∧ w.grownBy w' v.ownBlock ∧
  (∀ k, v'.ownBlock = some k → v.ownBlock = some k ∨ w.heap.size ≤ k) := by
 obtain ⟨v', w', hr, ho, hg, _⟩ := run_append_own (P := P) w base t ty e i z size bytes ht hi hz hsize hby hzs hsz v n xs hown a m c news hl hnews h1 h63 hbytes hbase
 refine ⟨v', w', hr, ho, hg, fun k hk => ?_⟩
 rcases hown.2 with ⟨rfl, rfl⟩ | ⟨g, cap, cur, rfl, hbg, hgg, hcap, hcm, hcs, htk⟩
 ·obtain ⟨v2, w2, hr2, ho2, _⟩ := run_append_own (P := P) w w.heap.size t ty e i z size bytes ht hi hz hsize hby hzs hsz (.slice none 0 0) 0 [] (World.ownsRow_nil w _ e size) a m c news hl hnews h1 h63 hbytes (Nat.le_refl _)
  rw [hr] at hr2
  obtain ⟨rfl, rfl⟩ := Result.ok.inj hr2
  exact .inr (ho2.lt k hk).1
 ·by_cases hroom : n + m ≤ cap
  ·have hle : (n + m) * size ≤ cap * size := Nat.mul_le_mul_right _ hroom
   rw [Nat.add_mul] at hle
   have hr2 := run_append_room (P := P) w t ty e i ht hi g n cap cur hgg a m c news (by rw [hsize]; exact hl) hnews h1 hroom (by rw [hsize, hl, hcs]; omega)
   rw [hr] at hr2
   obtain ⟨rfl, -⟩ := Result.ok.inj hr2
   exact .inl hk
  ·obtain ⟨v2, w2, hr2, ho2, _⟩ := run_append_arg_grows (P := P) w t ty e i z size bytes ht hi hz hsize hby hzs hsz ⟨g, 0, none⟩ n cap xs hown.1 (hown.cells rfl) a m c news hl hnews (by omega) h63 hbytes
   rw [hr] at hr2
   obtain ⟨rfl, rfl⟩ := Result.ok.inj hr2
   exact .inr (ho2.lt k hk).1
theorem wpList_append_far {ops : Array Oper} {rest : List Oper} {o : Oper} {a : Act} {w : World} {Q : Exit → Act → World → Prop} (hgd : o.guard = none) (s x : Operand)
 (ho : o.op = .call { callee := .builtin .append, args := #[s, x], argTypes := #[43, 43] })
 (base : Nat) (v : Value) (n : Nat) (xs : List Value) (hs : a.eval s = v) (hown : w.ownsRow base 3 1 v n xs) (g : Nat) (y : Value) (hx : a.eval x = .slice (some ⟨g, 0, none⟩) 1 1)
 (hy : y.oneCell' = true) (hg : w.cell? ⟨g, 0, none⟩ = some y) (hn : n ≤ 1000000) (hbase : base ≤ w.heap.size)
 (h : ∀ v' w', w'.ownsRow base 3 1 v' (n + 1) (xs ++ [y]) → w.grownBy w' v.ownBlock → (∀ k, v'.ownBlock = some k → v.ownBlock = some k ∨ w.heap.size ≤ k) → wpList Tryz.prog ops Q rest (a.put o.dst v') w') : wpList Tryz.prog ops Q (o :: rest) a w := by
 obtain ⟨i0, hi0, hz0, hz1, hz2⟩ := info_parts info_int
 obtain ⟨v', w', hr, h2, h3, h4⟩ := run_append_far (P := Tryz.prog) w base 43 o.type 3 i0 (.int .i64 0) 1 8 Tryz.underlying43 hi0 hz0 hz1 hz2 rfl (by decide) v n xs hown ⟨g, 0, none⟩ 1 1 [y] rfl (by
  intro j u hu
  cases j with
  | zero => simp only [List.getElem?_cons_zero, Option.some.injEq] at hu; subst hu; exact hg
  | succ j => simp at hu) (by intro u hu; simp only [List.mem_singleton] at hu; subst hu; exact hy) (by simp only [maxLen]; omega) (by omega) hbase
 exact Lib.wpList_append_run w hgd s x _ _ ho v _ hs hx v' w' hr (h v' w' h2 h3 h4)
def emptyAt (p : Pos) (t : Int) : Bool := p.kind t.toNat == 0 && p.side t.toNat == 0
def upto (p : Pos) : List Int → List Int
 | [] => []
 | t :: r => t :: if emptyAt p t then upto p r else []
def alongL (p : Pos) (s : Int) (l : List (Int × Int)) : List Int := l.flatMap fun x => upto p (rayOf s x.1 x.2)
theorem upto_len (p : Pos) (l : List Int) : (upto p l).length ≤ l.length := by
 induction l with
 | nil => simp [upto]
 | cons t r ih => simp only [upto]; split <;> simp <;> omega
theorem rayOf_len (s f r : Int) : (rayOf s f r).length ≤ 8 := by
 unfold rayOf; split
 ·simp
 ·exact rayL_len f r 8 _
theorem alongL_succ (p : Pos) (s : Int) (l : List (Int × Int)) (k : Nat) (x : Int × Int) (h : l[k]? = some x) : alongL p s (l.take (k + 1)) = alongL p s (l.take k) ++ upto p (rayOf s x.1 x.2) := by
 have : l.take (k + 1) = l.take k ++ [x] := by rw [List.take_add_one, h]; rfl
 rw [this]
 simp [alongL, List.flatMap_append]
theorem alongL_len (p : Pos) (s : Int) (l : List (Int × Int)) : (alongL p s l).length ≤ l.length * 8 := by
 induction l with
 | nil => simp [alongL]
 | cons x r ih =>
   have := Nat.le_trans (upto_len p (rayOf s x.1 x.2)) (rayOf_len s x.1 x.2)
   simp [alongL, List.flatMap_cons] at *; omega
theorem upto_drop (p : Pos) (l : List Int) (j : Nat) (t : Int) (h : l[j]? = some t) : upto p (l.drop j) = t :: if emptyAt p t then upto p (l.drop (j + 1)) else [] := by
 obtain ⟨hlt, e⟩ := List.getElem?_eq_some_iff.1 h
 rw [List.drop_eq_getElem_cons hlt, e]; rfl
def Apart (v u : Value) : Prop := ∀ k, v.ownBlock = some k → u.ownBlock ≠ some k
theorem Sl.grown {w w' : World} {size n : Nat} {v u : Value} {cs : List Value} (h : Sl w size u n cs) (hg : w.grownBy w' v.ownBlock) (ha : Apart v u) : Sl w' size u n cs := by
 refine ⟨h.1, ?_⟩
 rcases h.2 with h | ⟨b, off, cap, hv, hb, hc⟩
 ·exact .inl h
 ·subst hv
  have hne : some b ≠ v.ownBlock := fun e => ha b e.symm rfl
  refine .inr ⟨b, off, cap, rfl, Nat.lt_of_lt_of_le hb hg.size, fun j y hy => ?_⟩
  exact hg.cell (hc j y hy) hne
theorem Apart.grown {w : World} {size n : Nat} {v v' u : Value} {cs : List Value} (ha : Apart v u) (hs : Sl w size u n cs) (h : ∀ k, v'.ownBlock = some k → v.ownBlock = some k ∨ w.heap.size ≤ k) : Apart v' u := by
 intro k hk hu
 rcases h k hk with h | h
 ·exact ha k h hu
 ·rcases hs.2 with ⟨rfl, _⟩ | ⟨b, off, cap, rfl, hb, _⟩
  ·simp [Value.ownBlock] at hu
  ·simp only [Value.ownBlock, Option.some.injEq] at hu; omega
theorem Apart.of_own {w w' : World} {b c e e' s s' n n' : Nat} {v u : Value} {xs ys : List Value} (h : w.ownsRow b e s v n xs) (h' : w'.ownsRow c e' s' u n' ys) (hc : w.heap.size ≤ c) : Apart v u := by
 intro k hk hu
 have h1 := (h.lt k hk).2
 have h2 := (h'.lt k hu).1
 omega
structure AlongAt (p : Pos) (s : Int) (l : List (Int × Int)) (W0 : World) (k : Nat) (v : Value) (wr : World) : Prop where
 le : k ≤ l.length
 own : wr.ownsRow W0.heap.size 3 1 v (alongL p s (l.take k)).length (ints (alongL p s (l.take k)))
 x : Ext W0 wr
structure UptoAt (p : Pos) (W0 : World) (acc0 L : List Int) (u : Value) (j : Nat) (v : Value) (wr : World) (acc : List Int) : Prop where
 le : j ≤ L.length
 own : wr.ownsRow W0.heap.size 3 1 v acc.length (ints acc)
 x : Ext W0 wr
 sl : Sl wr 1 u L.length (ints L)
 far : Apart v u
 eq : acc ++ upto p (L.drop j) = acc0 ++ upto p L
theorem UptoAt.next {p : Pos} {W0 wr w1 w2 : World} {acc0 L acc : List Int} {u v v' : Value} {j : Nat} {t : Int} (h : UptoAt p W0 acc0 L u j v wr acc) (ht : L[j]? = some t) (he : emptyAt p t = true) (hx : Ext wr w1)
 (ho : w2.ownsRow W0.heap.size 3 1 v' (acc.length + 1) (ints acc ++ [.int .i64 t])) (hg : w1.grownBy w2 v.ownBlock) (hf : ∀ k, v'.ownBlock = some k → v.ownBlock = some k ∨ w1.heap.size ≤ k) : UptoAt p W0 acc0 L u (j + 1) v' w2 (acc ++ [t]) := by
 have hlt := (List.getElem?_eq_some_iff.1 ht).1
 refine ⟨by omega, ?_, (h.x.trans hx).grown (own_ext h.own hx) hg, (h.sl.ext hx).grown hg h.far, h.far.grown (h.sl.ext hx) hf, ?_⟩
 ·rw [ints_append, List.length_append]; exact ho
 ·rw [← h.eq, upto_drop p L j t ht, if_pos he]; simp
theorem UptoAt.stop {p : Pos} {s : Int} {l : List (Int × Int)} {k : Nat} {x : Int × Int} {W0 wr w1 w2 : World} {acc : List Int} {u v v' : Value} {j : Nat} {t : Int} (h : UptoAt p W0 (alongL p s (l.take k)) (rayOf s x.1 x.2) u j v wr acc) (hl : l[k]? = some x) (ht : (rayOf s x.1 x.2)[j]? = some t) (he : emptyAt p t = false) (hx : Ext wr w1)
 (ho : w2.ownsRow W0.heap.size 3 1 v' (acc.length + 1) (ints acc ++ [.int .i64 t])) (hg : w1.grownBy w2 v.ownBlock) : AlongAt p s l W0 (k + 1) v' w2 := by
 have hlt := (List.getElem?_eq_some_iff.1 hl).1
 have e : alongL p s (l.take (k + 1)) = acc ++ [t] := by
  rw [alongL_succ p s l k x hl, ← h.eq, upto_drop p _ j t ht, he]; simp
 refine ⟨by omega, ?_, (h.x.trans hx).grown (own_ext h.own hx) hg⟩
 rw [e, ints_append, List.length_append]; exact ho
theorem UptoAt.done {p : Pos} {s : Int} {l : List (Int × Int)} {k : Nat} {x : Int × Int} {W0 wr w2 : World} {acc : List Int} {u v : Value} {j : Nat} (h : UptoAt p W0 (alongL p s (l.take k)) (rayOf s x.1 x.2) u j v wr acc) (hl : l[k]? = some x) (hj : (rayOf s x.1 x.2).length ≤ j) (hx : Ext wr w2) : AlongAt p s l W0 (k + 1) v w2 := by
 have hlt := (List.getElem?_eq_some_iff.1 hl).1
 have e : alongL p s (l.take (k + 1)) = acc := by
  have := h.eq
  rw [List.drop_of_length_le hj] at this
  rw [alongL_succ p s l k x hl, ← this]; simp [upto]
 refine ⟨by omega, ?_, h.x.trans hx⟩
 rw [e]; exact own_ext h.own hx
theorem rayL_sq (f r : Int) : ∀ (n : Nat) (t u : Int), (t = -1 ∨ 0 ≤ t ∧ t < 64) → u ∈ rayL f r n t → 0 ≤ u ∧ u < 64 := by
 intro n
 induction n with
 | zero => intro t u _ h; simp [rayL] at h
 | succ n ih =>
   intro t u ht h
   simp only [rayL] at h
   split at h
   ·simp at h
   ·rcases List.mem_cons.1 h with rfl | h
    ·exact ht.resolve_left (by assumption)
    ·exact ih _ u (sq_of_step _ _ _) h
theorem rayOf_sq {s f r u : Int} (h : u ∈ rayOf s f r) : 0 ≤ u ∧ u < 64 := by
 unfold rayOf at h
 split at h
 ·simp at h
 ·exact rayL_sq f r 8 _ u (sq_of_step _ _ _) h
theorem ints_get {l : List Int} {j : Nat} {t : Int} (h : l[j]? = some t) : (ints l)[j]? = some (.int .i64 t) := by simp [ints, h]
theorem keeps_blk {w w1 : World} {base e sz n b : Nat} {v : Value} {xs : List Value} {o o' : Obj} (hown : w.ownsRow base e sz v n xs) (hg : (w.alloc o).grownBy w1 v.ownBlock) (hb : b < base) (h : blk w b = some o') : blk w1 b = some o' := by
 have h1 := blk_lt h
 rw [grown_blk hg b (by simp; omega) (fun e => by have := (hown.lt b e.symm).1; omega), (Ext.alloc (Ext.refl w) o).blk b h1, h]
def waysB (l : List (Int × Int)) : Prop := stepsB l ∧ ∀ x ∈ l, ¬ (x.1 = 0 ∧ x.2 = 0)
theorem along_any (p : Pos) (s : Int) (l : List (Int × Int)) (v : Value) (w : World) (hB : waysB l) (hn : l.length ≤ 100) (hS : Sl w 2 v l.length (pairs l)) :
 Calls Tryz.prog 198 #[.agg (posCells p), .int .i64 s, v] w (RetInts (alongL p s l) w) := by
 obtain ⟨a, cap, rfl⟩ := hS.form
 have HS := hid hS
 have HB := hid hB
 clear hS hB
 go_enter Tryz.func198, Tryz.ntmps198
 go_wp2
 obtain ⟨W0, hW0⟩ : ∃ W0, W0 = w.alloc (.cells (posCells p) 195) := ⟨_, rfl⟩
 have hsz : W0.heap.size = w.heap.size + 1 := by rw [hW0]; simp
 have hbx : blk W0 w.heap.size = some (.cells (posCells p) 195 (0, 0)) := by rw [hW0]; simp [go_sem]
 have hEx : Ext w W0 := by rw [hW0]; exact (Ext.auto)
 rw [← hW0]
 have HW := hid hW0
 have HSZ := hid hsz
 have HBX := hid hbx
 have hs1 : w.heap.size < W0.heap.size := by omega
 clear hW0 hsz hbx
 go_loopw [6, 13] (fun v i wr => ∃ k : Nat, i = .int .i64 k ∧ AlongAt p s l W0 k v wr) (fun _ i _ => l.length - (intOf i).toNat)
 case atStart => exact ⟨0, rfl, by omega, by exact World.ownsRow_nil _ _ _ _, Ext.refl _⟩
 case round =>
  obtain ⟨k, rfl, hk⟩ := hrel
  have hown := hk.own
  have hxw := hk.x
  have hle := hk.x.le
  have HK := hid hk
  clear hk
  by_cases hlt : k < l.length
  ·obtain ⟨b, off, rfl, hb, hc⟩ := ((HS.out.ext hEx).ext hxw).pos (by omega)
   obtain ⟨x, hx0⟩ : ∃ x, l[k]? = some x := ⟨_, List.getElem?_eq_getElem hlt⟩
   obtain ⟨p1, p2⟩ := pairs_get l k x hx0
   have c1 := hc _ _ p1
   have c2 := hc _ _ p2
   rw [← Nat.add_assoc] at c2
   obtain ⟨b1, b2, b3, b4⟩ := HB.out.1 x (List.mem_of_getElem? hx0)
   have b5 := HB.out.2 x (List.mem_of_getElem? hx0)
   have B5 := hid b5
   have HX := hid hx0
   clear hc p1 p2 hx0 b5
   go_wp2_with (go_at_call 224; (with_reducible refine (Ray_any _ _ _ _ b1 b2 b3 b4 B5.out).mono ?_); rintro e w1 ⟨v2, rfl, hown2, hx⟩; obtain ⟨a2, cap2, rfl⟩ := (Sl.of_own hown2).form; obtain ⟨hxc, hxf, hxb, hxs⟩ := hx.als; (try have := sW W0 w1); (try have := sW wr w1))
   have HL := hid (rayOf_len s x.1 x.2)
   have hx2 : Ext wr w1 := Ext.trans (Ext.auto) hx
   have HU := hid (show UptoAt p W0 (alongL p s (l.take k)) (rayOf s x.1 x.2) _ 0 u6 w1 (alongL p s (l.take k)) from ⟨Nat.zero_le _, own_ext hown hx2, hxw.trans hx2, Sl.of_own hown2, Apart.of_own hown hown2 (by simp), by simp⟩)
   clear hown hown2 hx hxc hxf hxb hxs hx2 hxw c1 c2 b1 b2 b3 b4
   generalize hL0 : rayOf s x.1 x.2 = L at HU HL ⊢
   go_loopw [6, 24] (fun v i w2 => ∃ (j : Nat) (acc : List Int), i = .int .i64 j ∧ UptoAt p W0 (alongL p s (l.take k)) L (.slice a2 L.length cap2) j v w2 acc) (fun _ i _ => L.length - (intOf i).toNat)
   case atStart => exact ⟨0, _, rfl, HU.out⟩
   case round =>
    obtain ⟨j, acc, rfl, hu⟩ := hrel
    have hown := hu.own
    have hxw := hu.x
    have hle := hu.x.le
    have hlen : acc.length ≤ l.length * 8 + 8 := by
     have h1 := congrArg List.length hu.eq
     have h2 := alongL_len p s (l.take k)
     have h3 := upto_len p L
     have h4 := HL.out
     rw [List.length_append, List.length_append] at h1
     rw [List.length_take] at h2
     have h5 : min k l.length * 8 ≤ l.length * 8 := Nat.mul_le_mul_right _ (Nat.min_le_right _ _)
     omega
    have hbw : blk wr w.heap.size = some (.cells (posCells p) 195 (0, 0)) := (hxw.blk _ hs1).trans HBX.out
    have HU := hid hu
    have hL8 := HL.out
    by_cases hj : j < L.length
    ·obtain ⟨bL, oL, rfl, hbL, hcL⟩ := hu.sl.pos (by omega)
     obtain ⟨t, ht⟩ : ∃ t, L[j]? = some t := ⟨_, List.getElem?_eq_getElem hj⟩
     have cL := hcL j _ (ints_get ht)
     have hsq : 0 ≤ t ∧ t < 64 := by
      rw [← hL0] at ht; exact rayOf_sq (List.mem_of_getElem? ht)
     obtain ⟨h0, h1⟩ := hsq
     have h2 : t.toNat < 64 := by omega
     have HT := hid ht
     clear hu hcL ht
     by_cases hk0 : p.kind t.toNat = 0
     ·by_cases hs0 : p.side t.toNat = 0
      ·have HE := hid (show emptyAt p t = true by simp [emptyAt, hk0, hs0])
       go_wp2_with (at_builtin; refine wpList_append_far rfl _ _ rfl W0.heap.size u6 _ _ rfl (by exact own_alloc hown _) _ (.int .i64 t) rfl rfl ?c1 ?c2 ?c3 (fun v' w1 hown1 hg1 hf1 => have hb1 := keeps_blk hown hg1 hs1 hbw; have q0 := cell_of_row w1 w.heap.size (t.toNat * 2) _ _ _ hb1; have q1 := cell_of_row w1 w.heap.size (t.toNat * 2 + 1) _ _ _ hb1; ?_))
       case c1 => simp [go_sem]
       case c2 => omega
       case c3 => simp; omega
       go_roundw
       case rel => exact ⟨j + 1, _, by go_num, HU.out.next HT.out HE.out (Ext.auto) hown1 hg1 hf1⟩
       case measure => simp [intOf]; omega
      ·have HE := hid (show emptyAt p t = false by simp [emptyAt, hk0, hs0])
       go_wp2_with (at_builtin; refine wpList_append_far rfl _ _ rfl W0.heap.size u6 _ _ rfl (by exact own_alloc hown _) _ (.int .i64 t) rfl rfl ?c1 ?c2 ?c3 (fun v' w1 hown1 hg1 hf1 => have hb1 := keeps_blk hown hg1 hs1 hbw; have q0 := cell_of_row w1 w.heap.size (t.toNat * 2) _ _ _ hb1; have q1 := cell_of_row w1 w.heap.size (t.toNat * 2 + 1) _ _ _ hb1; ?_))
       case c1 => simp [go_sem]
       case c2 => omega
       case c3 => simp; omega
       go_roundw
       case rel => exact ⟨k + 1, by go_num, (hL0 ▸ HU.out).stop HX.out (hL0 ▸ HT.out) HE.out (Ext.auto) hown1 hg1⟩
       case measure => simp [intOf]; omega
     ·have HE := hid (show emptyAt p t = false by simp [emptyAt, hk0])
      go_wp2_with (at_builtin; refine wpList_append_far rfl _ _ rfl W0.heap.size u6 _ _ rfl (by exact own_alloc hown _) _ (.int .i64 t) rfl rfl ?c1 ?c2 ?c3 (fun v' w1 hown1 hg1 hf1 => have hb1 := keeps_blk hown hg1 hs1 hbw; have q0 := cell_of_row w1 w.heap.size (t.toNat * 2) _ _ _ hb1; have q1 := cell_of_row w1 w.heap.size (t.toNat * 2 + 1) _ _ _ hb1; ?_))
      case c1 => simp [go_sem]
      case c2 => omega
      case c3 => simp; omega
      go_roundw
      case rel => exact ⟨k + 1, by go_num, (hL0 ▸ HU.out).stop HX.out (hL0 ▸ HT.out) HE.out (Ext.auto) hown1 hg1⟩
      case measure => simp [intOf]; omega
    ·clear hu
     go_wp2
     go_roundw
     case rel => exact ⟨k + 1, by go_num, (hL0 ▸ HU.out).done HX.out (by rw [hL0]; omega) (Ext.auto)⟩
     case measure => simp [intOf]; omega
  ·obtain rfl : k = l.length := by have := HK.out.le; omega
   go_wp2
   go_ret
   exact RetInts.mk' hown (by rw [List.take_length]) (by rw [List.take_length]) (by omega) (hEx.trans hxw)
structure Wr (B b : Nat) (w w' : World) : Prop where
 os : w'.os = w.os
 tape : w'.tape = w.tape
 output : w'.output = w.output
 size : w.heap.size ≤ w'.heap.size
 keep : ∀ k, k < w.heap.size → k ≠ b → (k < B ∨ ∀ cs fr, blk w k ≠ some (.cells cs 5 fr)) → blk w' k = blk w k
theorem Wr.refl (B b : Nat) (w : World) : Wr B b w w := ⟨rfl, rfl, rfl, Nat.le_refl _, fun _ _ _ _ => rfl⟩
theorem Wr.trans {B b : Nat} {a c d : World} (h : Wr B b a c) (k : Wr B b c d) : Wr B b a d :=
 ⟨k.os.trans h.os, k.tape.trans h.tape, k.output.trans h.output, Nat.le_trans h.size k.size, fun i hi hb hu => by
  have e := h.keep i hi hb hu
  refine (k.keep i (Nat.lt_of_lt_of_le hi h.size) hb ?_).trans e
  rcases hu with hu | hu
  ·exact .inl hu
  ·exact .inr (fun cs fr => by rw [e]; exact hu cs fr)⟩
theorem Wr.ext {B b : Nat} {a c : World} (h : Ext a c) : Wr B b a c := ⟨h.os, h.tape, h.output, h.size, fun k hk _ _ => h.blk k hk⟩
theorem Wr.set {B b i : Nat} {a c : World} (h : Wr B b a c) (v : Value) : Wr B b a (c.setCell ⟨b, i, none⟩ v) :=
 ⟨h.os, h.tape, h.output, by rw [size_set]; exact h.size, fun k hk hb hu => (blk_setCell_past _ _ _ _ hb).trans (h.keep k hk hb hu)⟩
theorem Wr.below {B b : Nat} {a c : World} (h : Wr B b a c) (hb : B ≤ b) : ∀ k, k < B → k < a.heap.size → blk c k = blk a k := fun k hk hl => h.keep k hl (by omega) (.inl hk)
structure Bld (T : TypeId) (B b : Nat) (p : Value) (bs : List Value) (w : World) : Prop where
 hB : B ≤ b
 st : ∃ v, blk w b = some (.cells #[p, v] T (0, 0)) ∧ w.ownsRow B 5 1 v bs.length bs ∧ v.ownBlock ≠ some b
theorem info_byte : (Tryz.prog.info? 5).map (fun i => (i.zero, i.size, i.bytes)) = some (some (.int .u8 0), 1, 1) := by kernel_rfl
theorem own_u8 {w : World} {B n : Nat} {v : Value} {xs : List Value} (h : w.ownsRow B 5 1 v n xs) : ∀ k, v.ownBlock = some k → B ≤ k ∧ ∃ cs fr, blk w k = some (.cells cs 5 fr) := by
 intro k hk
 rcases h.2 with ⟨rfl, _⟩ | ⟨g, cap, cur, rfl, hg, hw, _⟩
 ·cases hk
 ·simp [Value.ownBlock] at hk
  subst hk
  exact ⟨hg, _, _, hw⟩
theorem Wr.grown {B b n : Nat} {a c d : World} {v : Value} {xs : List Value} (h : Wr B b a c) (hg : c.grownBy d v.ownBlock) (ho : c.ownsRow B 5 1 v n xs) : Wr B b a d :=
 h.trans ⟨hg.os, hg.tape, hg.output, hg.size, fun k hk hb hu => hg.block k hk (fun e => by
  obtain ⟨h1, cs, fr, h2⟩ := own_u8 ho k e.symm
  rcases hu with hu | hu
  ·omega
  ·exact hu _ _ h2)⟩
theorem copyCheck_used (b : Nat) (w : World) (h0 : w.cell? ⟨b, 0, none⟩ = some (.pointer (some ⟨b, 0, none⟩))) :
 Calls Tryz.prog 146 #[.pointer (some ⟨b, 0, none⟩)] w (fun e w' => e = .returned (.tuple #[]) ∧ w' = w) := by
 have hsz : (Tryz.prog.info? 106).map (·.size) = some 2 := by kernel_rfl
 obtain ⟨j, hj, hjs⟩ := Option.map_eq_some_iff.1 hsz
 go_enter Tryz.func146, Tryz.ntmps146
 go_wp2
 rw [Lib.run_neq_ptr_same w _ Tryz.underlying103 hj]
 go_wp2
 go_end0
 exact ⟨rfl, rfl⟩
theorem copyCheck_fresh (b : Nat) (v : Value) (w : World) (hb : blk w b = some (.cells #[.pointer none, v] 108 (0, 0))) :
 Calls Tryz.prog 146 #[.pointer (some ⟨b, 0, none⟩)] w (fun e w' => e = .returned (.tuple #[]) ∧ w' = w.setCell ⟨b, 0, none⟩ (.pointer (some ⟨b, 0, none⟩))) := by
 have h0 : w.cell? ⟨b, 0, none⟩ = some (.pointer none) := blk_cell hb 0
 have fz := blk_froz hb
 have hsh : w.shape? b = some (108, 2) := by
  have : w.heap[b]? = some (.cells #[.pointer none, v] 108 (0, 0)) := hb
  simp [World.shape?, this]
 have hsz : (Tryz.prog.info? 106).map (·.size) = some 2 := by kernel_rfl
 obtain ⟨j, hj, hjs⟩ := Option.map_eq_some_iff.1 hsz
 have hlies : liesAt Tryz.prog Tryz.prog.depth 108 (2 / Tryz.prog.cellsOf 108) 0 106 1 = true := by kernel_rfl
 go_enter Tryz.func146, Tryz.ntmps146
 go_wp2
 rw [Lib.run_to_unsafe w ⟨b, 0, none⟩ Tryz.underlying103 Tryz.underlying209 hj (by rw [hjs]; decide) hsh (Nat.zero_lt_succ 1)]
 simp only [Result.andThen]
 rw [Oper.upon_value]
 go_wp2
 rw [run_callFunc_extern Tryz.func170 (by kernel_rfl) (by kernel_rfl) (by kernel_rfl) (e := Extern.AbiNoEscape.same) (by kernel_rfl)]
 rw [Lib.run_noEscape]
 simp only [Result.andThen]
 rw [Oper.upon_value]
 go_wp2
 rw [Lib.run_from_unsafe w ⟨b, 0, none⟩ Tryz.underlying209 Tryz.underlying103 hj hsh hlies]
 simp only [Result.andThen]
 rw [Oper.upon_value]
 go_wp2
 go_end0
 exact ⟨rfl, rfl⟩
theorem own_past {w : World} {b base e size n : Nat} {v : Value} {xs : List Value} (h : w.ownsRow base e size v n xs) (hne : v.ownBlock ≠ some b) (i : Nat) (u : Value) : (w.setCell ⟨b, i, none⟩ u).ownsRow base e size v n xs :=
 own_blocks h fun k hk => blk_setCell_past _ _ _ _ (by rintro rfl; exact hne hk)
def BldI (b : Nat) (p : Value) : Prop := p = .pointer none ∨ p = .pointer (some ⟨b, 0, none⟩)
theorem copyCheck_any (B b : Nat) (p : Value) (bs : List Value) (w : World) (hp : BldI b p) (h : Bld 108 B b p bs w) :
 Calls Tryz.prog 146 #[.pointer (some ⟨b, 0, none⟩)] w (fun e w' => e = .returned (.tuple #[]) ∧ Bld 108 B b (.pointer (some ⟨b, 0, none⟩)) bs w' ∧ Wr B b w w') := by
 obtain ⟨v, hb, ho, hne⟩ := h.st
 rcases hp with rfl | rfl
 ·refine (copyCheck_fresh b v w hb).mono ?_
  rintro e w' ⟨rfl, rfl⟩
  refine ⟨rfl, ⟨h.hB, v, ?_, own_past ho hne _ _, hne⟩, (Wr.refl _ _ _).set _⟩
  rw [blk_setCell_same _ _ _ _ _ _ hb]; rfl
 ·refine (copyCheck_used b w (blk_cell hb 0)).mono ?_
  rintro e w' ⟨rfl, rfl⟩
  exact ⟨rfl, h, Wr.refl _ _ _⟩
theorem byte_cell (w : World) (c : Int) : ∀ j u, ([.int .u8 c] : List Value)[j]? = some u → (w.alloc (.cells #[.int .u8 c] 5)).cell? ((⟨w.heap.size, 0, none⟩ : Addr).add j) = some u := by
 intro j u hj
 match j, hj with
 | 0, hj => simp at hj; subst hj; simp [Addr.add]
theorem Bld.put {T : TypeId} {B b : Nat} {p v v' : Value} {bs' : List Value} {w2 : World} (hB : B ≤ b) (hT : T ≠ 5) (hbk : blk w2 b = some (.cells #[p, v] T (0, 0))) (ho : w2.ownsRow B 5 1 v' bs'.length bs') :
 Bld T B b p bs' (w2.setCell ⟨b, 1, none⟩ v') := by
 have hne : v'.ownBlock ≠ some b := fun e => by
  obtain ⟨-, cs, fr, h⟩ := own_u8 ho b e
  rw [hbk] at h
  injection h with h
  injection h with _ h
  exact hT h
 exact ⟨hB, v', by rw [blk_setCell_same _ _ _ _ _ _ hbk]; rfl, own_past ho hne _ _, hne⟩
theorem WriteByte_any (B b : Nat) (p : Value) (bs : List Value) (c : Int) (w : World) (hp : BldI b p) (h : Bld 108 B b p bs w) (hlen : bs.length + 1 ≤ 100000000) (hBw : B ≤ w.heap.size) :
 Calls Tryz.prog 99 #[.pointer (some ⟨b, 0, none⟩), .int .u8 c] w (fun e w' => e = .returned .nilIface ∧ Bld 108 B b (.pointer (some ⟨b, 0, none⟩)) (bs ++ [.int .u8 c]) w' ∧ Wr B b w w') := by
 obtain ⟨i0, hi, hz0, hz1, hz2⟩ := info_parts info_byte
 go_enter Tryz.func99, Tryz.ntmps99
 go_wp2_with (first
  | (go_at_call 146; (with_reducible refine (copyCheck_any B b p bs _ hp h).mono ?_); rintro e w1 ⟨rfl, h1, hw1⟩; obtain ⟨v, hbk, hown, hne⟩ := h1.st; have c0 := blk_cell hbk 0; have c1 := blk_cell hbk 1; have hsz1 := hw1.size; have hlt := blk_lt hbk)
  | (at_builtin; refine wpList_append_own _ rfl _ _ 104 rfl B 5 i0 (.int .u8 0) 1 1 Tryz.underlying104 hi hz0 hz1 hz2 rfl (by decide) _ _ _ rfl (own_alloc hown _) ⟨w1.heap.size, 0, none⟩ 1 1 [.int .u8 c] rfl rfl (byte_cell w1 c) (by intro u hu; simp at hu; subst hu; rfl) (by unfold maxLen; omega) (by omega) (by simp; omega) ?_
     intro v' w2 hown' hgrow _
     obtain ⟨ga, gc, rfl⟩ := (Sl.of_own hown').form
     have hbb : blk w2 b = some (.cells #[.pointer (some ⟨b, 0, none⟩), v] 108 (0, 0)) := (hgrow.block b (by simp; omega) (fun e => hne e.symm)).trans ((blk_alloc_past _ _ _ hlt).trans hbk)
     have d1 := blk_cell hbb 1
     have fz := blk_froz hbb
     have lb := blk_lt hbb
     have hB2 := h1.hB
     have hW2 : Wr B b w w2 := (hw1.trans (Wr.ext (Ext.alloc (Ext.refl _) _))).grown hgrow (own_alloc hown _)))
 go_ret
 refine ⟨rfl, Bld.put hB2 (by decide) hbb (by simpa using hown'), hW2.set _⟩
theorem WriteString_any (B b : Nat) (p : Value) (bs : List Value) (s : ByteArray) (w : World) (hp : BldI b p) (h : Bld 108 B b p bs w) (hlen : bs.length + s.size ≤ 100000000) (hBw : B ≤ w.heap.size) :
 Calls Tryz.prog 97 #[.pointer (some ⟨b, 0, none⟩), .string s] w (fun e w' => e = .returned (.tuple #[.int .i64 s.size, .nilIface]) ∧ Bld 108 B b (.pointer (some ⟨b, 0, none⟩)) (bs ++ Lib.strCells s) w' ∧ Wr B b w w') := by
 obtain ⟨i0, hi, hz0, hz1, hz2⟩ := info_parts info_byte
 go_enter Tryz.func97, Tryz.ntmps97
 go_wp2_with (first
  | (go_at_call 146; (with_reducible refine (copyCheck_any B b p bs _ hp h).mono ?_); rintro e w1 ⟨rfl, h1, hw1⟩; obtain ⟨v, hbk, hown, hne⟩ := h1.st; have c0 := blk_cell hbk 0; have c1 := blk_cell hbk 1; have hsz1 := hw1.size; have hlt := blk_lt hbk)
  | (at_builtin; refine Lib.wpList_append_own_string _ rfl _ _ 104 9 rfl B 5 i0 Tryz.underlying104 Tryz.underlying9 hi hz0 hz1 hz2 _ _ _ rfl hown s rfl (by unfold maxLen; omega) (by omega) (by omega) ?_
     intro v' w2 hown' hgrow _
     obtain ⟨ga, gc, rfl⟩ := (Sl.of_own hown').form
     have hbb : blk w2 b = some (.cells #[.pointer (some ⟨b, 0, none⟩), v] 108 (0, 0)) := (hgrow.block b hlt (fun e => hne e.symm)).trans hbk
     have d1 := blk_cell hbb 1
     have fz := blk_froz hbb
     have lb := blk_lt hbb
     have hB2 := h1.hB
     have hW2 : Wr B b w w2 := hw1.grown hgrow hown))
 go_ret2
 exact ⟨rfl, Bld.put hB2 (by decide) hbb (by simpa [Lib.strCells_length] using hown'), hW2.set _⟩
theorem String_any (B b : Nat) (p : Value) (l : List UInt8) (w : World) (h : Bld 108 B b p (Lib.byteCells l) w) (h0 : l ≠ []) (hl : l.length ≤ 100000000) :
 Calls Tryz.prog 63 #[.pointer (some ⟨b, 0, none⟩)] w (fun e w' => e = .returned (.string ⟨l.toArray⟩) ∧ Below B w w') := by
 obtain ⟨v, hbk, hown, hne⟩ := h.st
 have hl0 : l.length ≠ 0 := by simpa using h0
 rw [Lib.byteCells_length] at hown
 obtain ⟨g, cap, cur, rfl, hbg, hg, hnc, hcs⟩ : ∃ g cap cur, v = .slice (some ⟨g, 0, none⟩) l.length cap ∧ B ≤ g ∧ w.heap[g]? = some (.cells cur 5 (0, 0)) ∧ l.length ≤ cap ∧ cur.size = cap * 1 := by
  rcases hown.2 with ⟨_, hz⟩ | ⟨g, cap, cur, hv, h1, h2, h3, h4, h5, _⟩
  ·exact absurd hz hl0
  ·exact ⟨g, cap, cur, hv, h1, h2, by omega, by omega⟩
 have c1 : w.drew.cell? ⟨b, 1, none⟩ = some (.slice (some ⟨g, 0, none⟩) l.length cap) := blk_cell (w := w.drew) hbk 1
 have hSD : (Builtin.unsafeSliceData_ #[104] 162 #[.slice (some ⟨g, 0, none⟩) l.length cap]).run Tryz.prog w.drew = .ok (.pointer (some ⟨g, 0, none⟩)) w.drew :=
  Lib.run_unsafeSliceData_row _ _ _ _ _ _ (by omega)
 have hUS : (Builtin.unsafeString_ #[162, 3] 9 #[.pointer (some ⟨g, 0, none⟩), .int .i64 l.length]).run Tryz.prog w.drew = .ok (.string ⟨l.toArray⟩) (w.drew.freeze ⟨g, 0, none⟩ l.length) := by
  refine Lib.run_unsafeString_row w.drew 162 3 9 5 Tryz.underlying162 (by kernel_rfl) g cur.size (by have hg' : w.drew.heap[g]? = some (.cells cur 5 (0, 0)) := hg; simp [World.shape?, hg']) l h0 (by omega) (by omega) ?_
  intro j x hx
  have := hown.cells (g := g) rfl j (.int .u8 x.toNat) (by simp [Lib.byteCells, hx])
  exact this
 have mixed : Tryz.prog.follows .mixedOrders = true := by kernel_rfl
 go_enter Tryz.func63, Tryz.ntmps63
 go_wp2
 go_region_o
 all_goals (go_wp2; go_ret; exact ⟨rfl, Lib.below_freeze (Below.drew (Below.refl B w)) (p := ⟨g, 0, none⟩) hbg _⟩)
structure Lf where
 a : Int
 b : Int
 c : Int
 d : Int
def lfC (l : Lf) : Array Value := #[.int .i64 l.a, .int .i64 l.b, .int .i64 l.c, .int .i64 l.d]
def leftAdd (l : Lf) (k : Int) (e : Bool) : Lf :=
 if k = 0 ∨ k = 6 then l else if k = 2 then { l with b := l.b + 1 } else if k ≠ 3 then { l with a := l.a + 1 } else if e then { l with c := l.c + 1 } else { l with d := l.d + 1 }
def leftUp (p : Pos) : Nat → Lf
 | 0 => ⟨0, 0, 0, 0⟩
 | n + 1 => leftAdd (leftUp p n) (p.kind n) (darkOf n)
structure LfB (l : Lf) (n : Int) : Prop where
 a0 : 0 ≤ l.a
 a1 : l.a ≤ n
 b0 : 0 ≤ l.b
 b1 : l.b ≤ n
 c0 : 0 ≤ l.c
 c1 : l.c ≤ n
 d0 : 0 ≤ l.d
 d1 : l.d ≤ n
theorem LfB.add {l : Lf} {n k : Int} {e : Bool} (h : LfB l n) : LfB (leftAdd l k e) (n + 1) := by
 obtain ⟨h1, h2, h3, h4, h5, h6, h7, h8⟩ := h
 unfold leftAdd
 (repeat' split) <;> (constructor <;> (try dsimp only) <;> omega)
theorem left_bd (p : Pos) : ∀ n : Nat, LfB (leftUp p n) n
 | 0 => by constructor <;> simp [leftUp]
 | n + 1 => by
   have := (left_bd p n).add (k := p.kind n) (e := darkOf n)
   simpa [leftUp] using this
def deadB (l : Lf) : Bool := if 0 < l.a ∨ 1 < l.b then false else if l.b = 1 then decide (l.c = 0 ∧ l.d = 0) else decide (l.c = 0 ∨ l.d = 0)
theorem lf_set {w : World} {c i : Nat} {l l' : Lf} {t : TypeId} {v : Value} (hb : blk w c = some (.cells (lfC l) t (0, 0))) (h : (lfC l).setIfInBounds i v = lfC l') : blk (w.setCell ⟨c, i, none⟩ v) c = some (.cells (lfC l') t (0, 0)) := by
 rw [blk_setCell_same _ _ _ _ _ _ hb, h]
theorem putL_any (l : Lf) (k : Int) (e : Bool) (c : Nat) (w : World) (hb : blk w c = some (.cells (lfC l) 185 (0, 0))) (hl : LfB l 1000) :
 Calls Tryz.prog 136 #[.pointer (some ⟨c, 0, none⟩), .int .i64 k, .bool e] w (fun e' w' => e' = .returned (.tuple #[]) ∧ blk w' c = some (.cells (lfC (leftAdd l k e)) 185 (0, 0)) ∧ Chg c w w') := by
 obtain ⟨a0, a1, b0, b1, c0, c1, d0, d1⟩ := hl
 have hlb := blk_lt hb
 have HB := hid hb
 have e0 : w.cell? ⟨c, 0, none⟩ = some (.int .i64 l.a) := blk_cell hb 0
 have e1 : w.cell? ⟨c, 1, none⟩ = some (.int .i64 l.b) := blk_cell hb 1
 have e2 : w.cell? ⟨c, 2, none⟩ = some (.int .i64 l.c) := blk_cell hb 2
 have e3 : w.cell? ⟨c, 3, none⟩ = some (.int .i64 l.d) := blk_cell hb 3
 have fz := blk_froz hb
 clear hb
 by_cases h0 : k = 0
 ·subst h0
  go_enter Tryz.func136, Tryz.ntmps136
  go_wp2
  go_end0
  exact ⟨rfl, HB.out, Chg.refl _ _⟩
 ·by_cases h6 : k = 6
  ·subst h6
   go_enter Tryz.func136, Tryz.ntmps136
   go_wp2
   go_end0
   exact ⟨rfl, HB.out, Chg.refl _ _⟩
  ·by_cases h2 : k = 2
   ·subst h2
    go_enter Tryz.func136, Tryz.ntmps136
    go_wp2
    go_end0
    exact ⟨rfl, lf_set HB.out rfl, Chg.set (Chg.refl _ _) rfl _⟩
   ·by_cases h3 : k = 3
    ·subst h3
     cases e
     ·go_enter Tryz.func136, Tryz.ntmps136
      go_wp2
      go_end0
      exact ⟨rfl, lf_set HB.out rfl, Chg.set (Chg.refl _ _) rfl _⟩
     ·go_enter Tryz.func136, Tryz.ntmps136
      go_wp2
      go_end0
      exact ⟨rfl, lf_set HB.out rfl, Chg.set (Chg.refl _ _) rfl _⟩
    ·have HL := hid (show leftAdd l k e = { l with a := l.a + 1 } by unfold leftAdd; rw [if_neg (by omega), if_neg h2, if_pos h3])
     have g0 : (k == 0) = false := by simpa using h0
     have g6 : (k == 6) = false := by simpa using h6
     have g2 : (k == 2) = false := by simpa using h2
     have g3 : (k == 3) = false := by simpa using h3
     clear h0 h6 h2 h3
     go_enter Tryz.func136, Tryz.ntmps136
     go_wp2
     go_end0
     refine ⟨rfl, ?_, Chg.set (Chg.refl _ _) rfl _⟩
     rw [HL.out]
     exact lf_set HB.out rfl
theorem lf_all {w : World} {g : Nat} {l0 l : Lf} {t : TypeId} (h : blk w g = some (.cells (lfC l0) t (0, 0))) : blk ((((w.setCell ⟨g, 0, none⟩ (.int .i64 l.a)).setCell ⟨g, 1, none⟩ (.int .i64 l.b)).setCell ⟨g, 2, none⟩ (.int .i64 l.c)).setCell ⟨g, 3, none⟩ (.int .i64 l.d)) g = some (.cells (lfC l) t (0, 0)) :=
 blk_setCell_same _ _ _ _ _ _ (blk_setCell_same _ _ _ _ _ _ (blk_setCell_same _ _ _ _ _ _ (blk_setCell_same _ _ _ _ _ _ h)))
theorem deadOf_any (p : Pos) (w : World) : Calls Tryz.prog 87 #[.agg (posCells p)] w (Ret (.agg (lfC (leftUp p 64))) w) := by
 go_enter Tryz.func87, Tryz.ntmps87
 go_wp2
 go_loopw [8] (fun i wr => ∃ k : Nat, i = .int .i64 k ∧ k ≤ 64 ∧ Ext w wr ∧ blk wr (w.heap.size + 1) = some (.cells (lfC ⟨0, 0, 0, 0⟩) 147 (0, 0)) ∧ blk wr (w.heap.size + 1 + 1) = some (.cells (lfC (leftUp p k)) 185 (0, 0))) (fun i _ => 64 - (intOf i).toNat)
 case atStart => exact ⟨0, rfl, by omega, (Ext.auto), by simp [go_sem]; rfl, by simp [go_sem]; rfl⟩
 case round =>
  obtain ⟨k, rfl, hk, hx, hb1, hb2⟩ := hrel
  have hl2 := blk_lt hb2
  have hB := left_bd p k
  by_cases hlt : k < 64
  ·have hD := fun W => Dark_any (k : Int) W
   have hPU := fun W h => putL_any (leftUp p k) (p.kind k) (darkOf k) (w.heap.size + 1 + 1) W h ⟨hB.a0, by have := hB.a1; omega, hB.b0, by have := hB.b1; omega, hB.c0, by have := hB.c1; omega, hB.d0, by have := hB.d1; omega⟩
   have hU := hid (show leftUp p (k + 1) = leftAdd (leftUp p k) (p.kind k) (darkOf k) from rfl)
   generalize leftUp p k = l at *
   generalize darkOf k = e at *
   have hlx := hx.le
   have hb2' : blk (wr.alloc (.cells #[.int .i64 (p.kind k), .int .i64 (p.side k)] 26)) (w.heap.size + 1 + 1) = some (.cells (lfC l) 185 (0, 0)) := (blk_alloc_past _ _ _ hl2).trans hb2
   have hb1' : blk (wr.alloc (.cells #[.int .i64 (p.kind k), .int .i64 (p.side k)] 26)) (w.heap.size + 1) = some (.cells (lfC ⟨0, 0, 0, 0⟩) 147 (0, 0)) := (blk_alloc_past _ _ _ (by omega)).trans hb1
   have hp1 := blk_alloc_at wr (.cells #[.int .i64 (p.kind k), .int .i64 (p.side k)] 26) _ rfl
   have hx1 : Ext w (wr.alloc (.cells #[.int .i64 (p.kind k), .int .i64 (p.side k)] 26)) := hx.alloc _
   clear hx hb1 hb2
   have HX := hid hx1
   clear hx1
   go_upto_region 5 with (fail)
   generalize wr.alloc (.cells #[.int .i64 (p.kind k), .int .i64 (p.side k)] 26) = W at *
   have d0 : W.cell? ⟨wr.heap.size, 0, none⟩ = some (.int .i64 (p.kind k)) := blk_cell hp1 0
   have hlt1 := blk_lt hp1
   refine wp_region_any (by kernel_rfl) ?_
   refine aTk 0 ?_; (try go_frame)
   refine aTk 2 ?_; (try go_frame)
   refine aRy [1, 3] (aCo (fun K hK => ?_) (aCo (fun K hK => ?_) AllReady.nil))
   ·have HK := hid hK
    clear hK
    go_simp
    refine HK.out _ _ ?_; clear HK; (try go_frame)
    refine aRy [3] (aCo (fun K hK => ?_) AllReady.nil)
    have HK := hid hK
    clear hK
    go_simp
    refine (hD _).mono ?_
    rintro e w8 ⟨rfl, hx8⟩
    have d8 := (hx8.cell _ 0 hlt1).trans d0
    have HX8 := hid ((Ext.refl W).drew.trans hx8)
    refine HK.out _ _ ?_; clear HK; (try go_frame)
    refine aRy [4] (aCo (fun K hK => ?_) AllReady.nil)
    have HK := hid hK
    clear hK
    go_simp
    refine (hPU _ ((HX8.out.blk _ (blk_lt hb2')).trans hb2')).mono ?_
    rintro e w9 ⟨rfl, hb9, hc9⟩
    refine HK.out _ _ ?_; clear HK; (try go_frame)
    refine wpAny_done (by kernel_rfl) ?_ _
    go_wp2
    go_roundw
    case rel => exact ⟨k + 1, by go_num, by omega, Ext.chg (HX.out.trans HX8.out) (by omega) hc9, hc9.cells ((HX8.out.blk _ (blk_lt hb1')).trans hb1') (by omega), by rw [hU.out]; exact hb9⟩
    case measure => simp [intOf]; omega
   ·have HK := hid hK
    clear hK
    go_simp
    refine (hD _).mono ?_
    rintro e w8 ⟨rfl, hx8⟩
    have d8 := (hx8.cell _ 0 hlt1).trans d0
    have HX8 := hid ((Ext.refl W).drew.trans hx8)
    refine HK.out _ _ ?_; clear HK; (try go_frame)
    refine aRy [1] (aCo (fun K hK => ?_) AllReady.nil)
    have HK := hid hK
    clear hK
    go_simp
    refine HK.out _ _ ?_; clear HK; (try go_frame)
    refine aRy [4] (aCo (fun K hK => ?_) AllReady.nil)
    have HK := hid hK
    clear hK
    go_simp
    refine (hPU _ ((HX8.out.blk _ (blk_lt hb2')).trans hb2')).mono ?_
    rintro e w9 ⟨rfl, hb9, hc9⟩
    refine HK.out _ _ ?_; clear HK; (try go_frame)
    refine wpAny_done (by kernel_rfl) ?_ _
    go_wp2
    go_roundw
    case rel => exact ⟨k + 1, by go_num, by omega, Ext.chg (HX.out.trans HX8.out) (by omega) hc9, hc9.cells ((HX8.out.blk _ (blk_lt hb1')).trans hb1') (by omega), by rw [hU.out]; exact hb9⟩
    case measure => simp [intOf]; omega
  ·obtain rfl : k = 64 := by omega
   have e0 : wr.cell? ⟨w.heap.size + 1 + 1, 0, none⟩ = some (.int .i64 (leftUp p 64).a) := blk_cell hb2 0
   have e1 : wr.cell? ⟨w.heap.size + 1 + 1, 1, none⟩ = some (.int .i64 (leftUp p 64).b) := blk_cell hb2 1
   have e2 : wr.cell? ⟨w.heap.size + 1 + 1, 2, none⟩ = some (.int .i64 (leftUp p 64).c) := blk_cell hb2 2
   have e3 : wr.cell? ⟨w.heap.size + 1 + 1, 3, none⟩ = some (.int .i64 (leftUp p 64).d) := blk_cell hb2 3
   have fz := blk_froz hb1
   have f0 : wr.cell? ⟨w.heap.size + 1, 0, none⟩ = some (.int .i64 0) := blk_cell hb1 0
   have f1 : wr.cell? ⟨w.heap.size + 1, 1, none⟩ = some (.int .i64 0) := blk_cell hb1 1
   have f2 : wr.cell? ⟨w.heap.size + 1, 2, none⟩ = some (.int .i64 0) := blk_cell hb1 2
   have f3 : wr.cell? ⟨w.heap.size + 1, 3, none⟩ = some (.int .i64 0) := blk_cell hb1 3
   have hl1 := blk_lt hb1
   generalize leftUp p 64 = l at *
   have HX := hid hx
   have HB1 := hid hb1
   clear hx hb1
   go_wp2
   exact bodyPost_ret (v := .agg (lfC l)) (results_cell rfl rfl (loadVar_row (n := 4) Tryz.underlying147 rfl (by kernel_rfl) (lf_all HB1.out) rfl)) rfl ⟨rfl, (((HX.out.set (by simp) _).set (by simp) _).set (by simp) _).set (by simp) _⟩
theorem deadL_any (l : Lf) (w : World) (hl : LfB l 1000) : Calls Tryz.prog 88 #[.agg (lfC l)] w (Ret (.bool (deadB l)) w) := by
 obtain ⟨a0, a1, b0, b1, c0, c1, d0, d1⟩ := hl
 unfold lfC
 by_cases h1 : 0 < l.a
 ·have HE := hid (show deadB l = false by unfold deadB; rw [if_pos (.inl h1)])
  go_enter Tryz.func88, Tryz.ntmps88
  go_wp2
  all_goals (go_ret; exact Ret.mk' (vbool HE.out.symm) (Ext.auto))
 ·have h1' : l.a = 0 := by omega
  by_cases h2 : 1 < l.b
  ·have HE := hid (show deadB l = false by unfold deadB; rw [if_pos (.inr h2)])
   go_enter Tryz.func88, Tryz.ntmps88
   go_wp2
   all_goals (go_ret; exact Ret.mk' (vbool HE.out.symm) (Ext.auto))
  ·by_cases h3 : l.b = 1
   ·have HE := hid (show deadB l = decide (l.c + l.d = 0) by
     unfold deadB; rw [if_neg (by omega), if_pos h3, Bool.eq_iff_iff]; simp; omega)
    go_enter Tryz.func88, Tryz.ntmps88
    go_wp2
    all_goals (go_ret; exact Ret.mk' (vbool (by rw [HE.out]; go_light; rw [Bool.eq_iff_iff]; simp; try omega)) (Ext.auto))
   ·have HE := hid (show deadB l = decide (l.c = 0 ∨ l.d = 0) by unfold deadB; rw [if_neg (by omega), if_neg h3])
    go_enter Tryz.func88, Tryz.ntmps88
    go_wp2
    all_goals (go_ret; exact Ret.mk' (vbool (by rw [HE.out]; go_light; rw [Bool.eq_iff_iff]; simp; try omega)) (Ext.auto))
theorem left_bd64 (p : Pos) : LfB (leftUp p 64) 1000 := by
 obtain ⟨a0, a1, b0, b1, c0, c1, d0, d1⟩ := left_bd p 64
 constructor <;> omega
theorem deadIs_any (p : Pos) (w : World) : Calls Tryz.prog 45 #[.agg (posCells p)] w (Ret (.bool (deadB (leftUp p 64))) w) := by
 have h1 := fun W => deadOf_any p W
 have h2 := fun W => deadL_any (leftUp p 64) W (left_bd64 p)
 generalize leftUp p 64 = l at *
 generalize lfC l = L at *
 generalize deadB l = b at *
 go_enter Tryz.func45, Tryz.ntmps45
 go_wp2_with (first
  | (go_at_call 87; (with_reducible refine (h1 _).mono ?_); rintro e w1 ⟨rfl, hx1⟩)
  | (go_at_call 88; (with_reducible refine (h2 _).mono ?_); rintro e w2 ⟨rfl, hx2⟩))
 go_ret
 exact Ret.mk' rfl (Ext.trans (Ext.auto) (hx1.trans hx2))
theorem rDead_any (l : Lf) (w : World) (hl : LfB l 1000) : Calls Tryz.prog 125 #[.agg (lfC l)] w (Ret (.bool (deadB l)) w) := by
 obtain ⟨a0, a1, b0, b1, c0, c1, d0, d1⟩ := hl
 unfold lfC
 by_cases h1 : 0 < l.a
 ·have HE := hid (show deadB l = false by unfold deadB; rw [if_pos (.inl h1)])
  go_enter Tryz.func125, Tryz.ntmps125
  go_wp2
  all_goals (go_ret; exact Ret.mk' (vbool HE.out.symm) (Ext.auto))
 ·by_cases h3 : 0 < l.b
  ·have HE := hid (show deadB l = decide (l.b = 1 ∧ l.c ≤ 0 ∧ l.d ≤ 0) by
    unfold deadB
    by_cases h4 : 1 < l.b
    ·rw [if_pos (.inr h4), Bool.eq_iff_iff]; simp; omega
    ·rw [if_neg (by omega), if_pos (by omega), Bool.eq_iff_iff]; simp; omega)
   go_enter Tryz.func125, Tryz.ntmps125
   go_wp2
   all_goals (go_ret; exact Ret.mk' (vbool (by rw [HE.out]; go_light; rw [Bool.eq_iff_iff]; simp; try omega)) (Ext.auto))
  ·have HE := hid (show deadB l = decide (l.c ≤ 0 ∨ l.d ≤ 0) by unfold deadB; rw [if_neg (by omega), if_neg (by omega), Bool.eq_iff_iff]; simp; omega)
   go_enter Tryz.func125, Tryz.ntmps125
   go_wp2
   all_goals (go_ret; exact Ret.mk' (vbool (by rw [HE.out]; go_light; rw [Bool.eq_iff_iff]; simp; try omega)) (Ext.auto))
theorem dark_at {k : Nat} (h : k < 64) : darkOf k = ((k % 8 + k / 8) % 2 == 0) := by
 unfold darkOf
 rw [Bool.eq_iff_iff]
 simp
 omega
theorem rDeadOf_any (p : Pos) (w : World) : Calls Tryz.prog 126 #[.agg (posCells p)] w (Ret (.agg (lfC (leftUp p 64))) w) := by
 go_enter Tryz.func126, Tryz.ntmps126
 go_wp2
 go_loopw [4] (fun i wr => ∃ k : Nat, i = .int .i64 k ∧ k ≤ 64 ∧ Ext w wr ∧ blk wr w.heap.size = some (.cells (posCells p) 30 (0, 0)) ∧ blk wr (w.heap.size + 1) = some (.cells (lfC ⟨0, 0, 0, 0⟩) 179 (0, 0)) ∧ blk wr (w.heap.size + 1 + 1) = some (.cells (lfC (leftUp p k)) 179 (0, 0))) (fun i _ => 64 - (intOf i).toNat)
 case atStart => exact ⟨0, rfl, by omega, (Ext.auto), by simp [go_sem], by simp [go_sem]; rfl, by simp [go_sem]; rfl⟩
 case round =>
  obtain ⟨k, rfl, hk, hx, hp, hb1, hb2⟩ := hrel
  have hl2 := blk_lt hb2
  have hB := left_bd p k
  by_cases hlt : k < 64
  ·have hU := hid (show leftUp p (k + 1) = leftAdd (leftUp p k) (p.kind k) (darkOf k) from rfl)
   have hD := dark_at hlt
   obtain ⟨a0, a1, b0, b1, c0, c1, d0, d1⟩ := hB
   have e0 : wr.cell? ⟨w.heap.size + 1 + 1, 0, none⟩ = some (.int .i64 (leftUp p k).a) := blk_cell hb2 0
   have e1 : wr.cell? ⟨w.heap.size + 1 + 1, 1, none⟩ = some (.int .i64 (leftUp p k).b) := blk_cell hb2 1
   have e2 : wr.cell? ⟨w.heap.size + 1 + 1, 2, none⟩ = some (.int .i64 (leftUp p k).c) := blk_cell hb2 2
   have e3 : wr.cell? ⟨w.heap.size + 1 + 1, 3, none⟩ = some (.int .i64 (leftUp p k).d) := blk_cell hb2 3
   have fz := blk_froz hb2
   have ck : wr.cell? ⟨w.heap.size, k * 2, none⟩ = some (.int .i64 (p.kind k)) := (blk_cell hp (k * 2)).trans (posCells_kind p k hlt)
   have t8 : ((k : Nat) : Int).tmod 8 = k % 8 := by rw [Int.tmod_eq_emod_of_nonneg (by omega)]
   have d8 : ((k : Nat) : Int).tdiv 8 = k / 8 := by rw [Int.tdiv_eq_ediv_of_nonneg (by omega)]
   have m2 : ((k : Int) % 8 + k / 8).tmod 2 = (k % 8 + k / 8) % 2 := by rw [Int.tmod_eq_emod_of_nonneg (by omega)]
   have HB := hid (show blk wr w.heap.size = _ ∧ blk wr (w.heap.size + 1) = _ ∧ blk wr (w.heap.size + 1 + 1) = _ from ⟨hp, hb1, hb2⟩)
   have HX := hid hx
   generalize leftUp p k = l at *
   generalize darkOf k = e at *
   have HD := hid hD
   clear hp hb1 hb2 hx hD
   have fin : ∀ i v l', (lfC l).setIfInBounds i v = lfC l' → leftAdd l (p.kind k) e = l' → Ext w (wr.setCell ⟨w.heap.size + 1 + 1, i, none⟩ v) ∧ blk (wr.setCell ⟨w.heap.size + 1 + 1, i, none⟩ v) w.heap.size = some (.cells (posCells p) 30 (0, 0)) ∧ blk (wr.setCell ⟨w.heap.size + 1 + 1, i, none⟩ v) (w.heap.size + 1) = some (.cells (lfC ⟨0, 0, 0, 0⟩) 179 (0, 0)) ∧ blk (wr.setCell ⟨w.heap.size + 1 + 1, i, none⟩ v) (w.heap.size + 1 + 1) = some (.cells (lfC (leftUp p (k + 1))) 179 (0, 0)) := fun i v l' h1 h2 =>
    ⟨HX.out.set (by simp; omega) _, (blk_setCell_past _ _ _ _ (by simp; omega)).trans HB.out.1, (blk_setCell_past _ _ _ _ (by simp)).trans HB.out.2.1, by rw [hU.out, h2]; exact lf_set HB.out.2.2 h1⟩
   have same : leftAdd l (p.kind k) e = l → Ext w wr ∧ blk wr w.heap.size = some (.cells (posCells p) 30 (0, 0)) ∧ blk wr (w.heap.size + 1) = some (.cells (lfC ⟨0, 0, 0, 0⟩) 179 (0, 0)) ∧ blk wr (w.heap.size + 1 + 1) = some (.cells (lfC (leftUp p (k + 1))) 179 (0, 0)) := fun h2 =>
    ⟨HX.out, HB.out.1, HB.out.2.1, by rw [hU.out, h2]; exact HB.out.2.2⟩
   have FIN := hid fin
   have SAME := hid same
   clear fin same
   generalize hkk : p.kind k = kk at *
   clear hkk
   by_cases h0 : kk = 0 ∨ kk = 6
   ·have HA := hid (show leftAdd l kk e = l by unfold leftAdd; rw [if_pos h0])
    rcases h0 with rfl | rfl
    all_goals
     go_wp2
     go_roundw
     case rel => exact ⟨k + 1, by go_num, by omega, SAME.out HA.out⟩
     case measure => simp [intOf]; omega
   ·have g0 : (kk == 0) = false := by simp; omega
    have g6 : (kk == 6) = false := by simp; omega
    by_cases h2 : kk = 2
    ·have HA := hid (show leftAdd l kk e = { l with b := l.b + 1 } by unfold leftAdd; rw [if_neg h0, if_pos h2])
     subst h2
     go_wp2
     go_roundw
     case rel => exact ⟨k + 1, by go_num, by omega, FIN.out _ _ _ rfl HA.out⟩
     case measure => simp [intOf]; omega
    ·by_cases h3 : kk = 3
     ·cases e
      ·have HA := hid (show leftAdd l kk false = { l with d := l.d + 1 } by unfold leftAdd; rw [if_neg h0, if_neg h2, if_neg (by omega)]; rfl)
       subst h3
       have hpar : (((k : Int) % 8 + k / 8) % 2 == 0) = false := by have := HD.out; simp at this ⊢; omega
       go_wp2
       go_roundw
       case rel => exact ⟨k + 1, by go_num, by omega, FIN.out _ _ _ rfl HA.out⟩
       case measure => simp [intOf]; omega
      ·have HA := hid (show leftAdd l kk true = { l with c := l.c + 1 } by unfold leftAdd; rw [if_neg h0, if_neg h2, if_neg (by omega)]; rfl)
       subst h3
       have hpar : (((k : Int) % 8 + k / 8) % 2 == 0) = true := by have := HD.out; simp at this ⊢; omega
       go_wp2
       go_roundw
       case rel => exact ⟨k + 1, by go_num, by omega, FIN.out _ _ _ rfl HA.out⟩
       case measure => simp [intOf]; omega
     ·have HA := hid (show leftAdd l kk e = { l with a := l.a + 1 } by unfold leftAdd; rw [if_neg h0, if_neg h2, if_pos h3])
      have g2 : (kk == 2) = false := by simpa using h2
      have g3 : (kk == 3) = false := by simpa using h3
      clear h0 h2 h3
      go_wp2
      go_roundw
      case rel => exact ⟨k + 1, by go_num, by omega, FIN.out _ _ _ rfl HA.out⟩
      case measure => simp [intOf]; omega
  ·obtain rfl : k = 64 := by omega
   have e0 : wr.cell? ⟨w.heap.size + 1 + 1, 0, none⟩ = some (.int .i64 (leftUp p 64).a) := blk_cell hb2 0
   have e1 : wr.cell? ⟨w.heap.size + 1 + 1, 1, none⟩ = some (.int .i64 (leftUp p 64).b) := blk_cell hb2 1
   have e2 : wr.cell? ⟨w.heap.size + 1 + 1, 2, none⟩ = some (.int .i64 (leftUp p 64).c) := blk_cell hb2 2
   have e3 : wr.cell? ⟨w.heap.size + 1 + 1, 3, none⟩ = some (.int .i64 (leftUp p 64).d) := blk_cell hb2 3
   have fz := blk_froz hb1
   have f0 : wr.cell? ⟨w.heap.size + 1, 0, none⟩ = some (.int .i64 0) := blk_cell hb1 0
   have f1 : wr.cell? ⟨w.heap.size + 1, 1, none⟩ = some (.int .i64 0) := blk_cell hb1 1
   have f2 : wr.cell? ⟨w.heap.size + 1, 2, none⟩ = some (.int .i64 0) := blk_cell hb1 2
   have f3 : wr.cell? ⟨w.heap.size + 1, 3, none⟩ = some (.int .i64 0) := blk_cell hb1 3
   have hl1 := blk_lt hb1
   generalize leftUp p 64 = l at *
   have HX := hid hx
   have HB1 := hid hb1
   clear hx hb1
   go_wp2
   exact bodyPost_ret (v := .agg (lfC l)) (results_cell rfl rfl (loadVar_row (n := 4) Tryz.underlying179 rfl (by kernel_rfl) (lf_all HB1.out) rfl)) rfl ⟨rfl, (((HX.out.set (by simp) _).set (by simp) _).set (by simp) _).set (by simp) _⟩
end Go.Proofs.YtdmgimfgoajmjaaGreatDoor
