/- Castlings in a move, long steps, squares that are set, castlings that are lost. -/
import Derived.Test.YtdmgimfgoajmjaaGreatDoorC15
import Derived.Test.YtdmgimfgoajmjaaGreatDoorC05
import Derived.Test.YtdmgimfgoajmjaaGreatDoorC01
import Derived.Test.YtdmgimfgoajmjaaGreatDoorC07
import Derived.Test.YtdmgimfgoajmjaaGreatDoorC09
import Derived.MapKept
set_option linter.unusedVariables false
set_option linter.unusedSimpArgs false
set_option maxRecDepth 100000
set_option maxHeartbeats 2000000
namespace Go.Proofs.YtdmgimfgoajmjaaGreatDoor
open Go.RowKit
theorem and16 : ∀ x y : Fin 16, IntKind.i64.wrap ((((BitVec.ofInt 64 (x.val : Int)) &&& (BitVec.ofInt 64 (y.val : Int))).toNat : Nat) : Int) = ((x.val &&& y.val : Nat) : Int) := by decide +kernel
theorem intBits_and (x y : Int) (hx : 0 ≤ x) (hx' : x ≤ 15) (hy : 0 ≤ y) (hy' : y ≤ 15) : Op.intBits .and .i64 x y = pure (.int .i64 ((x.toNat &&& y.toNat : Nat) : Int)) := by
 have e := and16 ⟨x.toNat, by omega⟩ ⟨y.toNat, by omega⟩
 simp only [Int.toNat_of_nonneg hx, Int.toNat_of_nonneg hy] at e
 show (pure (Value.int .i64 (IntKind.i64.wrap ((((BitVec.ofInt 64 x) &&& (BitVec.ofInt 64 y)).toNat : Nat) : Int))) : Sem Value) = _
 rw [e]
theorem bit2 : ∀ x : Fin 16, (x.val &&& 2) = x.val / 2 % 2 * 2 := by decide
theorem bit4 : ∀ x : Fin 16, (x.val &&& 4) = x.val / 4 % 2 * 4 := by decide
theorem bit8 : ∀ x : Fin 16, (x.val &&& 8) = x.val / 8 % 2 * 8 := by decide
@[go_sem high] theorem intBits_2 (x : Int) (hx : 0 ≤ x) (hx' : x ≤ 15) : Op.intBits .and .i64 x 2 = pure (.int .i64 (x / 2 % 2 * 2)) := by
  rw [intBits_and x 2 hx hx' (by decide) (by decide)]
  have := bit2 ⟨x.toNat, by omega⟩
  simp only at this
  congr 2; show ((x.toNat &&& 2 : Nat) : Int) = _; rw [this]; omega
@[go_sem high] theorem intBits_4 (x : Int) (hx : 0 ≤ x) (hx' : x ≤ 15) : Op.intBits .and .i64 x 4 = pure (.int .i64 (x / 4 % 2 * 4)) := by
  rw [intBits_and x 4 hx hx' (by decide) (by decide)]
  have := bit4 ⟨x.toNat, by omega⟩
  simp only at this
  congr 2; show ((x.toNat &&& 4 : Nat) : Int) = _; rw [this]; omega
@[go_sem high] theorem intBits_8 (x : Int) (hx : 0 ≤ x) (hx' : x ≤ 15) : Op.intBits .and .i64 x 8 = pure (.int .i64 (x / 8 % 2 * 8)) := by
  rw [intBits_and x 8 hx hx' (by decide) (by decide)]
  have := bit8 ⟨x.toNat, by omega⟩
  simp only at this
  congr 2; show ((x.toNat &&& 8 : Nat) : Int) = _; rw [this]; omega
theorem tup3 {a a' b b' : Int} {c c' : Bool} (h1 : a = a') (h2 : b = b') (h3 : c = c') : Ending.returned (.tuple #[.int .i64 a, .int .i64 b, .bool c]) = .returned (.tuple #[.int .i64 a', .int .i64 b', .bool c']) := by rw [h1, h2, h3]
def homeOf (s : Int) : Int := if s = 1 then 60 else 4
def rookOf (p : Pos) (m : Mv) (k s : Int) : Int × Int × Bool :=
 if k = 6 ∧ m.fr = homeOf s then
  if m.to_ = homeOf s + 2 then (homeOf s + 3, homeOf s + 1, p.castle / (if s = 1 then 4 else 1) % 2 == 1)
  else if m.to_ = homeOf s - 2 then (homeOf s - 4, homeOf s - 1, p.castle / (if s = 1 then 8 else 2) % 2 == 1) else (0, 0, false)
 else (0, 0, false)
theorem rook_any (p : Pos) (m : Mv) (k s : Int) (b : Nat) (w : World) (hb : blk w b = some (.cells (handCells p m k s) 190 (0, 0))) (hs : s = 0 ∨ s = 1) (p0 : 0 ≤ p.castle) (p1 : p.castle ≤ 15) :
 Calls Tryz.prog 210 #[.pointer (some ⟨b, 0, none⟩)] w (Ret (.tuple #[.int .i64 (rookOf p m k s).1, .int .i64 (rookOf p m k s).2.1, .bool (rookOf p m k s).2.2]) w) := by
 have hlt := blk_lt hb
 have c1 := hc_pk hb
 have c2 := hc_ps hb
 have c3 := hc_to hb
 have c5 := hc_fr hb
 have c6 := hc_castle hb
 clear hb
 by_cases h1 : k = 6
 ·by_cases h2 : m.fr = homeOf s
  ·by_cases h3 : m.to_ = homeOf s + 2
   ·have E := hid (show rookOf p m k s = (homeOf s + 3, homeOf s + 1, p.castle / (if s = 1 then 4 else 1) % 2 == 1) by unfold rookOf; rw [if_pos ⟨h1, h2⟩, if_pos h3])
    rw [h1] at c1; rw [h2] at c5; rw [h3] at c3
    clear h1 h2 h3
    rcases hs with rfl | rfl
    all_goals
     simp only [homeOf, if_true, if_false, reduceIte, Int.reduceAdd, Int.reduceEq] at c3 c5 E
     go_enter Tryz.func210, Tryz.ntmps210
     go_wp2
     refine wp_quiet (by kernel_rfl) (by kernel_rfl) ?_; (repeat (first | go_big_quiet_step (fail) | quiet_step (fail))); refine wpQuiet_nil ?_; intro w1 hx; obtain ⟨hxc, hxf, hxb, hxs⟩ := hx.als; (try have := sA b w1.heap.size); (try have := sW w w1)
     go_wp2
     go_ret3
     exact ⟨tup3 (by rw [E.out]) (by rw [E.out]) (by rw [E.out, Bool.eq_iff_iff]; simp; omega), (Ext.auto)⟩
   ·by_cases h4 : m.to_ = homeOf s - 2
    ·have E := hid (show rookOf p m k s = (homeOf s - 4, homeOf s - 1, p.castle / (if s = 1 then 8 else 2) % 2 == 1) by unfold rookOf; rw [if_pos ⟨h1, h2⟩, if_neg h3, if_pos h4])
     rw [h1] at c1; rw [h2] at c5; rw [h4] at c3
     clear h1 h2 h3 h4
     rcases hs with rfl | rfl
     all_goals
      simp only [homeOf, if_true, if_false, reduceIte, Int.reduceAdd, Int.reduceSub, Int.reduceEq] at c3 c5 E
      go_enter Tryz.func210, Tryz.ntmps210
      go_wp2
      refine wp_quiet (by kernel_rfl) (by kernel_rfl) ?_; (repeat (first | go_big_quiet_step (fail) | quiet_step (fail))); refine wpQuiet_nil ?_; intro w1 hx; obtain ⟨hxc, hxf, hxb, hxs⟩ := hx.als; (try have := sA b w1.heap.size); (try have := sW w w1)
      go_wp2
      go_ret3
      exact ⟨tup3 (by rw [E.out]) (by rw [E.out]) (by rw [E.out, Bool.eq_iff_iff]; simp; omega), (Ext.auto)⟩
    ·have E := hid (show rookOf p m k s = (0, 0, false) by unfold rookOf; rw [if_pos ⟨h1, h2⟩, if_neg h3, if_neg h4])
     rw [h1] at c1; rw [h2] at c5
     clear h1 h2
     rcases hs with rfl | rfl
     all_goals
      simp only [homeOf, if_true, if_false, reduceIte, Int.reduceAdd, Int.reduceSub, Int.reduceEq] at c5 h3 h4
      have g3 := beq_eq_false_iff_ne.2 h3
      have g4 := beq_eq_false_iff_ne.2 h4
      go_enter Tryz.func210, Tryz.ntmps210
      go_wp2
      go_ret3
      exact ⟨tup3 (by rw [E.out]) (by rw [E.out]) (by rw [E.out]), (Ext.auto)⟩
  ·have E := hid (show rookOf p m k s = (0, 0, false) by unfold rookOf; rw [if_neg (fun h => h2 h.2)])
   rw [h1] at c1
   clear h1
   rcases hs with rfl | rfl
   all_goals
    simp only [homeOf, if_true, if_false, reduceIte, Int.reduceEq] at h2
    have g2 := bne_iff_ne.2 h2
    go_enter Tryz.func210, Tryz.ntmps210
    go_wp2
    go_ret3
    exact ⟨tup3 (by rw [E.out]) (by rw [E.out]) (by rw [E.out]), (Ext.auto)⟩
 ·have E := hid (show rookOf p m k s = (0, 0, false) by unfold rookOf; rw [if_neg (fun h => h1 h.1)])
  have g1 := bne_iff_ne.2 h1
  rcases hs with rfl | rfl
  all_goals
   go_enter Tryz.func210, Tryz.ntmps210
   go_wp2
   go_ret3
   exact ⟨tup3 (by rw [E.out]) (by rw [E.out]) (by rw [E.out]), (Ext.auto)⟩
def longB (m : Mv) (k s : Int) : Bool := decide (k = 1 ∧ turnsOf m = 0 ∧ rankOf m.fr = (if s = 1 then 6 else 1) ∧ rankOf m.to_ = (if s = 1 then 4 else 3))
theorem long_any (p : Pos) (m : Mv) (k s : Int) (b : Nat) (w : World) (hb : blk w b = some (.cells (handCells p m k s) 190 (0, 0))) (hs : s = 0 ∨ s = 1) :
 Calls Tryz.prog 211 #[.pointer (some ⟨b, 0, none⟩)] w (Ret (.bool (longB m k s)) w) := by
 have hlt := blk_lt hb
 have T := fun w' (hb' : blk w' b = some (.cells (handCells p m k s) 190 (0, 0))) => turns_any p m k s b w' hb'
 have c1 := hc_pk hb
 have c2 := hc_ps hb
 have c3 := hc_to hb
 have c5 := hc_fr hb
 obtain ⟨b1, b2⟩ := rank_bd m.to_
 obtain ⟨b3, b4⟩ := rank_bd m.fr
 have E := hid (show longB m k s = decide (k = 1 ∧ turnsOf m = 0 ∧ rankOf m.fr = (if s = 1 then 6 else 1) ∧ rankOf m.to_ = (if s = 1 then 4 else 3)) from rfl)
 rcases hs with rfl | rfl
 all_goals
  simp only [if_true, if_false, reduceIte, Int.reduceEq] at E
  go_enter Tryz.func211, Tryz.ntmps211
  go_wp2
  refine wp_quiet (by kernel_rfl) (by kernel_rfl) ?_; (repeat (first | go_big_quiet_step (first | (go_at_call 143; with_reducible exact Calls.reg (Rank_any _ _))) | quiet_step (first | (go_at_call 143; with_reducible exact Calls.reg (Rank_any _ _))))); refine wpQuiet_nil ?_; intro w1 hx; obtain ⟨hxc, hxf, hxb, hxs⟩ := hx.als; (try have := sA b w1.heap.size); (try have := sW w w1)
  go_wp2_with (go_at_call 144; with_reducible refine arm (T _ (by rw [hxb _ hlt]; exact hb)) fun w1 hx hxc hxf hxb hxs => ?_; (try have := sA b w1.heap.size); (try have := sW w w1))
  all_goals (go_ret; exact Ret.mk' (vbool (by go_light; rw [E.out, Bool.eq_iff_iff]; simp; omega)) (Ext.auto))
def putAll (p : Pos) (x y : Int) : List Int → Pos
 | [] => p
 | t :: r => putAll (if 0 ≤ t ∧ t < 64 then p.put t x y else p) x y r
theorem putAll_snoc (x y : Int) : ∀ (l : List Int) (p : Pos) (t : Int), putAll p x y (l ++ [t]) = (if 0 ≤ t ∧ t < 64 then (putAll p x y l).put t x y else putAll p x y l)
 | [], p, t => rfl
 | u :: r, p, t => by rw [List.cons_append, putAll, putAll_snoc x y r]; rfl
theorem put_cells {p : Pos} {m : Mv} {k s x y t : Int} {b : Nat} {w : World} {ty : TypeId} (hb : blk w b = some (.cells (handCells p m k s) ty (0, 0))) (h0 : 0 ≤ t) (h1 : t < 64) :
 blk ((w.setCell ⟨b, t.toNat * 2, none⟩ (.int .i64 x)).setCell ⟨b, t.toNat * 2 + 1, none⟩ (.int .i64 y)) b = some (.cells (handCells (p.put t x y) m k s) ty (0, 0)) := by
 rw [blk_setCell_same _ _ _ _ _ _ (blk_setCell_same _ _ _ _ _ _ hb), hand_put _ _ _ _ _ _ _ h0 h1]
theorem set_any (p : Pos) (m : Mv) (k s x y : Int) (b g : Nat) (t : TypeId) (fr : Nat × Nat) (L : List Int) (n : Nat) (hn : n = L.length) (hle : L.length ≤ 1000) (w : World) (hb : blk w b = some (.cells (handCells p m k s) 190 (0, 0)))
 (hg : blk w g = some (.cells (ints L).toArray t fr)) (hne : g ≠ b) :
 Calls Tryz.prog 212 #[.pointer (some ⟨b, 0, none⟩), .agg #[.int .i64 x, .int .i64 y], .slice (some ⟨g, 0, none⟩) n n] w fun e w' =>
  e = .returned (.tuple #[]) ∧ blk w' b = some (.cells (handCells (putAll p x y L) m k s) 190 (0, 0)) ∧ Chg b w w' := by
 subst hn
 have hlb := blk_lt hb
 have hlg := blk_lt hg
 go_enter Tryz.func212, Tryz.ntmps212
 go_wp2
 go_loopw [10] (fun i wr => ∃ j : Nat, i = .int .i64 j ∧ j ≤ L.length ∧ blk wr b = some (.cells (handCells (putAll p x y (L.take j)) m k s) 190 (0, 0)) ∧ blk wr w.heap.size = some (.cells #[.int .i64 x, .int .i64 y] 26 (0, 0)) ∧ Chg b w wr) (fun i _ => L.length - (intOf i).toNat)
 case atStart => exact ⟨0, rfl, by omega, by simp [go_sem, hlb]; exact hb, by simp [go_sem], (Chg.auto)⟩
 case round =>
  obtain ⟨j, rfl, hj, hbr, hpr, hcr⟩ := hrel
  have hsz := hcr.le
  have hlx := blk_lt hpr
  have hlbr := blk_lt hbr
  have hgr := hcr.cells hg hne
  by_cases hlt : j < L.length
  ·obtain ⟨u, hu⟩ : ∃ u, L[j]? = some u := ⟨_, List.getElem?_eq_getElem hlt⟩
   have cg : wr.cell? ⟨g, j, none⟩ = some (.int .i64 u) := by rw [blk_cell hgr, List.getElem?_toArray]; exact ints_get hu
   have hT : L.take (j + 1) = L.take j ++ [u] := by rw [List.take_add_one, hu]; rfl
   have c0 := blk_cell hpr 0
   have c1 := blk_cell hpr 1
   simp only [List.getElem?_toArray, List.getElem?_cons_zero, List.getElem?_cons_succ] at c0 c1
   have HU := hid hu
   have HT := hid hT
   clear hu hT hg hgr
   by_cases hu64 : 0 ≤ u ∧ u < 64
   ·have hI : isSq u = true := by simp [isSq, hu64]
    have HP := hid (putAll_snoc x y (L.take j) p u)
    rw [if_pos hu64, ← HT.out] at HP
    obtain ⟨u0, u1⟩ := hu64
    have u2 : u.toNat < 64 := by omega
    have d0 := hc_kind hbr _ u2
    have d1 := hc_side hbr _ u2
    have f0 := blk_froz hbr
    have HB := hid hbr
    have HX := hid hpr
    go_wp2_with (go_at_call 142; with_reducible refine arm (Is_any _ _) fun w1 hx hxc hxf hxb hxs => ?_; (try have := sW wr w1); (try have := sW w w1); (try have := sA b w1.heap.size); (try have := sA g w1.heap.size))
    go_still_tail 7, (by kernel_rfl)
    change wpList _ _ _ _ _ w1.drew
    go_wp2
    go_roundw
    case rel =>
     refine ⟨j + 1, by go_num, by omega, ?_, ?_, ?_⟩
     ·rw [HP.out]; exact put_cells ((hxb _ hlbr).trans HB.out) u0 u1
     ·rw [blk_drew, blk_setCell_past _ _ _ _ (by simp; omega), blk_setCell_past _ _ _ _ (by simp; omega)]; exact (hxb _ hlx).trans HX.out
     ·exact Chg.drew (Chg.set (Chg.set (Chg.exts hcr hx) rfl _) rfl _)
    case measure => simp [intOf]; omega
   ·have hI : isSq u = false := by simp [isSq]; omega
    have HP := hid (putAll_snoc x y (L.take j) p u)
    rw [if_neg hu64, ← HT.out] at HP
    have HB := hid hbr
    have HX := hid hpr
    clear hu64
    go_wp2_with (go_at_call 142; with_reducible refine arm (Is_any _ _) fun w1 hx hxc hxf hxb hxs => ?_; (try have := sW wr w1); (try have := sW w w1); (try have := sA b w1.heap.size); (try have := sA g w1.heap.size))
    go_roundw
    case rel =>
     refine ⟨j + 1, by go_num, by omega, ?_, ?_, ?_⟩
     ·rw [HP.out]; exact (hxb _ hlbr).trans HB.out
     ·exact (hxb _ hlx).trans HX.out
     ·exact Chg.exts hcr hx
    case measure => simp [intOf]; omega
  ·obtain rfl : j = L.length := by omega
   rw [List.take_length] at hbr
   have HB := hid hbr
   clear hbr
   go_wp2
   go_end0
   exact ⟨rfl, HB.out, hcr⟩
end Go.Proofs.YtdmgimfgoajmjaaGreatDoor
namespace Go.Proofs.YtdmgimfgoajmjaaGreatDoor
open Go.RowKit Go.MapKept
theorem und_castlemap : Tryz.prog.underlying 272 = some (.map 3 28) := by kernel_rfl
theorem und_int : Tryz.prog.underlying 3 = some (.int .i64) := by kernel_rfl
theorem ins_lit (w : World) (n : Nat) (es : Array MapEntry) (c : Nat) (x : Int) (v : Value) (hn : n = w.heap.size) (hf : Instr.findNow (.int .i64) (.int .i64 x) es.toList 0 = some none) :
 (Instr.mapUpdate 272 (.map (some n)) (.int .i64 x) v).run Tryz.prog (w.alloc (.map es c)) = .ok () (w.alloc (.map (es.push ⟨.int .i64 x, v, c⟩) (c + 1))) := by
 subst hn
 have hd := und_int
 have hg : (w.alloc (.map es c)).heap[w.heap.size]? = some (.map es c) := heap_alloc_new w _
 have hck : (Instr.checkKey false 10000 3 (.int .i64 x)).run Tryz.prog (w.alloc (.map es c)) = .ok () (w.alloc (.map es c)) := run_checkKey hd (by simp [IsKey]) _ _
 have hfk : (Instr.findKey 3 (.int .i64 x) es.toList).run Tryz.prog (w.alloc (.map es c)) = .ok none (w.alloc (.map es c)) := run_findKey hd hf
 unfold Instr.mapUpdate
 simp only [Sem.run_bind, run_underlying und_castlemap, Result.andThen_ok, Go.MapKept.run_getObj_map hg, hck, hfk, Go.MapKept.run_setObj_map _ hg]
 congr 1
 simp only [World.alloc]
 congr 1
 apply Array.ext_getElem?
 intro i
 simp [Array.getElem?_setIfInBounds, Array.getElem?_push]
 by_cases h : w.heap.size = i
 ·simp [h]
 ·simp [h, Ne.symm h]
def lostOf (s : Int) : Int := if s = 4 then 3 else if s = 7 then 1 else if s = 0 then 2 else if s = 60 then 12 else if s = 63 then 4 else if s = 56 then 8 else 0
def lostEs : Array MapEntry := #[⟨.int .i64 4, .int .i64 3, 0⟩, ⟨.int .i64 7, .int .i64 1, 1⟩, ⟨.int .i64 0, .int .i64 2, 2⟩, ⟨.int .i64 60, .int .i64 12, 3⟩, ⟨.int .i64 63, .int .i64 4, 4⟩, ⟨.int .i64 56, .int .i64 8, 5⟩]
theorem zero_castle (w : World) : (zeroValue 28).run Tryz.prog w = .ok (.int .i64 0) w := by kernel_rfl
theorem lookup_lost (w : World) (n c : Nat) (x : Int) (hb : blk w n = some (.map lostEs c)) : (Instr.lookup 272 (.map (some n)) (.int .i64 x) false).run Tryz.prog w = .ok (.int .i64 (lostOf x)) w := by
 have hd := und_int
 have hck : (Instr.checkKey false 10000 3 (.int .i64 x)).run Tryz.prog w = .ok () w := run_checkKey hd (by simp [IsKey]) _ _
 have he : lostEs.isEmpty = false := rfl
 have hfk : ∀ a, Instr.findNow (.int .i64) (.int .i64 x) lostEs.toList 0 = some a → (Instr.findKey 3 (.int .i64 x) lostEs.toList).run Tryz.prog w = .ok a w := fun a h => run_findKey hd h
 have hz := zero_castle w
 unfold Instr.lookup
 simp only [Sem.run_bind, run_underlying und_castlemap, Result.andThen_ok, Go.MapKept.run_getObj_map hb, Sem.run_pure, he, hck]
 by_cases h4 : x = 4
 ·subst h4; rw [hfk (some (0, .int .i64 3)) rfl]; rfl
 by_cases h7 : x = 7
 ·subst h7; rw [hfk (some (1, .int .i64 1)) rfl]; rfl
 by_cases h0 : x = 0
 ·subst h0; rw [hfk (some (2, .int .i64 2)) rfl]; rfl
 by_cases h60 : x = 60
 ·subst h60; rw [hfk (some (3, .int .i64 12)) rfl]; rfl
 by_cases h63 : x = 63
 ·subst h63; rw [hfk (some (4, .int .i64 4)) rfl]; rfl
 by_cases h56 : x = 56
 ·subst h56; rw [hfk (some (5, .int .i64 8)) rfl]; rfl
 ·rw [hfk none (by simp [lostEs, Instr.findNow, Instr.sameNow, beq_eq_false_iff_ne.2 h4, beq_eq_false_iff_ne.2 h7, beq_eq_false_iff_ne.2 h0, beq_eq_false_iff_ne.2 h60, beq_eq_false_iff_ne.2 h63, beq_eq_false_iff_ne.2 h56])]
  simp [hz, lostOf, h4, h7, h0, h60, h63, h56]
theorem lostOf_bd (s : Int) : 0 ≤ lostOf s ∧ lostOf s ≤ 15 := by unfold lostOf; (repeat' split) <;> omega
theorem or16 : ∀ x y : Fin 16, IntKind.i64.wrap ((((BitVec.ofInt 64 (x.val : Int)) ||| (BitVec.ofInt 64 (y.val : Int))).toNat : Nat) : Int) = ((x.val ||| y.val : Nat) : Int) := by decide +kernel
theorem or16_bd : ∀ x y : Fin 16, x.val ||| y.val ≤ 15 := by decide
def orI (x y : Int) : Int := ((x.toNat ||| y.toNat : Nat) : Int)
@[go_sem high] theorem intBits_or (x y : Int) (hx : 0 ≤ x) (hx' : x ≤ 15) (hy : 0 ≤ y) (hy' : y ≤ 15) : Op.intBits .or .i64 x y = pure (.int .i64 (orI x y)) := by
  have e := or16 ⟨x.toNat, by omega⟩ ⟨y.toNat, by omega⟩
  simp only [Int.toNat_of_nonneg hx, Int.toNat_of_nonneg hy] at e
  show (pure (Value.int .i64 (IntKind.i64.wrap ((((BitVec.ofInt 64 x) ||| (BitVec.ofInt 64 y)).toNat : Nat) : Int))) : Sem Value) = _
  rw [e]; rfl
theorem orI_bd (x y : Int) (hx : 0 ≤ x) (hx' : x ≤ 15) (hy : 0 ≤ y) (hy' : y ≤ 15) : 0 ≤ orI x y ∧ orI x y ≤ 15 := by
 have := or16_bd ⟨x.toNat, by omega⟩ ⟨y.toNat, by omega⟩
 simp only at this
 unfold orI; omega
def lostL (l : List Int) : Int := l.foldl (fun o t => orI o (lostOf t)) 0
theorem lostL_snoc (l : List Int) (t : Int) : lostL (l ++ [t]) = orI (lostL l) (lostOf t) := by simp [lostL]
theorem lostL_bd (l : List Int) : 0 ≤ lostL l ∧ lostL l ≤ 15 := by
 have H : ∀ (l : List Int) (a : Int), 0 ≤ a ∧ a ≤ 15 → 0 ≤ l.foldl (fun o t => orI o (lostOf t)) a ∧ l.foldl (fun o t => orI o (lostOf t)) a ≤ 15 := by
  intro l
  induction l with
  | nil => intro a h; exact h
  | cons x r ih => intro a h; exact ih _ (orI_bd _ _ h.1 h.2 (lostOf_bd x).1 (lostOf_bd x).2)
 exact H l 0 (by omega)
theorem lost_any (L : List Int) (n : Nat) (hn : n = L.length) (hle : L.length ≤ 1000) (g : Nat) (t : TypeId) (fr : Nat × Nat) (w : World) (hg : blk w g = some (.cells (ints L).toArray t fr)) :
 Calls Tryz.prog 213 #[.slice (some ⟨g, 0, none⟩) n n] w (Ret (.int .i64 (lostL L)) w) := by
 subst hn
 have hlg := blk_lt hg
 have hmm := @run_makeMap Tryz.prog
 have i1 := ins_lit w w.heap.size #[] 0 4 (.int .i64 3) rfl rfl
 have i2 := ins_lit w w.heap.size _ 1 7 (.int .i64 1) rfl (show Instr.findNow _ _ (#[⟨.int .i64 4, .int .i64 3, 0⟩] : Array MapEntry).toList 0 = _ from rfl)
 have i3 := ins_lit w w.heap.size _ 2 0 (.int .i64 2) rfl (show Instr.findNow _ _ (#[⟨.int .i64 4, .int .i64 3, 0⟩, ⟨.int .i64 7, .int .i64 1, 1⟩] : Array MapEntry).toList 0 = _ from rfl)
 have i4 := ins_lit w w.heap.size _ 3 60 (.int .i64 12) rfl (show Instr.findNow _ _ (#[⟨.int .i64 4, .int .i64 3, 0⟩, ⟨.int .i64 7, .int .i64 1, 1⟩, ⟨.int .i64 0, .int .i64 2, 2⟩] : Array MapEntry).toList 0 = _ from rfl)
 have i5 := ins_lit w w.heap.size _ 4 63 (.int .i64 4) rfl (show Instr.findNow _ _ (#[⟨.int .i64 4, .int .i64 3, 0⟩, ⟨.int .i64 7, .int .i64 1, 1⟩, ⟨.int .i64 0, .int .i64 2, 2⟩, ⟨.int .i64 60, .int .i64 12, 3⟩] : Array MapEntry).toList 0 = _ from rfl)
 have i6 := ins_lit w w.heap.size _ 5 56 (.int .i64 8) rfl (show Instr.findNow _ _ (#[⟨.int .i64 4, .int .i64 3, 0⟩, ⟨.int .i64 7, .int .i64 1, 1⟩, ⟨.int .i64 0, .int .i64 2, 2⟩, ⟨.int .i64 60, .int .i64 12, 3⟩, ⟨.int .i64 63, .int .i64 4, 4⟩] : Array MapEntry).toList 0 = _ from rfl)
 simp only [List.push_toArray, List.cons_append, List.nil_append, Nat.reduceAdd, Nat.zero_add] at i1 i2 i3 i4 i5 i6
 go_enter Tryz.func213, Tryz.ntmps213
 go_wp2
 obtain ⟨W0, hW0⟩ : ∃ W0, W0 = w.alloc (.map lostEs 6) := ⟨_, rfl⟩
 change Code.wp _ _ _ _ (w.alloc (.map lostEs 6))
 rw [← hW0]
 have hm : blk W0 w.heap.size = some (.map lostEs 6) := by rw [hW0]; simp [go_sem]
 have hgW : blk W0 g = _ := (show blk W0 g = blk w g by rw [hW0]; simp [go_sem, hlg]).trans hg
 have hx : Ext w W0 := by rw [hW0]; exact (Ext.auto)
 have hL := fun x => lookup_lost W0 w.heap.size 6 x hm
 clear hW0 hmm hg i1 i2 i3 i4 i5 i6
 go_loop [2, 10] (fun o i => ∃ k : Nat, i = .int .i64 k ∧ k ≤ L.length ∧ o = .int .i64 (lostL (L.take k))) (fun _ i => L.length - (intOf i).toNat)
 case atStart => exact ⟨0, rfl, by omega, rfl⟩
 case round =>
  obtain ⟨k, rfl, hk, rfl⟩ := hrel
  by_cases hlt : k < L.length
  ·obtain ⟨u, hu⟩ : ∃ u, L[k]? = some u := ⟨_, List.getElem?_eq_getElem hlt⟩
   have cg : W0.cell? ⟨g, k, none⟩ = some (.int .i64 u) := by rw [blk_cell hgW, List.getElem?_toArray]; exact ints_get hu
   have hT : L.take (k + 1) = L.take k ++ [u] := by rw [List.take_add_one, hu]; rfl
   obtain ⟨b1, b2⟩ := lostL_bd (L.take k)
   obtain ⟨b3, b4⟩ := lostOf_bd u
   have HT := hid (show lostL (L.take (k + 1)) = orI (lostL (L.take k)) (lostOf u) by rw [hT, lostL_snoc])
   clear hu hT hgW hm
   go_wp2
   go_round
   case rel => exact ⟨k + 1, by go_num, by omega, by rw [HT.out]⟩
   case measure => simp [intOf]; omega
  ·obtain rfl : k = L.length := by omega
   rw [List.take_length]
   go_wp2
   go_ret
   exact Ret.mk' rfl hx
end Go.Proofs.YtdmgimfgoajmjaaGreatDoor
