/- What a piece attacks: the list of the program and the test of the document are one. -/
import Derived.Test.YtdmgimfgoajmjaaGreatDoorC15
import Derived.Test.YtdmgimfgoajmjaaGreatDoorC10
import Derived.Test.YtdmgimfgoajmjaaGreatDoorC12
import Derived.Test.YtdmgimfgoajmjaaGreatDoorC11
import Derived.Test.YtdmgimfgoajmjaaGreatDoorC01
set_option linter.unusedVariables false
set_option linter.unusedSimpArgs false
set_option maxRecDepth 100000
set_option maxHeartbeats 2000000
namespace Go.Proofs.YtdmgimfgoajmjaaGreatDoor
open Go.RowKit
def fd (a b : Int) : Int := b % 8 - a % 8
def rd (a b : Int) : Int := b / 8 - a / 8
def stepD (a b : Int) : Int := 8 * signOf (rd a b) + signOf (fd a b)
def distD (a b : Int) : Nat := if absOf (fd a b) < absOf (rd a b) then (absOf (rd a b)).toNat else (absOf (fd a b)).toNat
def betweenL (a b : Int) : List Int := (List.range (distD a b - 1)).map fun (i : Nat) => a + stepD a b * ((i : Int) + 1)
def openB (p : Pos) (a b : Int) : Bool := (betweenL a b).all (bareB p)
def straightB (a b : Int) : Bool := fd a b == 0 || rd a b == 0
def slantB (a b : Int) : Bool := absOf (fd a b) == absOf (rd a b)
def rAttB (p : Pos) (a b : Int) : Bool :=
 if mayB (p.kind a.toNat) (p.side a.toNat) = true ∧ a ≠ b then
  if p.kind a.toNat = 1 then absOf (fd a b) == 1 && ((p.side a.toNat == 0 && rd a b == 1) || (p.side a.toNat == 1 && rd a b == -1))
  else if p.kind a.toNat = 2 then absOf (fd a b) * absOf (rd a b) == 2
  else if p.kind a.toNat = 6 then decide (absOf (fd a b) ≤ 1) && decide (absOf (rd a b) ≤ 1)
  else if p.kind a.toNat = 4 then straightB a b && openB p a b
  else if p.kind a.toNat = 3 then slantB a b && openB p a b
  else (straightB a b || slantB a b) && openB p a b
 else false
def sq2 (f : Int → Int → Bool) : Bool := (List.range 64).all fun (a : Nat) => (List.range 64).all fun (t : Nat) => f (a : Int) (t : Int)
theorem sq2_at {f : Int → Int → Bool} (h : sq2 f = true) {a t : Int} (a0 : 0 ≤ a) (a1 : a < 64) (t0 : 0 ≤ t) (t1 : t < 64) : f a t = true := by
 unfold sq2 at h
 have h1 := (List.all_eq_true.1 h) a.toNat (List.mem_range.2 (by omega))
 have h2 := (List.all_eq_true.1 h1) t.toNat (List.mem_range.2 (by omega))
 rwa [Int.toNat_of_nonneg a0, Int.toNat_of_nonneg t0] at h2
theorem ck_knight : sq2 (fun a t => (ringL a jumpsW).contains t == (a != t && absOf (fd a t) * absOf (rd a t) == 2)) = true := by decide +kernel
theorem ck_king : sq2 (fun a t => (ringL a (straightW ++ slantW)).contains t == (a != t && (decide (absOf (fd a t) ≤ 1) && decide (absOf (rd a t) ≤ 1)))) = true := by decide +kernel
theorem ck_pawn0 : sq2 (fun a t => (ringL a [(-1, 1), (1, 1)]).contains t == (absOf (fd a t) == 1 && rd a t == 1)) = true := by decide +kernel
theorem ck_pawn1 : sq2 (fun a t => (ringL a [(-1, -1), (1, -1)]).contains t == (absOf (fd a t) == 1 && rd a t == -1)) = true := by decide +kernel
def wayOk (W : List (Int × Int)) (B : Int → Int → Bool) (a : Int) : Bool := W.all fun x => (List.range (rayOf a x.1 x.2).length).all fun i =>
 match (rayOf a x.1 x.2)[i]? with | some t => betweenL a t == (rayOf a x.1 x.2).take i && B a t && a != t && decide (0 ≤ t ∧ t < 64) | none => false
def waysOk (W : List (Int × Int)) (B : Int → Int → Bool) : Bool := (List.range 64).all fun (a : Nat) => wayOk W B (a : Int)
def wayTo (W : List (Int × Int)) (a t : Int) : Bool := W.any fun x => (rayOf a x.1 x.2).contains t
theorem ck_straight : waysOk straightW straightB = true := by decide +kernel
theorem ck_slant : waysOk slantW slantB = true := by decide +kernel
theorem ck_straight2 : sq2 (fun a t => !(a != t && straightB a t) || wayTo straightW a t) = true := by decide +kernel
theorem ck_slant2 : sq2 (fun a t => !(a != t && slantB a t) || wayTo slantW a t) = true := by decide +kernel
theorem mem_upto (p : Pos) : ∀ (l : List Int) (t : Int), t ∈ upto p l ↔ ∃ pre post, l = pre ++ t :: post ∧ pre.all (bareB p) = true
 | [], t => by simp [upto]
 | x :: r, t => by
   unfold upto
   rw [List.mem_cons]
   constructor
   ·rintro (rfl | h)
    ·exact ⟨[], r, rfl, rfl⟩
    ·split at h
     ·rename_i he
      obtain ⟨pre, post, rfl, hp⟩ := (mem_upto p r t).1 h
      refine ⟨x :: pre, post, rfl, ?_⟩
      rw [List.all_cons, hp, Bool.and_true]; exact he
     ·cases h
   ·rintro ⟨pre, post, h, hp⟩
    cases pre with
    | nil => left; cases h; rfl
    | cons y pre =>
      right
      cases h
      rw [List.all_cons, Bool.and_eq_true] at hp
      rw [if_pos (show emptyAt p x = true from hp.1)]
      exact (mem_upto p _ t).2 ⟨pre, post, rfl, hp.2⟩
theorem way_at {W : List (Int × Int)} {B : Int → Int → Bool} {a : Int} (h : waysOk W B = true) (a0 : 0 ≤ a) (a1 : a < 64) {x : Int × Int} (hx : x ∈ W) {i : Nat} {t : Int} (ht : (rayOf a x.1 x.2)[i]? = some t) :
 betweenL a t = (rayOf a x.1 x.2).take i ∧ B a t = true ∧ a ≠ t ∧ 0 ≤ t ∧ t < 64 := by
 unfold waysOk at h
 have h1 := (List.all_eq_true.1 h) a.toNat (List.mem_range.2 (by omega))
 rw [Int.toNat_of_nonneg a0] at h1
 unfold wayOk at h1
 have h2 := (List.all_eq_true.1 h1) x hx
 have h3 := (List.all_eq_true.1 h2) i (List.mem_range.2 (List.getElem?_eq_some_iff.1 ht).1)
 rw [ht] at h3
 simp only [Bool.and_eq_true, beq_iff_eq, bne_iff_ne, decide_eq_true_eq] at h3
 exact ⟨h3.1.1.1, h3.1.1.2, h3.1.2, h3.2⟩
theorem mem_along {W : List (Int × Int)} {B : Int → Int → Bool} (h : waysOk W B = true) (h2 : sq2 (fun a t => !(a != t && B a t) || wayTo W a t) = true) (p : Pos) {a t : Int} (a0 : 0 ≤ a) (a1 : a < 64) :
 t ∈ alongL p a W ↔ 0 ≤ t ∧ t < 64 ∧ a ≠ t ∧ B a t = true ∧ openB p a t = true := by
 unfold alongL
 rw [List.mem_flatMap]
 constructor
 ·rintro ⟨x, hx, ht⟩
  obtain ⟨pre, post, he, hp⟩ := (mem_upto p _ t).1 ht
  have hi : (rayOf a x.1 x.2)[pre.length]? = some t := by rw [he]; simp
  obtain ⟨h1, h3, h4, h5⟩ := way_at h a0 a1 hx hi
  refine ⟨h5.1, h5.2, h4, h3, ?_⟩
  unfold openB
  rw [h1, he, List.take_left]; exact hp
 ·rintro ⟨t0, t1, hne, hB, ho⟩
  have hw := sq2_at h2 a0 a1 t0 t1
  have e1 : (a != t && B a t) = true := by rw [hB, Bool.and_true]; simpa using hne
  rw [e1] at hw
  simp only [Bool.not_true, Bool.false_or] at hw
  unfold wayTo at hw
  rw [List.any_eq_true] at hw
  obtain ⟨x, hx, hc⟩ := hw
  rw [List.contains_iff_mem] at hc
  obtain ⟨i, hi⟩ := List.getElem?_of_mem hc
  obtain ⟨h1, -, -, -⟩ := way_at h a0 a1 hx hi
  refine ⟨x, hx, (mem_upto p _ t).2 ⟨(rayOf a x.1 x.2).take i, (rayOf a x.1 x.2).drop (i + 1), ?_, ?_⟩⟩
  ·obtain ⟨hl, hg⟩ := List.getElem?_eq_some_iff.1 hi
   rw [← hg, List.getElem_cons_drop, List.take_append_drop]
  ·rw [← h1]; exact ho
theorem sq2_mem {L : Int → List Int} {B : Int → Int → Bool} (h : sq2 (fun a t => (L a).contains t == B a t) = true) {a t : Int} (a0 : 0 ≤ a) (a1 : a < 64) (t0 : 0 ≤ t) (t1 : t < 64) : t ∈ L a ↔ B a t = true := by
 have c := sq2_at h a0 a1 t0 t1
 rw [beq_iff_eq] at c
 rw [← c, List.contains_iff_mem]
theorem along_app (p : Pos) (a : Int) (V W : List (Int × Int)) : alongL p a (V ++ W) = alongL p a V ++ alongL p a W := by simp [alongL]
theorem ring_in {s : Int} {l : List (Int × Int)} {t : Int} (h : t ∈ ringL s l) : 0 ≤ t ∧ t < 64 := by
 unfold ringL at h
 rw [List.mem_filter, List.mem_map] at h
 obtain ⟨⟨x, -, rfl⟩, hne⟩ := h
 have hne' : stepOf s x.1 x.2 ≠ -1 := by simpa using hne
 have hb : -1 ≤ stepOf s x.1 x.2 ∧ stepOf s x.1 x.2 ≤ 63 := by unfold stepOf numOf; split <;> omega
 omega
theorem mem_fromL (p : Pos) {a t : Int} (a0 : 0 ≤ a) (a1 : a < 64) : t ∈ fromL p a ↔ 0 ≤ t ∧ t < 64 ∧ rAttB p a t = true := by
 have HS := fun t => mem_along ck_straight ck_straight2 p (a := a) (t := t) a0 a1
 have HD := fun t => mem_along ck_slant ck_slant2 p (a := a) (t := t) a0 a1
 have hM : mayB (p.kind a.toNat) (p.side a.toNat) = true ↔ 1 ≤ p.kind a.toNat ∧ p.kind a.toNat ≤ 6 ∧ (p.side a.toNat = 0 ∨ p.side a.toNat = 1) := by simp [mayB]
 unfold fromL rAttB
 generalize p.kind a.toNat = k at *
 generalize p.side a.toNat = s at *
 dsimp only
 by_cases hs : s = 1 ∨ s = 0
 ·rw [if_pos hs]
  by_cases k1 : k = 1
  ·subst k1
   simp only [if_true]
   have hm : mayB 1 s = true := hM.2 ⟨by omega, by omega, by omega⟩
   rcases hs with rfl | rfl
   ·simp only [hm, true_and, if_true]
    constructor
    ·intro h
     obtain ⟨t0, t1⟩ := ring_in h
     have c := (sq2_mem ck_pawn1 a0 a1 t0 t1).1 h
     simp at c
     exact ⟨t0, t1, by rw [if_pos (by rintro rfl; simp [rd] at c)]; simp [c]⟩
    ·rintro ⟨t0, t1, h⟩
     refine (sq2_mem ck_pawn1 a0 a1 t0 t1).2 ?_
     split at h
     ·simp at h ⊢
      simp [*]
     ·cases h
   ·simp only [hm, true_and, show ¬ (0 : Int) = 1 by decide, if_false]
    constructor
    ·intro h
     obtain ⟨t0, t1⟩ := ring_in h
     have c := (sq2_mem ck_pawn0 a0 a1 t0 t1).1 h
     simp at c
     exact ⟨t0, t1, by rw [if_pos (by rintro rfl; simp [rd] at c)]; simp [c]⟩
    ·rintro ⟨t0, t1, h⟩
     refine (sq2_mem ck_pawn0 a0 a1 t0 t1).2 ?_
     split at h
     ·simp at h ⊢
      simp [*]
     ·cases h
  ·by_cases k2 : k = 2
   ·subst k2
    have hm : mayB 2 s = true := hM.2 ⟨by omega, by omega, by omega⟩
    simp only [hm, true_and, if_true, show ¬ (2 : Int) = 1 by decide, if_false]
    constructor
    ·intro h
     obtain ⟨t0, t1⟩ := ring_in h
     have c := (sq2_mem ck_knight a0 a1 t0 t1).1 h
     simp at c
     exact ⟨t0, t1, by rw [if_pos (by exact c.1)]; simp [c]⟩
    ·rintro ⟨t0, t1, h⟩
     refine (sq2_mem ck_knight a0 a1 t0 t1).2 ?_
     split at h
     ·simp at h ⊢
      simp [*]
     ·cases h
   ·by_cases k6 : k = 6
    ·subst k6
     have hm : mayB 6 s = true := hM.2 ⟨by omega, by omega, by omega⟩
     simp only [hm, true_and, if_true, show ¬ (6 : Int) = 1 by decide, show ¬ (6 : Int) = 2 by decide, if_false]
     constructor
     ·intro h
      obtain ⟨t0, t1⟩ := ring_in h
      have c := (sq2_mem ck_king a0 a1 t0 t1).1 h
      simp at c
      exact ⟨t0, t1, by rw [if_pos (by exact c.1)]; simp [c]⟩
     ·rintro ⟨t0, t1, h⟩
      refine (sq2_mem ck_king a0 a1 t0 t1).2 ?_
      split at h
      ·simp at h ⊢
       simp [*]
      ·cases h
    ·by_cases k4 : k = 4
     ·subst k4
      have hm : mayB 4 s = true := hM.2 ⟨by omega, by omega, by omega⟩
      simp only [hm, true_and, if_true, show ¬ (4 : Int) = 1 by decide, show ¬ (4 : Int) = 2 by decide, show ¬ (4 : Int) = 6 by decide, if_false]
      rw [HS]
      by_cases hne : a = t
      ·simp [hne]
      ·simp [hne]
     ·by_cases k3 : k = 3
      ·subst k3
       have hm : mayB 3 s = true := hM.2 ⟨by omega, by omega, by omega⟩
       simp only [hm, true_and, if_true, show ¬ (3 : Int) = 1 by decide, show ¬ (3 : Int) = 2 by decide, show ¬ (3 : Int) = 6 by decide, show ¬ (3 : Int) = 4 by decide, if_false]
       rw [HD]
       by_cases hne : a = t
       ·simp [hne]
       ·simp [hne]
      ·by_cases k5 : k = 5
       ·subst k5
        have hm : mayB 5 s = true := hM.2 ⟨by omega, by omega, by omega⟩
        simp only [hm, true_and, if_true, show ¬ (5 : Int) = 1 by decide, show ¬ (5 : Int) = 2 by decide, show ¬ (5 : Int) = 6 by decide, show ¬ (5 : Int) = 4 by decide, show ¬ (5 : Int) = 3 by decide, if_false]
        rw [along_app, List.mem_append, HS, HD]
        by_cases hne : a = t
        ·simp [hne]
        ·simp [hne]
         constructor
         ·rintro (h | h) <;> simp [h]
         ·rintro ⟨t0, t1, h | h, ho⟩ <;> simp [*]
       ·have hm : ¬ mayB k s = true := by rw [hM]; omega
        simp [k1, k2, k6, k4, k3, k5, hm]
 ·have hm : ¬ mayB k s = true := by rw [hM]; omega
  rw [if_neg hs, if_neg (by simp [hm])]
  simp
def rToL (p : Pos) (s b : Int) : List Int := ((List.range 64).filter fun a => p.side a == b && rAttB p a s).map (Nat.cast : Nat → Int)
theorem attacksB_r (p : Pos) {s : Int} (b : Int) (s0 : 0 ≤ s) (s1 : s < 64) {a : Nat} (ha : a < 64) : attacksB p s b a = (p.side a == b && rAttB p a s) := by
 unfold attacksB
 congr 1
 have h := mem_fromL p (a := (a : Int)) (t := s) (by omega) (by omega)
 rw [Bool.eq_iff_iff, List.contains_iff_mem, h]
 simp [s0, s1]
theorem attackers_eq (p : Pos) {s : Int} (b : Int) (s0 : 0 ≤ s) (s1 : s < 64) : attackersL p s b 64 = rToL p s b := by
 unfold attackersL rToL
 congr 1
 refine List.filter_congr fun a ha => ?_
 have ha := List.mem_range.1 ha
 unfold attacksB
 congr 1
 have h := mem_fromL p (a := (a : Int)) (t := s) (by omega) (by omega)
 rw [Bool.eq_iff_iff, List.contains_iff_mem, h]
 simp [s0, s1]
def nthD (a b : Int) (k : Nat) : Int := a + stepD a b * ((k : Int) + 1)
theorem ck_between : sq2 (fun a t => !(a != t && (straightB a t || slantB a t)) || ((List.range (distD a t)).all (fun i => decide (0 ≤ nthD a t i ∧ nthD a t i < 64) && ((nthD a t i == t) == (i + 1 == distD a t)) && (decide (distD a t ≤ i + 1) || decide ((t - nthD a t (i + 1)).natAbs < (t - nthD a t i).natAbs))) && decide (1 ≤ distD a t ∧ distD a t ≤ 7))) = true := by decide +kernel
theorem between_at {a b : Int} (a0 : 0 ≤ a) (a1 : a < 64) (b0 : 0 ≤ b) (b1 : b < 64) (hne : a ≠ b) (hl : (straightB a b || slantB a b) = true) :
 1 ≤ distD a b ∧ distD a b ≤ 7 ∧ ∀ i, i < distD a b → 0 ≤ nthD a b i ∧ nthD a b i < 64 ∧ (nthD a b i = b ↔ i + 1 = distD a b) ∧ (i + 1 < distD a b → (b - nthD a b (i + 1)).natAbs < (b - nthD a b i).natAbs) := by
 have h := sq2_at ck_between a0 a1 b0 b1
 have e : (a != b && (straightB a b || slantB a b)) = true := by rw [hl, Bool.and_true]; simpa using hne
 rw [e] at h
 simp only [Bool.not_true, Bool.false_or, Bool.and_eq_true, decide_eq_true_eq, List.all_eq_true, List.mem_range] at h
 refine ⟨h.2.1, h.2.2, fun i hi => ?_⟩
 have h1 := h.1 i hi
 obtain ⟨⟨h3, h2⟩, h4⟩ := h1
 rw [beq_iff_eq, Bool.eq_iff_iff, beq_iff_eq, beq_iff_eq] at h2
 refine ⟨h3.1, h3.2, h2, fun hlt => ?_⟩
 rw [Bool.or_eq_true, decide_eq_true_eq, decide_eq_true_eq] at h4
 rcases h4 with h4 | h4
 ·omega
 ·exact h4
theorem sign_bd (n : Int) : -1 ≤ signOf n ∧ signOf n ≤ 1 := by unfold signOf; split <;> (try split) <;> omega
structure OpenAt (p : Pos) (a b : Int) (w : World) (k : Nat) (wr : World) : Prop where
 lt : k < distD a b
 ok : ∀ i, i < k → bareB p (nthD a b i) = true
 c : blk wr w.heap.size = some (.cells (posCells p) 30 (0, 0))
 x : Ext w wr
theorem open_all {p : Pos} {a b : Int} : openB p a b = true ↔ ∀ i, i < distD a b - 1 → bareB p (nthD a b i) = true := by
 unfold openB betweenL
 rw [List.all_eq_true]
 constructor
 ·intro h i hi
  exact h _ (List.mem_map.2 ⟨i, List.mem_range.2 hi, rfl⟩)
 ·intro h x hx
  obtain ⟨i, hi, rfl⟩ := List.mem_map.1 hx
  exact h i (List.mem_range.1 hi)
theorem OpenAt.next {p : Pos} {a b : Int} {w wr wr' : World} {k : Nat} (h : OpenAt p a b w k wr) (hlt : k + 1 < distD a b) (hok : bareB p (nthD a b k) = true) (hx : Ext wr wr') : OpenAt p a b w (k + 1) wr' := by
 refine ⟨hlt, fun i hi => ?_, (hx.blk _ (blk_lt h.c)).trans h.c, h.x.trans hx⟩
 by_cases e : i = k
 ·rw [e]; exact hok
 ·exact h.ok i (by omega)
theorem nth_succ (a b : Int) (k : Nat) : nthD a b (k + 1) = nthD a b k + (8 * signOf (rd a b) + signOf (fd a b)) := by
 unfold nthD
 rw [show (((k + 1 : Nat) : Int) + 1) = (k + 1 : Int) + 1 by omega, Int.mul_add (stepD a b)]
 show _ = _ + stepD a b
 omega
theorem nth_zero (a b : Int) : nthD a b 0 = a + (8 * signOf (rd a b) + signOf (fd a b)) := by
 unfold nthD stepD; omega
theorem rOpen_any (p : Pos) (a b : Int) (w : World) (a0 : 0 ≤ a) (a1 : a < 64) (b0 : 0 ≤ b) (b1 : b < 64) (hne : a ≠ b) (hl : (straightB a b || slantB a b) = true) :
 Calls Tryz.prog 217 #[.agg (posCells p), .int .i64 a, .int .i64 b] w (Ret (.bool (openB p a b)) w) := by
 obtain ⟨hd0, hd1, hN⟩ := between_at a0 a1 b0 b1 hne hl
 have HZ := hid (nth_zero a b)
 have HS := hid (nth_succ a b)
 have HN := hid hN
 have HA : ∀ w, Calls Tryz.prog 215 #[.int .i64 a, .int .i64 b] w (Ret (.tuple #[.int .i64 (fd a b), .int .i64 (rd a b)]) w) := fun w => rApart_any a b w a0 a1 b0 b1
 obtain ⟨s0, s1⟩ := sign_bd (rd a b)
 obtain ⟨s2, s3⟩ := sign_bd (fd a b)
 have hO := @open_all p a b
 have HOP := @OpenAt.next p a b w
 have hn0 := (hN 0 (by omega)).1
 have hn1 := (hN 0 (by omega)).2.1
 have HD := hid (And.intro hd0 hd1)
 clear hne hl hN hd0 hd1
 go_enter Tryz.func217, Tryz.ntmps217
 go_wp2_with (first | (go_at_call 215; with_reducible refine arm (HA _) fun w1 hx hxc hxf hxb hxs => ?_; (try have := sW w w1)) | (go_at_call 238; with_reducible refine arm (rSign_any _ _) fun w1 hx hxc hxf hxb hxs => ?_; (try have := sW w w1)))
 go_loopw [10] (fun i wr => ∃ k : Nat, i = .int .i64 (nthD a b k) ∧ OpenAt p a b w k wr) (fun i _ => (b - intOf i).natAbs)
 case atStart => exact ⟨0, by rw [HZ.out], HD.out.1, by omega, by go_simp, (Ext.auto)⟩
 case round =>
  obtain ⟨k, rfl, hk⟩ := hrel
  obtain ⟨n0, n1, n2, n3⟩ := HN.out k hk.lt
  have hs := HS.out k
  have hn4 := fun h => HN.out (k + 1) h
  generalize hx : nthD a b k = x at *
  have c0 := cell_of_row wr w.heap.size (x.toNat * 2) _ _ _ hk.c
  have c1 := cell_of_row wr w.heap.size (x.toNat * 2 + 1) _ _ _ hk.c
  have x2 : x.toNat < 64 := by omega
  have hall : k + 1 = distD a b → openB p a b = true := fun e => hO.2 fun i hi => hk.ok i (by omega)
  have hno : k + 1 < distD a b → bareB p x = false → openB p a b = false := fun h e => by
   rw [Bool.eq_false_iff]; intro h'
   have := hO.1 h' k (by omega)
   rw [hx, e] at this; cases this
  have hnext := fun wr' => HOP (wr' := wr') hk
  rw [hx] at hnext
  have hlt := hk.lt
  have hc := hk.c
  have hxw := hk.x
  have hlb := blk_lt hk.c
  have hall' := hid hall
  have hno' := hid hno
  have hnext' := hid hnext
  have N2 := hid n2
  have N3 := hid n3
  have HX := hid hx
  have HS2 := hid hs
  clear hall hno hnext hk hO HOP n2 n3 hx hs hn4
  by_cases he : k + 1 = distD a b
  ·have e1 : (x == b) = true := by simpa using N2.out.2 he
   go_wp2
   go_ret
   exact Ret.mk' (vbool (hall'.out he).symm) (Ext.auto)
  ·have e1 : (x == b) = false := by simpa using (fun h => he (N2.out.1 h))
   have HLT := hid (show k + 1 < distD a b by omega)
   clear he
   cases hb : bareB p x
   ·have HB := hid hb
    by_cases ek : p.kind x.toNat = 0
    ·have es : (p.side x.toNat == 0) = false := by
      rw [← hb]; simp [bareB, ek]
     clear hb
     go_wp2
     all_goals (go_ret; exact Ret.mk' (vbool (hno'.out HLT.out HB.out).symm) (Ext.auto))
    ·have ek' : (p.kind x.toNat == 0) = false := by simpa using ek
     clear ek hb
     go_wp2
     all_goals (go_ret; exact Ret.mk' (vbool (hno'.out HLT.out HB.out).symm) (Ext.auto))
   ·have HB := hid hb
    have e2 : p.kind x.toNat = 0 ∧ p.side x.toNat = 0 := by simpa [bareB] using hb
    obtain ⟨e3, e4⟩ := e2
    clear hb
    go_wp2
    go_roundw
    case rel => exact ⟨k + 1, by rw [HS2.out], hnext'.out _ HLT.out HB.out (Ext.auto)⟩
    case measure =>
     have h1 := N3.out HLT.out
     rw [HS2.out] at h1
     simpa [intOf] using h1
theorem abs_bd (b : Int) (h0 : -7 ≤ b) (h1 : b ≤ 7) : 0 ≤ absOf b ∧ absOf b ≤ 7 := by unfold absOf; split <;> omega
theorem mul_small {x y : Int} (h0 : 0 ≤ x) (h1 : x ≤ 7) (h2 : 0 ≤ y) (h3 : y ≤ 7) : wrap64 (x * y) = x * y := by
 have h4 : 0 ≤ x * y := Int.mul_nonneg h0 h2
 have h5 : x * y ≤ 7 * 7 := Int.mul_le_mul h1 h3 h2 (by omega)
 unfold wrap64; omega
theorem fd_bd {a b : Int} (a0 : 0 ≤ a) (a1 : a < 64) (b0 : 0 ≤ b) (b1 : b < 64) : -7 ≤ fd a b ∧ fd a b ≤ 7 ∧ -7 ≤ rd a b ∧ rd a b ≤ 7 := by unfold fd rd; omega
theorem rAtt_any (p : Pos) (a b : Int) (w : World) (a0 : 0 ≤ a) (a1 : a < 64) (b0 : 0 ≤ b) (b1 : b < 64) :
    Calls Tryz.prog 185 #[.agg (posCells p), .int .i64 a, .int .i64 b] w (Ret (.bool (rAttB p a b)) w) := by
  have HA : ∀ w, Calls Tryz.prog 215 #[.int .i64 a, .int .i64 b] w (Ret (.tuple #[.int .i64 (fd a b), .int .i64 (rd a b)]) w) := fun w => rApart_any a b w a0 a1 b0 b1
  have HO : ∀ w, a ≠ b → (straightB a b || slantB a b) = true → Calls Tryz.prog 217 #[.agg (posCells p), .int .i64 a, .int .i64 b] w (Ret (.bool (openB p a b)) w) := fun w => rOpen_any p a b w a0 a1 b0 b1
  obtain ⟨d0, d1, d2, d3⟩ := fd_bd a0 a1 b0 b1
  obtain ⟨q0, q1⟩ := abs_bd _ d0 d1
  obtain ⟨q2, q3⟩ := abs_bd _ d2 d3
  have a2 : a.toNat < 64 := by omega
  cases hm : mayB (p.kind a.toNat) (p.side a.toNat)
  · have HE := hid (show rAttB p a b = false by unfold rAttB; rw [if_neg (by rw [hm]; rintro ⟨h, -⟩; cases h)])
    go_enter Tryz.func185, Tryz.ntmps185
    go_wp2_with (first | (go_at_call 165; with_reducible refine arm (rMay_any _ _ _) fun w1 hx hxc hxf hxb hxs => ?_; (try have := sW w w1)))
    all_goals (go_ret; exact Ret.mk' (vbool HE.out.symm) (Ext.auto))
  · by_cases hab : a = b
    · have HE := hid (show rAttB p a b = false by unfold rAttB; rw [if_neg (fun h => h.2 hab)])
      have e1 : (a == b) = true := by simpa using hab
      clear hab
      go_enter Tryz.func185, Tryz.ntmps185
      go_wp2_with (first | (go_at_call 165; with_reducible refine arm (rMay_any _ _ _) fun w1 hx hxc hxf hxb hxs => ?_; (try have := sW w w1)))
      all_goals (go_ret; exact Ret.mk' (vbool HE.out.symm) (Ext.auto))
    · have e1 : (a == b) = false := by simpa using hab
      have HE : ∀ X, (if p.kind a.toNat = 1 then absOf (fd a b) == 1 && ((p.side a.toNat == 0 && rd a b == 1) || (p.side a.toNat == 1 && rd a b == -1))
    else if p.kind a.toNat = 2 then absOf (fd a b) * absOf (rd a b) == 2
    else if p.kind a.toNat = 6 then decide (absOf (fd a b) ≤ 1) && decide (absOf (rd a b) ≤ 1)
    else if p.kind a.toNat = 4 then straightB a b && openB p a b
    else if p.kind a.toNat = 3 then slantB a b && openB p a b
    else (straightB a b || slantB a b) && openB p a b) = X → Hid (rAttB p a b = X) := by
        intro X h
        exact hid (by unfold rAttB; rw [if_pos ⟨hm, hab⟩, h])
      have HAB := hid hab
      clear hab
      by_cases k1 : p.kind a.toNat = 1
      · have HE := HE _ (if_pos k1)
        have t1 : (p.kind a.toNat == 1) = true := by simpa using k1
        clear k1 HO
        generalize hf : fd a b = f at *
        generalize hr : rd a b = r at *
        go_enter Tryz.func185, Tryz.ntmps185
        go_wp2_with (first | (go_at_call 165; with_reducible refine arm (rMay_any _ _ _) fun w1 hx hxc hxf hxb hxs => ?_; (try have := sW w w1)) | (go_at_call 215; with_reducible refine arm (HA _) fun w1 hx hxc hxf hxb hxs => ?_; (try have := sW w w1)) | (go_at_call 216; with_reducible refine arm (rAbs_any _ _ (by omega) (by omega)) fun w1 hx hxc hxf hxb hxs => ?_; (try have := sW w w1)))
        all_goals (go_ret; exact Ret.mk' (vbool (by rw [HE.out]; go_light; simp_all)) (Ext.auto))
      · have t1 : (p.kind a.toNat == 1) = false := by simpa using k1
        have HE := fun X h => HE X ((if_neg k1).trans h)
        clear k1
        by_cases k2 : p.kind a.toNat = 2
        · have HE := HE _ (if_pos k2)
          have t2 : (p.kind a.toNat == 2) = true := by simpa using k2
          clear k2 HO
          generalize hf : fd a b = f at *
          generalize hr : rd a b = r at *
          go_enter Tryz.func185, Tryz.ntmps185
          go_wp2_with (first | (go_at_call 165; with_reducible refine arm (rMay_any _ _ _) fun w1 hx hxc hxf hxb hxs => ?_; (try have := sW w w1)) | (go_at_call 215; with_reducible refine arm (HA _) fun w1 hx hxc hxf hxb hxs => ?_; (try have := sW w w1)) | (go_at_call 216; with_reducible refine arm (rAbs_any _ _ (by omega) (by omega)) fun w1 hx hxc hxf hxb hxs => ?_; (try have := sW w w1)))
          all_goals (go_ret; exact Ret.mk' (vbool (by rw [HE.out]; go_light; first | (rw [mul_small (abs_bd _ (by omega) (by omega)).1 (abs_bd _ (by omega) (by omega)).2 (abs_bd _ (by omega) (by omega)).1 (abs_bd _ (by omega) (by omega)).2]; done) | (rw [mul_small (abs_bd _ (by omega) (by omega)).1 (abs_bd _ (by omega) (by omega)).2 (abs_bd _ (by omega) (by omega)).1 (abs_bd _ (by omega) (by omega)).2]; subst_vars; simp_all))) (Ext.auto))
        · have t2 : (p.kind a.toNat == 2) = false := by simpa using k2
          have HE := fun X h => HE X ((if_neg k2).trans h)
          clear k2
          by_cases k6 : p.kind a.toNat = 6
          · have HE := HE _ (if_pos k6)
            have t6 : (p.kind a.toNat == 6) = true := by simpa using k6
            clear k6 HO
            generalize hf : fd a b = f at *
            generalize hr : rd a b = r at *
            go_enter Tryz.func185, Tryz.ntmps185
            go_wp2_with (first | (go_at_call 165; with_reducible refine arm (rMay_any _ _ _) fun w1 hx hxc hxf hxb hxs => ?_; (try have := sW w w1)) | (go_at_call 215; with_reducible refine arm (HA _) fun w1 hx hxc hxf hxb hxs => ?_; (try have := sW w w1)) | (go_at_call 216; with_reducible refine arm (rAbs_any _ _ (by omega) (by omega)) fun w1 hx hxc hxf hxb hxs => ?_; (try have := sW w w1)))
            all_goals (go_ret; exact Ret.mk' (vbool (by rw [HE.out]; go_light; subst_vars; rw [Bool.eq_iff_iff]; simp_all; try omega)) (Ext.auto))
          · have t6 : (p.kind a.toNat == 6) = false := by simpa using k6
            have HE := fun X h => HE X ((if_neg k6).trans h)
            clear k6
            by_cases k4 : p.kind a.toNat = 4
            · have HE := HE _ (if_pos k4)
              have t4 : (p.kind a.toNat == 4) = true := by simpa using k4
              clear k4
              have hes : straightB a b = (fd a b == 0 || rd a b == 0) := rfl
              have heq : slantB a b = (absOf (fd a b) == absOf (rd a b)) := rfl
              cases h1 : (fd a b == 0) <;> cases h2 : (rd a b == 0) <;> cases h3 : (absOf (fd a b) == absOf (rd a b))
              all_goals
                rw [h1, h2] at hes
                rw [h3] at heq
                first | (have HL := hid (show (straightB a b || slantB a b) = true by rw [hes, heq]; rfl)) | (have HL := HAB)
                have HES := hid hes
                have HEQ := hid heq
                clear hes heq
                go_enter Tryz.func185, Tryz.ntmps185
                go_wp2_with (first | (go_at_call 165; with_reducible refine arm (rMay_any _ _ _) fun w1 hx hxc hxf hxb hxs => ?_; (try have := sW w w1)) | (go_at_call 215; with_reducible refine arm (HA _) fun w1 hx hxc hxf hxb hxs => ?_; (try have := sW w w1)) | (go_at_call 216; with_reducible refine arm (rAbs_any _ _ (by omega) (by omega)) fun w1 hx hxc hxf hxb hxs => ?_; (try have := sW w w1)) | (go_at_call 217; with_reducible refine arm (HO _ HAB.out HL.out) fun w1 hx hxc hxf hxb hxs => ?_; (try have := sW w w1)))
                all_goals (go_ret; exact Ret.mk' (vbool (by rw [HE.out]; (try rw [HES.out]); (try rw [HEQ.out]); simp)) (Ext.auto))
            · have t4 : (p.kind a.toNat == 4) = false := by simpa using k4
              have HE := fun X h => HE X ((if_neg k4).trans h)
              clear k4
              by_cases k3 : p.kind a.toNat = 3
              · have HE := HE _ (if_pos k3)
                have t3 : (p.kind a.toNat == 3) = true := by simpa using k3
                clear k3
                have hes : straightB a b = (fd a b == 0 || rd a b == 0) := rfl
                have heq : slantB a b = (absOf (fd a b) == absOf (rd a b)) := rfl
                cases h1 : (fd a b == 0) <;> cases h2 : (rd a b == 0) <;> cases h3 : (absOf (fd a b) == absOf (rd a b))
                all_goals
                  rw [h1, h2] at hes
                  rw [h3] at heq
                  first | (have HL := hid (show (straightB a b || slantB a b) = true by rw [hes, heq]; rfl)) | (have HL := HAB)
                  have HES := hid hes
                  have HEQ := hid heq
                  clear hes heq
                  go_enter Tryz.func185, Tryz.ntmps185
                  go_wp2_with (first | (go_at_call 165; with_reducible refine arm (rMay_any _ _ _) fun w1 hx hxc hxf hxb hxs => ?_; (try have := sW w w1)) | (go_at_call 215; with_reducible refine arm (HA _) fun w1 hx hxc hxf hxb hxs => ?_; (try have := sW w w1)) | (go_at_call 216; with_reducible refine arm (rAbs_any _ _ (by omega) (by omega)) fun w1 hx hxc hxf hxb hxs => ?_; (try have := sW w w1)) | (go_at_call 217; with_reducible refine arm (HO _ HAB.out HL.out) fun w1 hx hxc hxf hxb hxs => ?_; (try have := sW w w1)))
                  all_goals (go_ret; exact Ret.mk' (vbool (by rw [HE.out]; (try rw [HES.out]); (try rw [HEQ.out]); simp)) (Ext.auto))
              · have t3 : (p.kind a.toNat == 3) = false := by simpa using k3
                have HE := HE _ (if_neg k3)
                clear k3
                have hes : straightB a b = (fd a b == 0 || rd a b == 0) := rfl
                have heq : slantB a b = (absOf (fd a b) == absOf (rd a b)) := rfl
                cases h1 : (fd a b == 0) <;> cases h2 : (rd a b == 0) <;> cases h3 : (absOf (fd a b) == absOf (rd a b))
                all_goals
                  rw [h1, h2] at hes
                  rw [h3] at heq
                  first | (have HL := hid (show (straightB a b || slantB a b) = true by rw [hes, heq]; rfl)) | (have HL := HAB)
                  have HES := hid hes
                  have HEQ := hid heq
                  clear hes heq
                  go_enter Tryz.func185, Tryz.ntmps185
                  go_wp2_with (first | (go_at_call 165; with_reducible refine arm (rMay_any _ _ _) fun w1 hx hxc hxf hxb hxs => ?_; (try have := sW w w1)) | (go_at_call 215; with_reducible refine arm (HA _) fun w1 hx hxc hxf hxb hxs => ?_; (try have := sW w w1)) | (go_at_call 216; with_reducible refine arm (rAbs_any _ _ (by omega) (by omega)) fun w1 hx hxc hxf hxb hxs => ?_; (try have := sW w w1)) | (go_at_call 217; with_reducible refine arm (HO _ HAB.out HL.out) fun w1 hx hxc hxf hxb hxs => ?_; (try have := sW w w1)))
                  all_goals (go_ret; exact Ret.mk' (vbool (by rw [HE.out]; (try rw [HES.out]); (try rw [HEQ.out]); simp)) (Ext.auto))
structure ToAt (p : Pos) (s b : Int) (W0 : World) (k : Nat) (v : Value) (wr : World) : Prop where
 le : k ≤ 64
 own : wr.ownsRow W0.heap.size 3 1 v (attackersL p s b k).length (ints (attackersL p s b k))
 x : Ext W0 wr
theorem ToAt.no {p : Pos} {s b : Int} {W0 wr wr' : World} {k : Nat} {v : Value} (h : ToAt p s b W0 k v wr) (hlt : k < 64) (hne : attacksB p s b k = false) (hx : Ext wr wr') : ToAt p s b W0 (k + 1) v wr' := by
 have e : attackersL p s b (k + 1) = attackersL p s b k := by rw [attackersL_succ, hne]; simp
 exact ⟨by omega, by rw [e]; exact own_ext h.own hx, h.x.trans hx⟩
theorem ToAt.yes {p : Pos} {s b : Int} {W0 wr w1 wr' : World} {k : Nat} {v v' : Value} (h : ToAt p s b W0 k v wr) (hlt : k < 64) (he : attacksB p s b k = true) (hx : Ext wr w1)
 (ho : wr'.ownsRow W0.heap.size 3 1 v' ((attackersL p s b k).length + 1) (ints (attackersL p s b k) ++ [.int .i64 (k : Int)])) (hg : w1.grownBy wr' v.ownBlock) : ToAt p s b W0 (k + 1) v' wr' := by
 have e : attackersL p s b (k + 1) = attackersL p s b k ++ [(k : Int)] := by rw [attackersL_succ, if_pos he]
 exact ⟨by omega, by rw [e, ints_append, List.length_append]; exact ho, (h.x.trans hx).grown (own_ext h.own hx) hg⟩
theorem rTo_any (p : Pos) (s b : Int) (w : World) (s0 : 0 ≤ s) (s1 : s < 64) : Calls Tryz.prog 164 #[.agg (posCells p), .int .i64 s, .int .i64 b] w (RetInts (attackersL p s b 64) w) := by
 go_enter Tryz.func164, Tryz.ntmps164
 go_wp2
 obtain ⟨W0, hW0⟩ : ∃ W0, W0 = w.alloc (.cells (posCells p) 30) := ⟨_, rfl⟩
 have hsz : W0.heap.size = w.heap.size + 1 := by rw [hW0]; simp
 have hbp : blk W0 w.heap.size = some (.cells (posCells p) 30 (0, 0)) := by rw [hW0]; simp [go_sem]
 have hEx : Ext w W0 := by rw [hW0]; exact (Ext.auto)
 rw [← hW0]
 have HW := hid hW0
 have HSZ := hid hsz
 clear hW0 hsz
 go_loopw [7, 8] (fun v i wr => ∃ k : Nat, i = .int .i64 k ∧ ToAt p s b W0 k v wr) (fun _ i _ => 64 - (intOf i).toNat)
 case atStart => exact ⟨0, rfl, by omega, by exact World.ownsRow_nil _ _ _ _, Ext.refl _⟩
 case round =>
  obtain ⟨k, rfl, hk⟩ := hrel
  have hbp1 := (hk.x.blk _ (blk_lt hbp)).trans hbp
  have hs3 : w.heap.size < wr.heap.size := blk_lt hbp1
  have hown := hk.own
  have hxw := hk.x
  have hle := hk.x.le
  have hlen := attackersL_len p s b k
  have HK := hid hk
  clear hk
  by_cases hlt : k < 64
  ·have c0 := cell_of_row wr w.heap.size (k * 2) _ _ _ hbp1
   have c1 := cell_of_row wr w.heap.size (k * 2 + 1) _ _ _ hbp1
   have HR := hid (attacksB_r p b s0 s1 hlt)
   cases hE : (p.side k == b)
   ·have HN := hid (show attacksB p s b k = false by rw [HR.out, hE]; rfl)
    go_wp2
    go_roundw
    case rel => exact ⟨k + 1, by go_num, HK.out.no hlt HN.out (Ext.auto)⟩
    case measure => simp [intOf]; omega
   ·cases hA : rAttB p k s
    ·have HN := hid (show attacksB p s b k = false by rw [HR.out, hE, hA]; rfl)
     have HC : ∀ w, Calls Tryz.prog 185 #[.agg (posCells p), .int .i64 k, .int .i64 s] w (Ret (.bool false) w) := fun w => by rw [← hA]; exact rAtt_any p k s w (by omega) (by omega) s0 s1
     clear hA
     go_wp2_with (first | (go_at_call 185; with_reducible refine arm (HC _) fun w1 hx hxc hxf hxb hxs => ?_; (try have := sW W0 w1); (try have := sW wr w1)))
     go_roundw
     case rel => exact ⟨k + 1, by go_num, HK.out.no hlt HN.out (Ext.auto)⟩
     case measure => simp [intOf]; omega
    ·have HN := hid (show attacksB p s b k = true by rw [HR.out, hE, hA]; rfl)
     have HC : ∀ w, Calls Tryz.prog 185 #[.agg (posCells p), .int .i64 k, .int .i64 s] w (Ret (.bool true) w) := fun w => by rw [← hA]; exact rAtt_any p k s w (by omega) (by omega) s0 s1
     clear hA
     go_wp2_with (first | (go_at_call 185; with_reducible refine arm (HC _) fun w1 hx hxc hxf hxb hxs => ?_; (try have := sW W0 w1); (try have := sW wr w1)) | (at_builtin; refine wpList_append_int rfl _ _ rfl (W0.heap.size) u7 ((attackersL p s b k).length) (ints (attackersL p s b k)) rfl ?c0 _ (.int .i64 (k : Int)) rfl rfl ?c1 ?c2 ?c3 (fun v' w1 hown1 hg1 => ?_)))
     case c0 => exact own_auto
     case c1 => simp [go_sem]
     case c2 => omega
     case c3 => simp; omega
     go_roundw
     case rel => exact ⟨k + 1, by go_num, HK.out.yes hlt HN.out (Ext.auto) hown1 hg1⟩
     case measure => simp [intOf]; omega
  ·obtain rfl : k = 64 := by have := HK.out.le; omega
   go_wp2
   go_ret
   exact RetInts.mk' hown rfl rfl (by have := HSZ.out; omega) (hEx.trans hxw)
abbrev MSi.T (p : Pos) (b g o : Nat) (x : Int) (wr W : World) : Prop := Ext wr W ∧ blk W b = some (.cells (posCells p) 30 (0, 0)) ∧ W.cell? ⟨g, o, none⟩ = some (.int .i64 x) ∧ g < wr.heap.size
def MSi (p : Pos) (b g o : Nat) (x : Int) (wr W : World) : Prop := MSi.T p b g o x wr W
theorem MSi.u {p b g o x wr} (W) (h : MSi p b g o x wr W) : MSi.T p b g o x wr W := h
theorem MSi.ext {p : Pos} {b g o : Nat} {x : Int} {wr W W' : World} (h : MSi p b g o x wr W) (hx : Ext W W') : MSi p b g o x wr W' :=
 ⟨h.1.trans hx, (hx.blk _ (blk_lt h.2.1)).trans h.2.1, by rw [hx.cell _ _ (Nat.lt_of_lt_of_le h.2.2.2 h.1.le)]; exact h.2.2.1, h.2.2.2⟩
structure IsAt (p : Pos) (b : Int) (L : List Int) (W0 : World) (k : Nat) (wr : World) : Prop where
 le : k ≤ L.length
 no : attacked p b (L.take k) = false
 x : Ext W0 wr
theorem attacked_take {p : Pos} {b : Int} {L : List Int} {k : Nat} {x : Int} (h : L[k]? = some x) : attacked p b (L.take (k + 1)) = (attacked p b (L.take k) || !(attackersL p x b 64).isEmpty) := by
 unfold attacked
 rw [List.take_add_one, h, List.any_append]; simp
theorem IsAt.next {p : Pos} {b : Int} {L : List Int} {W0 wr wr' : World} {k : Nat} {x : Int} (h : IsAt p b L W0 k wr) (hl : L[k]? = some x) (he : (attackersL p x b 64).isEmpty = true) (hx : Ext wr wr') : IsAt p b L W0 (k + 1) wr' := by
 refine ⟨(List.getElem?_eq_some_iff.1 hl).1, ?_, h.x.trans hx⟩
 rw [attacked_take hl, h.no, he]; rfl
theorem attacked_yes {p : Pos} {b : Int} {L : List Int} {k : Nat} {x : Int} (hl : L[k]? = some x) (he : (attackersL p x b 64).isEmpty = false) : attacked p b L = true := by
 unfold attacked
 rw [List.any_eq_true]
 exact ⟨x, List.mem_of_getElem? hl, by rw [he]; rfl⟩
theorem rIs_any (p : Pos) (b : Int) (L : List Int) (v : Value) (w : World) (hS : Sl w 1 v L.length (ints L)) (hn : L.length ≤ 1000000) (hL : ∀ x ∈ L, 0 ≤ x ∧ x < 64) :
 Calls Tryz.prog 115 #[.agg (posCells p), .int .i64 b, v] w (Ret (.bool (attacked p b L)) w) := by
 obtain ⟨a, cap, rfl⟩ := hS.form
 have HS := hid hS
 have HL := hid hL
 clear hS hL
 go_enter Tryz.func115, Tryz.ntmps115
 go_wp2
 obtain ⟨W0, hW0⟩ : ∃ W0, W0 = w.alloc (.cells (posCells p) 30) := ⟨_, rfl⟩
 have hbp : blk W0 w.heap.size = some (.cells (posCells p) 30 (0, 0)) := by rw [hW0]; simp [go_sem]
 have hEx : Ext w W0 := by rw [hW0]; exact (Ext.auto)
 rw [← hW0]
 have HW := hid hW0
 clear hW0
 go_loopw [7] (fun i wr => ∃ k : Nat, i = .int .i64 k ∧ IsAt p b L W0 k wr) (fun i _ => L.length - (intOf i).toNat)
 case atStart => exact ⟨0, rfl, by omega, rfl, Ext.refl _⟩
 case round =>
  obtain ⟨k, rfl, hk⟩ := hrel
  have hxw := hk.x
  by_cases hlt : k < L.length
  ·obtain ⟨x, hx⟩ : ∃ x, L[k]? = some x := ⟨_, List.getElem?_eq_getElem hlt⟩
   obtain ⟨x0, x1⟩ := HL.out x (List.mem_of_getElem? hx)
   obtain ⟨g, o, rfl, hg, hcl⟩ := ((HS.out.ext hEx).ext hxw).pos (by omega)
   have d0 := hcl k _ (by unfold ints; rw [List.getElem?_map, hx]; rfl)
   have hMS : MSi p w.heap.size g (o + k) x wr wr := ⟨Ext.refl _, (hxw.blk _ (blk_lt hbp)).trans hbp, d0, hg⟩
   have HX := hid hx
   have HK := hid hk
   clear hx hk hcl d0
   go_wp2
   refine wp_region_held_drew (S := MSi p w.heap.size g (o + k) x wr) (by kernel_rfl) (hMS.ext (Ext.drew (Ext.refl _))) (fun hH => ?_)
   refine hTz MSi.u 0 ?_; (try go_frame)
   refine hTz MSi.u 1 ?_; (try go_frame)
   refine hTz MSi.u 2 ?_; (try go_frame)
   refine hTz MSi.u 3 ?_; (try go_frame)
   refine hTz MSi.u 4 ?_; (try go_frame)
   refine hTz MSi.u 5 ?_; (try go_frame)
   refine hRy [6] (hCp (fun K hK => ?_) AllReadyH.nil); go_simp
   refine (rTo_any p x b _ x0 x1).mono ?_
   rintro e w8 ⟨v8, rfl, hown8, hx8⟩
   refine hK.out _ _ (hH.ext (by first | assumption | exact Ext.alloc (Ext.refl _) _)) (fun hH => ?_); clear hK; (try go_frame)
   refine hTz MSi.u 7 ?_; (try go_frame)
   refine wpAnyH_done (by kernel_rfl) ?_ _
   obtain ⟨a8, cap8, rfl⟩ := (Sl.of_own hown8).form
   have hxr := hH.1
   by_cases he : (attackersL p x b 64).length = 0
   ·have he2 : (attackersL p x b 64).isEmpty = true := by rw [List.isEmpty_iff_length_eq_zero]; exact he
    have HN := hid (HK.out.next HX.out he2 hxr)
    rw [he]
    clear hMS hH
    go_wp2
    go_roundw
    case rel => exact ⟨k + 1, by go_num, HN.out⟩
    case measure => simp [intOf]; omega
   ·have he2 : (attackersL p x b 64).isEmpty = false := by rw [Bool.eq_false_iff]; intro h; rw [List.isEmpty_iff_length_eq_zero] at h; exact he h
    have HN := hid (attacked_yes HX.out he2)
    have hpos : (0 : Int) < ((attackersL p x b 64).length : Int) := by omega
    clear hMS hH
    go_wp2
    go_ret
    exact Ret.mk' (vbool HN.out.symm) ((hEx.trans hxw).trans hxr)
  ·obtain rfl : k = L.length := by have := hk.le; omega
   have HN := hid hk.no
   rw [List.take_length] at HN
   go_wp2
   go_ret
   exact Ret.mk' (vbool HN.out.symm) (hEx.trans hxw)
theorem find_in (p : Pos) (k s : Int) : ∀ x ∈ findL p k s 64, 0 ≤ x ∧ x < 64 := by
 intro x hx
 unfold findL at hx
 obtain ⟨n, hn, rfl⟩ := List.mem_map.1 hx
 rw [List.mem_filter, List.mem_range] at hn
 omega
theorem rCheck_any (p : Pos) (s : Int) (w : World) : Calls Tryz.prog 111 #[.agg (posCells p), .int .i64 s] w (Ret (.bool (checkB p s)) w) := by
 by_cases hs : s = 0 ∨ s = 1
 ·have HE := hid (show checkB p s = attacked p (otherOf s) (findL p 6 s 64) by unfold checkB; rw [if_pos hs])
  have hlen : (findL p 6 s 64).length ≤ 1000000 := Nat.le_trans (findL_len p 6 s 64) (by decide)
  have hin := find_in p 6 s
  rcases hs with rfl | rfl
  ·generalize hF : findL p 6 0 64 = F at *
   have hFind := fun w => rFind_any p 6 0 w
   rw [hF] at hFind
   clear hF
   go_enter Tryz.func111, Tryz.ntmps111
   go_wp2
   go_region_held3 (fun w' => blk w' (w.heap.size) = some (.cells (posCells p) 30 (0, 0)) ∧ (∀ o, w'.cell? ⟨w.heap.size, o, none⟩ = (posCells p)[o]?) ∧ Ext w w') (first | exact held_keep (by assumption) (by assumption) | (refine held3 ?_ (Ext.auto); go_simp)) (first | (go_at_call 112; (with_reducible refine (rOther_any _ _).mono ?_); rintro e w1 ⟨rfl, hx⟩) | (go_at_call 162; (with_reducible refine (hFind _).mono ?_); rintro e w1 ⟨v1, rfl, hown1, hx⟩) | (go_at_call 115; (with_reducible refine (rIs_any _ _ F _ _ (Sl.of_own hown1) hlen hin).mono ?_); rintro e w1 ⟨rfl, hx⟩))
   go_wp2
   go_ret
   exact Ret.mk' (by rw [HE.out]; rfl) (Ext.auto)
  ·generalize hF : findL p 6 1 64 = F at *
   have hFind := fun w => rFind_any p 6 1 w
   rw [hF] at hFind
   clear hF
   go_enter Tryz.func111, Tryz.ntmps111
   go_wp2
   go_region_held3 (fun w' => blk w' (w.heap.size) = some (.cells (posCells p) 30 (0, 0)) ∧ (∀ o, w'.cell? ⟨w.heap.size, o, none⟩ = (posCells p)[o]?) ∧ Ext w w') (first | exact held_keep (by assumption) (by assumption) | (refine held3 ?_ (Ext.auto); go_simp)) (first | (go_at_call 112; (with_reducible refine (rOther_any _ _).mono ?_); rintro e w1 ⟨rfl, hx⟩) | (go_at_call 162; (with_reducible refine (hFind _).mono ?_); rintro e w1 ⟨v1, rfl, hown1, hx⟩) | (go_at_call 115; (with_reducible refine (rIs_any _ _ F _ _ (Sl.of_own hown1) hlen hin).mono ?_); rintro e w1 ⟨rfl, hx⟩))
   go_wp2
   go_ret
   exact Ret.mk' (by rw [HE.out]; rfl) (Ext.auto)
 ·have HE := hid (show checkB p s = false by unfold checkB; rw [if_neg hs])
  have h0 : s ≠ 0 := fun h => hs (.inl h)
  have h1 : s ≠ 1 := fun h => hs (.inr h)
  have e0 : (s != 0) = true := by simp [h0]
  have e1 : (s != 1) = true := by simp [h1]
  clear hs
  go_enter Tryz.func111, Tryz.ntmps111
  go_wp2
  go_ret
  exact Ret.mk' (by rw [HE.out]; rfl) (Ext.auto)
end Go.Proofs.YtdmgimfgoajmjaaGreatDoor
