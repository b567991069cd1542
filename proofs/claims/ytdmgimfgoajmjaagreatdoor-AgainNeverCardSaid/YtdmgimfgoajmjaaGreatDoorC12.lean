/- Sorted squares; what a piece attacks, rising; a square in a list. -/
import Derived.Test.YtdmgimfgoajmjaaGreatDoorC11
import Derived.Test.YtdmgimfgoajmjaaGreatDoorC00
import Derived.Sort.OwnSortedInts
set_option linter.unusedVariables false
set_option linter.unusedSimpArgs false
namespace Go.Proofs.YtdmgimfgoajmjaaGreatDoor
open Go.RowKit Go.Sort
def sortL (l : List Int) : List Int := l.mergeSort fun x y => decide (x ≤ y)
theorem sortL_len (l : List Int) : (sortL l).length = l.length := by simp [sortL]
theorem Sort_own (base : Nat) (v : Value) (l : List Int) (w : World) (h : w.ownsRow base 3 1 v l.length (ints l)) (hn : l.length ≤ 1000000) :
    Calls Tryz.prog 226 #[v] w fun e w' => e = .returned (.tuple #[]) ∧ w'.ownsRow base 3 1 v l.length (ints (sortL l)) ∧ w.grownBy w' v.ownBlock := by
  rcases h.2 with ⟨rfl, h0⟩ | ⟨g, cap, cur, rfl, hbg, hgg, hcap, hcm, hcs, htk⟩
  · obtain rfl : l = [] := List.eq_nil_of_length_eq_zero h0
    refine (Tryz.slices_Sort_int_none none 0 w).mono ?_
    rintro e w' ⟨rfl, rfl⟩
    exact ⟨rfl, by simpa [sortL, ints] using h, ⟨rfl, rfl, rfl, Nat.le_refl _, fun _ _ _ => rfl⟩⟩
  · refine (Tryz.slices_Sort_int g 0 cap l w (holds_of_blockI hgg (by simpa [ints] using htk)) (Array.getElem?_eq_some_iff.1 hgg).1 (by omega)).mono ?_
    rintro e w' ⟨rfl, n, os, rfl⟩
    exact ⟨rfl, ownsRow_sortedI (by simp) hbg hgg hcap hcm hcs, grownBy_sortedI _⟩
theorem Contains_sl (v : Value) (l : List Int) (x : Int) (w : World) (h : Sl w 1 v l.length (ints l)) (hn : l.length ≤ 1000000) :
    Calls Tryz.prog 174 #[v, .int .i64 x] w fun e w' => e = .returned (.bool (l.contains x)) ∧ w' = w := by
  rcases h.2 with ⟨rfl, h0⟩ | ⟨b, off, cap, rfl, hb, hc⟩
  · obtain rfl : l = [] := List.eq_nil_of_length_eq_zero h0
    refine (Tryz.slices_Contains_int_empty none 0 x w).mono ?_
    rintro e w' ⟨rfl, rfl⟩
    exact ⟨by simp, rfl⟩
  · refine (Tryz.slices_Contains_int b off l.length cap l x w (Nat.le_refl _) (by omega) (fun j hj => hc j _ ?_)).mono ?_
    · simp [ints, hj, List.getD, List.getElem?_eq_getElem hj]
    · rintro e w' ⟨rfl, rfl⟩
      exact ⟨by simp, rfl⟩
theorem fromL_len (p : Pos) (s : Int) : (fromL p s).length ≤ 64 := by
  have h1 : ∀ l, l.length ≤ 8 → (ringL s l).length ≤ 64 := fun l h => Nat.le_trans (ringL_len s l) (by omega)
  have h2 : ∀ l, l.length ≤ 8 → (alongL p s l).length ≤ 64 := fun l h => Nat.le_trans (alongL_len p s l) (by omega)
  unfold fromL
  dsimp only
  (repeat' split) <;> first | exact h1 _ (by decide) | exact h2 _ (by decide) | simp
  all_goals exact h1 _ (by simp)
def FromL (p : Pos) (s : Int) : List Int := if 0 ≤ s ∧ s < 64 then sortL (fromL p s) else []
set_option maxRecDepth 100000 in
set_option maxHeartbeats 2000000 in
theorem From_any (p : Pos) (s : Int) (w : World) : Calls Tryz.prog 203 #[.agg (posCells p), .int .i64 s] w (RetInts (FromL p s) w) := by
  by_cases hs : 0 ≤ s ∧ s < 64
  · have HE : Hid (FromL p s = sortL (fromL p s)) := hid (by unfold FromL; rw [if_pos hs])
    obtain ⟨h0, h1⟩ := hs
    have hI : isSq s = true := by simp [isSq, h0, h1]
    have hL := fromL_len p s
    go_enter Tryz.func203, Tryz.ntmps203
    go_wp2_with (first | (go_at_call 142; (with_reducible refine (Is_any _ _).mono ?_); rintro e w1 ⟨rfl, hx⟩; obtain ⟨hxc, hxf, hxb, hxs⟩ := hx.all; (try simp only [World.size_alloc, size_set, size_drew] at hxc hxf hxb hxs); (first | (have h4 := lt4 w.heap.size w1.heap.size (by omega)); (obtain ⟨_, _, _, _⟩ := h4) | (have h4 := lt3 w.heap.size w1.heap.size (by omega)); (obtain ⟨_, _, _⟩ := h4) | (have h4 := lt2 w.heap.size w1.heap.size (by omega)); (obtain ⟨_, _⟩ := h4) | have := lt1 w.heap.size w1.heap.size (by omega) | skip)) | (go_at_call 175; (with_reducible refine (from_any _ _ _ h0 h1).mono ?_); rintro e w1 ⟨v2, rfl, hown2, hx⟩; obtain ⟨a2, cap2, rfl⟩ := (Sl.of_own hown2).form; obtain ⟨hxc, hxf, hxb, hxs⟩ := hx.all; (try simp only [World.size_alloc, size_set, size_drew] at hxc hxf hxb hxs); (first | (have h4 := lt4 w.heap.size w1.heap.size (by omega)); (obtain ⟨_, _, _, _⟩ := h4) | (have h4 := lt3 w.heap.size w1.heap.size (by omega)); (obtain ⟨_, _, _⟩ := h4) | (have h4 := lt2 w.heap.size w1.heap.size (by omega)); (obtain ⟨_, _⟩ := h4) | have := lt1 w.heap.size w1.heap.size (by omega) | skip)) | (go_at_call 226; (with_reducible refine (Sort_own _ _ (fromL p s) _ hown2 ?s1).mono ?_); rotate_left 1; rintro e w2 ⟨rfl, hown3, hg3⟩))
    case s1 => omega
    go_ret
    exact RetInts.mk' hown3 (by rw [HE.out, sortL_len]) (by rw [HE.out]) (by omega) (Ext.trans (Ext.auto) (Ext.grown hx hown2 hg3))
  · have HE : Hid (FromL p s = []) := hid (by unfold FromL; rw [if_neg hs])
    have hI : isSq s = false := by simp [isSq]; omega
    go_enter Tryz.func203, Tryz.ntmps203
    go_wp2_with (go_at_call 142; (with_reducible refine (Is_any _ _).mono ?_); rintro e w1 ⟨rfl, hx⟩; obtain ⟨hxc, hxf, hxb, hxs⟩ := hx.all; (try simp only [World.size_alloc, size_set, size_drew] at hxc hxf hxb hxs); (first | (have h4 := lt4 w.heap.size w1.heap.size (by omega)); (obtain ⟨_, _, _, _⟩ := h4) | (have h4 := lt3 w.heap.size w1.heap.size (by omega)); (obtain ⟨_, _, _⟩ := h4) | (have h4 := lt2 w.heap.size w1.heap.size (by omega)); (obtain ⟨_, _⟩ := h4) | have := lt1 w.heap.size w1.heap.size (by omega) | skip))
    go_ret
    rw [HE.out]
    exact RetInts.nil _ _ (Ext.auto)
end Go.Proofs.YtdmgimfgoajmjaaGreatDoor
