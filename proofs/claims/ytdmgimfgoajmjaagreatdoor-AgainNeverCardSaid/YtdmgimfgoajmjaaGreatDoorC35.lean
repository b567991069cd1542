/- Castlings, in the document's answer. -/
import Derived.Test.YtdmgimfgoajmjaaGreatDoorC32
import Derived.Deep.DeepCutAuto
set_option linter.unusedVariables false
set_option linter.unusedSimpArgs false
namespace Go.Proofs.YtdmgimfgoajmjaaGreatDoor
open Go.RowKit
theorem cell_sq {p : Pos} {W : World} {b : Nat} {t : TypeId} (h : blk W b = some (.cells (posCells p) t (0, 0))) (i : Nat) (hi : i < 64) : W.cell? ⟨b, i * 2, none⟩ = some (.int .i64 (p.kind i)) ∧ W.cell? ⟨b, i * 2 + 1, none⟩ = some (.int .i64 (p.side i)) := by
  rw [blk_cell h, blk_cell h]; exact ⟨posCells_kind p i hi, posCells_side p i hi⟩
set_option maxRecDepth 100000 in
set_option maxHeartbeats 16000000 in
theorem rCastle_any (p : Pos) (a t : Int) (w : World) (a0 : 0 ≤ a) (a1 : a < 64) (hs : p.side a.toNat = 0 ∨ p.side a.toNat = 1) : Calls Tryz.prog 186 #[.agg (posCells p), .int .i64 a, .int .i64 t] w (Ret (.bool (rCastleB p a t)) w) := by
  have a2 : a.toNat < 64 := by omega
  have HF : ∀ x w, Calls Tryz.prog 214 #[.agg (posCells p), .int .i64 x] w (Ret (.bool (freeAt p x)) w) := fun x w => rBare_any p x w
  rcases hs with hs | hs
  · have HE0 := hid (show rCastleB p a t = if a = 4 ∧ 0 ≤ p.castle ∧ p.castle ≤ 15 then (if t = 6 then p.castle % 2 == 1 && (p.kind 7 == 4 && p.side 7 == 0) && freeAt p 5 && freeAt p 6 else t == 2 && p.castle / 2 % 2 == 1 && (p.kind 0 == 4 && p.side 0 == 0) && freeAt p 3 && freeAt p 2 && freeAt p 1) else false by
      unfold rCastleB standsB; rw [hs]; simp [homeOf])
    by_cases hc : a = 4 ∧ 0 ≤ p.castle ∧ p.castle ≤ 15
    · have HE := hid (HE0.out.trans (if_pos hc))
      clear HE0
      obtain ⟨rfl, c0, c1⟩ := hc
      have hs4 : p.side 4 = 0 := hs
      have p9 : ∀ h, (posCells p)[9]'h = .int .i64 (p.side 4) := fun h => posCells_side' p 4 (by decide) h
      have p8 : (posCells p)[9]? = some (.int .i64 (p.side 4)) := posCells_side p 4 (by decide)
      clear hs
      have q1 : p.castle.tdiv 1 = p.castle := Int.tdiv_one _
      have q2 : p.castle.tdiv 2 = p.castle / 2 := Int.tdiv_eq_ediv_of_nonneg c0
      have q4 : p.castle.tdiv 4 = p.castle / 4 := Int.tdiv_eq_ediv_of_nonneg c0
      have q8 : p.castle.tdiv 8 = p.castle / 8 := Int.tdiv_eq_ediv_of_nonneg c0
      have r1 : p.castle.tmod 2 = p.castle % 2 := Int.tmod_eq_emod_of_nonneg c0
      have r2 : (p.castle / 2).tmod 2 = p.castle / 2 % 2 := Int.tmod_eq_emod_of_nonneg (by omega)
      have r4 : (p.castle / 4).tmod 2 = p.castle / 4 % 2 := Int.tmod_eq_emod_of_nonneg (by omega)
      have r8 : (p.castle / 8).tmod 2 = p.castle / 8 % 2 := Int.tmod_eq_emod_of_nonneg (by omega)
      by_cases ht : t = 6
      · subst ht
        have HE := hid (HE.out.trans (if_pos rfl))
        cases h1 : (p.castle % 2 == 1)
        · skip
          go_enter Tryz.func186, Tryz.ntmps186
          go_upto_region 9 with (fail)
          obtain ⟨W1, hW1⟩ : ∃ W1, W1 = (w.alloc (.cells (posCells p) 30)).alloc (.cells #[.int .i64 4, .int .i64 0] 26) := ⟨_, rfl⟩
          have hb1 : blk W1 w.heap.size = some (.cells (posCells p) 30 (0, 0)) := by rw [hW1]; simp [go_sem]
          have hb2 : blk W1 (w.heap.size + 1) = some (.cells #[.int .i64 4, .int .i64 0] 26 (0, 0)) := by rw [hW1]; simp [go_sem]
          have hE1 : Ext w W1 := by rw [hW1]; exact (Ext.auto)
          rw [← hW1]
          clear hW1
          obtain ⟨z0, z1⟩ := cell_sq hb1 7 (by decide)
          simp only [Nat.reduceMul, Nat.reduceAdd, Nat.zero_add] at z0 z1
          have z2 := blk_cell hb1 129
          have z3 := blk_cell hb2 0
          have z4 := blk_cell hb2 1
          have l1 := blk_lt hb1
          have l2 := blk_lt hb2
          simp only [go_sem, List.getElem?_toArray, List.getElem?_cons_zero, List.getElem?_cons_succ] at z2 z3 z4
          refine wp_quiet (by kernel_rfl) (by kernel_rfl) ?_; (repeat (first | go_big_quiet_step ((first | (go_at_call 214; with_reducible exact Calls.reg (HF _ _)))) | quiet_step ((first | (go_at_call 214; with_reducible exact Calls.reg (HF _ _)))))); refine wpQuiet_nil ?_; intro w1 hx; obtain ⟨hxc, hxf, hxb, hxs⟩ := hx.all; (try simp only [World.size_alloc, size_set, size_drew] at hxc hxf hxb hxs); (first | (have h4 := lt4 w.heap.size w1.heap.size (by omega)); (obtain ⟨_, _, _, _⟩ := h4) | (have h4 := lt3 w.heap.size w1.heap.size (by omega)); (obtain ⟨_, _, _⟩ := h4) | (have h4 := lt2 w.heap.size w1.heap.size (by omega)); (obtain ⟨_, _⟩ := h4) | have := lt1 w.heap.size w1.heap.size (by omega) | skip)
          go_wp2
          all_goals (go_ret; exact Ret.mk' (vbool (by rw [HE.out]; (try simp_all))) (hE1.trans hx))
        · skip
          cases h2 : (p.kind 7 == 4 && p.side 7 == 0)
          · skip
            go_enter Tryz.func186, Tryz.ntmps186
            go_upto_region 9 with (fail)
            obtain ⟨W1, hW1⟩ : ∃ W1, W1 = (w.alloc (.cells (posCells p) 30)).alloc (.cells #[.int .i64 4, .int .i64 0] 26) := ⟨_, rfl⟩
            have hb1 : blk W1 w.heap.size = some (.cells (posCells p) 30 (0, 0)) := by rw [hW1]; simp [go_sem]
            have hb2 : blk W1 (w.heap.size + 1) = some (.cells #[.int .i64 4, .int .i64 0] 26 (0, 0)) := by rw [hW1]; simp [go_sem]
            have hE1 : Ext w W1 := by rw [hW1]; exact (Ext.auto)
            rw [← hW1]
            clear hW1
            obtain ⟨z0, z1⟩ := cell_sq hb1 7 (by decide)
            simp only [Nat.reduceMul, Nat.reduceAdd, Nat.zero_add] at z0 z1
            have z2 := blk_cell hb1 129
            have z3 := blk_cell hb2 0
            have z4 := blk_cell hb2 1
            have l1 := blk_lt hb1
            have l2 := blk_lt hb2
            simp only [go_sem, List.getElem?_toArray, List.getElem?_cons_zero, List.getElem?_cons_succ] at z2 z3 z4
            refine wp_quiet (by kernel_rfl) (by kernel_rfl) ?_; (repeat (first | go_big_quiet_step ((first | (go_at_call 214; with_reducible exact Calls.reg (HF _ _)))) | quiet_step ((first | (go_at_call 214; with_reducible exact Calls.reg (HF _ _)))))); refine wpQuiet_nil ?_; intro w1 hx; obtain ⟨hxc, hxf, hxb, hxs⟩ := hx.all; (try simp only [World.size_alloc, size_set, size_drew] at hxc hxf hxb hxs); (first | (have h4 := lt4 w.heap.size w1.heap.size (by omega)); (obtain ⟨_, _, _, _⟩ := h4) | (have h4 := lt3 w.heap.size w1.heap.size (by omega)); (obtain ⟨_, _, _⟩ := h4) | (have h4 := lt2 w.heap.size w1.heap.size (by omega)); (obtain ⟨_, _⟩ := h4) | have := lt1 w.heap.size w1.heap.size (by omega) | skip)
            go_wp2
            all_goals (go_ret; exact Ret.mk' (vbool (by rw [HE.out]; (try simp_all))) (hE1.trans hx))
          · skip
            cases h3 : freeAt p 5
            · skip
              go_enter Tryz.func186, Tryz.ntmps186
              go_upto_region 9 with (fail)
              obtain ⟨W1, hW1⟩ : ∃ W1, W1 = (w.alloc (.cells (posCells p) 30)).alloc (.cells #[.int .i64 4, .int .i64 0] 26) := ⟨_, rfl⟩
              have hb1 : blk W1 w.heap.size = some (.cells (posCells p) 30 (0, 0)) := by rw [hW1]; simp [go_sem]
              have hb2 : blk W1 (w.heap.size + 1) = some (.cells #[.int .i64 4, .int .i64 0] 26 (0, 0)) := by rw [hW1]; simp [go_sem]
              have hE1 : Ext w W1 := by rw [hW1]; exact (Ext.auto)
              rw [← hW1]
              clear hW1
              obtain ⟨z0, z1⟩ := cell_sq hb1 7 (by decide)
              simp only [Nat.reduceMul, Nat.reduceAdd, Nat.zero_add] at z0 z1
              have z2 := blk_cell hb1 129
              have z3 := blk_cell hb2 0
              have z4 := blk_cell hb2 1
              have l1 := blk_lt hb1
              have l2 := blk_lt hb2
              simp only [go_sem, List.getElem?_toArray, List.getElem?_cons_zero, List.getElem?_cons_succ] at z2 z3 z4
              refine wp_quiet (by kernel_rfl) (by kernel_rfl) ?_; (repeat (first | go_big_quiet_step ((first | (go_at_call 214; with_reducible exact Calls.reg (HF _ _)))) | quiet_step ((first | (go_at_call 214; with_reducible exact Calls.reg (HF _ _)))))); refine wpQuiet_nil ?_; intro w1 hx; obtain ⟨hxc, hxf, hxb, hxs⟩ := hx.all; (try simp only [World.size_alloc, size_set, size_drew] at hxc hxf hxb hxs); (first | (have h4 := lt4 w.heap.size w1.heap.size (by omega)); (obtain ⟨_, _, _, _⟩ := h4) | (have h4 := lt3 w.heap.size w1.heap.size (by omega)); (obtain ⟨_, _, _⟩ := h4) | (have h4 := lt2 w.heap.size w1.heap.size (by omega)); (obtain ⟨_, _⟩ := h4) | have := lt1 w.heap.size w1.heap.size (by omega) | skip)
              go_wp2
              all_goals (go_ret; exact Ret.mk' (vbool (by rw [HE.out]; (try simp_all))) (hE1.trans hx))
            · skip
              go_enter Tryz.func186, Tryz.ntmps186
              go_upto_region 9 with (fail)
              obtain ⟨W1, hW1⟩ : ∃ W1, W1 = (w.alloc (.cells (posCells p) 30)).alloc (.cells #[.int .i64 4, .int .i64 0] 26) := ⟨_, rfl⟩
              have hb1 : blk W1 w.heap.size = some (.cells (posCells p) 30 (0, 0)) := by rw [hW1]; simp [go_sem]
              have hb2 : blk W1 (w.heap.size + 1) = some (.cells #[.int .i64 4, .int .i64 0] 26 (0, 0)) := by rw [hW1]; simp [go_sem]
              have hE1 : Ext w W1 := by rw [hW1]; exact (Ext.auto)
              rw [← hW1]
              clear hW1
              obtain ⟨z0, z1⟩ := cell_sq hb1 7 (by decide)
              simp only [Nat.reduceMul, Nat.reduceAdd, Nat.zero_add] at z0 z1
              have z2 := blk_cell hb1 129
              have z3 := blk_cell hb2 0
              have z4 := blk_cell hb2 1
              have l1 := blk_lt hb1
              have l2 := blk_lt hb2
              simp only [go_sem, List.getElem?_toArray, List.getElem?_cons_zero, List.getElem?_cons_succ] at z2 z3 z4
              refine wp_quiet (by kernel_rfl) (by kernel_rfl) ?_; (repeat (first | go_big_quiet_step ((first | (go_at_call 214; with_reducible exact Calls.reg (HF _ _)))) | quiet_step ((first | (go_at_call 214; with_reducible exact Calls.reg (HF _ _)))))); refine wpQuiet_nil ?_; intro w1 hx; obtain ⟨hxc, hxf, hxb, hxs⟩ := hx.all; (try simp only [World.size_alloc, size_set, size_drew] at hxc hxf hxb hxs); (first | (have h4 := lt4 w.heap.size w1.heap.size (by omega)); (obtain ⟨_, _, _, _⟩ := h4) | (have h4 := lt3 w.heap.size w1.heap.size (by omega)); (obtain ⟨_, _, _⟩ := h4) | (have h4 := lt2 w.heap.size w1.heap.size (by omega)); (obtain ⟨_, _⟩ := h4) | have := lt1 w.heap.size w1.heap.size (by omega) | skip)
              go_wp2
              all_goals (go_ret; exact Ret.mk' (vbool (by rw [HE.out]; (try simp_all))) (hE1.trans hx))
      · have HE := hid (HE.out.trans (if_neg ht))
        have e1 : (t == 6) = false := by simpa using ht
        clear ht
        cases h0 : (t == 2)
        · skip
          go_enter Tryz.func186, Tryz.ntmps186
          go_upto_region 10 with (fail)
          obtain ⟨W1, hW1⟩ : ∃ W1, W1 = (w.alloc (.cells (posCells p) 30)).alloc (.cells #[.int .i64 4, .int .i64 0] 26) := ⟨_, rfl⟩
          have hb1 : blk W1 w.heap.size = some (.cells (posCells p) 30 (0, 0)) := by rw [hW1]; simp [go_sem]
          have hb2 : blk W1 (w.heap.size + 1) = some (.cells #[.int .i64 4, .int .i64 0] 26 (0, 0)) := by rw [hW1]; simp [go_sem]
          have hE1 : Ext w W1 := by rw [hW1]; exact (Ext.auto)
          rw [← hW1]
          clear hW1
          obtain ⟨z0, z1⟩ := cell_sq hb1 0 (by decide)
          simp only [Nat.reduceMul, Nat.reduceAdd, Nat.zero_add] at z0 z1
          have z2 := blk_cell hb1 129
          have z3 := blk_cell hb2 0
          have z4 := blk_cell hb2 1
          have l1 := blk_lt hb1
          have l2 := blk_lt hb2
          simp only [go_sem, List.getElem?_toArray, List.getElem?_cons_zero, List.getElem?_cons_succ] at z2 z3 z4
          refine wp_quiet (by kernel_rfl) (by kernel_rfl) ?_; (repeat (first | go_big_quiet_step ((first | (go_at_call 214; with_reducible exact Calls.reg (HF _ _)))) | quiet_step ((first | (go_at_call 214; with_reducible exact Calls.reg (HF _ _)))))); refine wpQuiet_nil ?_; intro w1 hx; obtain ⟨hxc, hxf, hxb, hxs⟩ := hx.all; (try simp only [World.size_alloc, size_set, size_drew] at hxc hxf hxb hxs); (first | (have h4 := lt4 w.heap.size w1.heap.size (by omega)); (obtain ⟨_, _, _, _⟩ := h4) | (have h4 := lt3 w.heap.size w1.heap.size (by omega)); (obtain ⟨_, _, _⟩ := h4) | (have h4 := lt2 w.heap.size w1.heap.size (by omega)); (obtain ⟨_, _⟩ := h4) | have := lt1 w.heap.size w1.heap.size (by omega) | skip)
          go_wp2
          all_goals (go_ret; exact Ret.mk' (vbool (by rw [HE.out]; (try simp_all))) (hE1.trans hx))
        · skip
          cases h1 : (p.castle / 2 % 2 == 1)
          · skip
            go_enter Tryz.func186, Tryz.ntmps186
            go_upto_region 10 with (fail)
            obtain ⟨W1, hW1⟩ : ∃ W1, W1 = (w.alloc (.cells (posCells p) 30)).alloc (.cells #[.int .i64 4, .int .i64 0] 26) := ⟨_, rfl⟩
            have hb1 : blk W1 w.heap.size = some (.cells (posCells p) 30 (0, 0)) := by rw [hW1]; simp [go_sem]
            have hb2 : blk W1 (w.heap.size + 1) = some (.cells #[.int .i64 4, .int .i64 0] 26 (0, 0)) := by rw [hW1]; simp [go_sem]
            have hE1 : Ext w W1 := by rw [hW1]; exact (Ext.auto)
            rw [← hW1]
            clear hW1
            obtain ⟨z0, z1⟩ := cell_sq hb1 0 (by decide)
            simp only [Nat.reduceMul, Nat.reduceAdd, Nat.zero_add] at z0 z1
            have z2 := blk_cell hb1 129
            have z3 := blk_cell hb2 0
            have z4 := blk_cell hb2 1
            have l1 := blk_lt hb1
            have l2 := blk_lt hb2
            simp only [go_sem, List.getElem?_toArray, List.getElem?_cons_zero, List.getElem?_cons_succ] at z2 z3 z4
            refine wp_quiet (by kernel_rfl) (by kernel_rfl) ?_; (repeat (first | go_big_quiet_step ((first | (go_at_call 214; with_reducible exact Calls.reg (HF _ _)))) | quiet_step ((first | (go_at_call 214; with_reducible exact Calls.reg (HF _ _)))))); refine wpQuiet_nil ?_; intro w1 hx; obtain ⟨hxc, hxf, hxb, hxs⟩ := hx.all; (try simp only [World.size_alloc, size_set, size_drew] at hxc hxf hxb hxs); (first | (have h4 := lt4 w.heap.size w1.heap.size (by omega)); (obtain ⟨_, _, _, _⟩ := h4) | (have h4 := lt3 w.heap.size w1.heap.size (by omega)); (obtain ⟨_, _, _⟩ := h4) | (have h4 := lt2 w.heap.size w1.heap.size (by omega)); (obtain ⟨_, _⟩ := h4) | have := lt1 w.heap.size w1.heap.size (by omega) | skip)
            go_wp2
            all_goals (go_ret; exact Ret.mk' (vbool (by rw [HE.out]; (try simp_all))) (hE1.trans hx))
          · skip
            cases h2 : (p.kind 0 == 4 && p.side 0 == 0)
            · skip
              go_enter Tryz.func186, Tryz.ntmps186
              go_upto_region 10 with (fail)
              obtain ⟨W1, hW1⟩ : ∃ W1, W1 = (w.alloc (.cells (posCells p) 30)).alloc (.cells #[.int .i64 4, .int .i64 0] 26) := ⟨_, rfl⟩
              have hb1 : blk W1 w.heap.size = some (.cells (posCells p) 30 (0, 0)) := by rw [hW1]; simp [go_sem]
              have hb2 : blk W1 (w.heap.size + 1) = some (.cells #[.int .i64 4, .int .i64 0] 26 (0, 0)) := by rw [hW1]; simp [go_sem]
              have hE1 : Ext w W1 := by rw [hW1]; exact (Ext.auto)
              rw [← hW1]
              clear hW1
              obtain ⟨z0, z1⟩ := cell_sq hb1 0 (by decide)
              simp only [Nat.reduceMul, Nat.reduceAdd, Nat.zero_add] at z0 z1
              have z2 := blk_cell hb1 129
              have z3 := blk_cell hb2 0
              have z4 := blk_cell hb2 1
              have l1 := blk_lt hb1
              have l2 := blk_lt hb2
              simp only [go_sem, List.getElem?_toArray, List.getElem?_cons_zero, List.getElem?_cons_succ] at z2 z3 z4
              refine wp_quiet (by kernel_rfl) (by kernel_rfl) ?_; (repeat (first | go_big_quiet_step ((first | (go_at_call 214; with_reducible exact Calls.reg (HF _ _)))) | quiet_step ((first | (go_at_call 214; with_reducible exact Calls.reg (HF _ _)))))); refine wpQuiet_nil ?_; intro w1 hx; obtain ⟨hxc, hxf, hxb, hxs⟩ := hx.all; (try simp only [World.size_alloc, size_set, size_drew] at hxc hxf hxb hxs); (first | (have h4 := lt4 w.heap.size w1.heap.size (by omega)); (obtain ⟨_, _, _, _⟩ := h4) | (have h4 := lt3 w.heap.size w1.heap.size (by omega)); (obtain ⟨_, _, _⟩ := h4) | (have h4 := lt2 w.heap.size w1.heap.size (by omega)); (obtain ⟨_, _⟩ := h4) | have := lt1 w.heap.size w1.heap.size (by omega) | skip)
              go_wp2
              all_goals (go_ret; exact Ret.mk' (vbool (by rw [HE.out]; (try simp_all))) (hE1.trans hx))
            · skip
              cases h3 : freeAt p 3
              · skip
                go_enter Tryz.func186, Tryz.ntmps186
                go_upto_region 10 with (fail)
                obtain ⟨W1, hW1⟩ : ∃ W1, W1 = (w.alloc (.cells (posCells p) 30)).alloc (.cells #[.int .i64 4, .int .i64 0] 26) := ⟨_, rfl⟩
                have hb1 : blk W1 w.heap.size = some (.cells (posCells p) 30 (0, 0)) := by rw [hW1]; simp [go_sem]
                have hb2 : blk W1 (w.heap.size + 1) = some (.cells #[.int .i64 4, .int .i64 0] 26 (0, 0)) := by rw [hW1]; simp [go_sem]
                have hE1 : Ext w W1 := by rw [hW1]; exact (Ext.auto)
                rw [← hW1]
                clear hW1
                obtain ⟨z0, z1⟩ := cell_sq hb1 0 (by decide)
                simp only [Nat.reduceMul, Nat.reduceAdd, Nat.zero_add] at z0 z1
                have z2 := blk_cell hb1 129
                have z3 := blk_cell hb2 0
                have z4 := blk_cell hb2 1
                have l1 := blk_lt hb1
                have l2 := blk_lt hb2
                simp only [go_sem, List.getElem?_toArray, List.getElem?_cons_zero, List.getElem?_cons_succ] at z2 z3 z4
                refine wp_quiet (by kernel_rfl) (by kernel_rfl) ?_; (repeat (first | go_big_quiet_step ((first | (go_at_call 214; with_reducible exact Calls.reg (HF _ _)))) | quiet_step ((first | (go_at_call 214; with_reducible exact Calls.reg (HF _ _)))))); refine wpQuiet_nil ?_; intro w1 hx; obtain ⟨hxc, hxf, hxb, hxs⟩ := hx.all; (try simp only [World.size_alloc, size_set, size_drew] at hxc hxf hxb hxs); (first | (have h4 := lt4 w.heap.size w1.heap.size (by omega)); (obtain ⟨_, _, _, _⟩ := h4) | (have h4 := lt3 w.heap.size w1.heap.size (by omega)); (obtain ⟨_, _, _⟩ := h4) | (have h4 := lt2 w.heap.size w1.heap.size (by omega)); (obtain ⟨_, _⟩ := h4) | have := lt1 w.heap.size w1.heap.size (by omega) | skip)
                go_wp2
                all_goals (go_ret; exact Ret.mk' (vbool (by rw [HE.out]; (try simp_all))) (hE1.trans hx))
              · skip
                cases h4 : freeAt p 2
                · skip
                  go_enter Tryz.func186, Tryz.ntmps186
                  go_upto_region 10 with (fail)
                  obtain ⟨W1, hW1⟩ : ∃ W1, W1 = (w.alloc (.cells (posCells p) 30)).alloc (.cells #[.int .i64 4, .int .i64 0] 26) := ⟨_, rfl⟩
                  have hb1 : blk W1 w.heap.size = some (.cells (posCells p) 30 (0, 0)) := by rw [hW1]; simp [go_sem]
                  have hb2 : blk W1 (w.heap.size + 1) = some (.cells #[.int .i64 4, .int .i64 0] 26 (0, 0)) := by rw [hW1]; simp [go_sem]
                  have hE1 : Ext w W1 := by rw [hW1]; exact (Ext.auto)
                  rw [← hW1]
                  clear hW1
                  obtain ⟨z0, z1⟩ := cell_sq hb1 0 (by decide)
                  simp only [Nat.reduceMul, Nat.reduceAdd, Nat.zero_add] at z0 z1
                  have z2 := blk_cell hb1 129
                  have z3 := blk_cell hb2 0
                  have z4 := blk_cell hb2 1
                  have l1 := blk_lt hb1
                  have l2 := blk_lt hb2
                  simp only [go_sem, List.getElem?_toArray, List.getElem?_cons_zero, List.getElem?_cons_succ] at z2 z3 z4
                  refine wp_quiet (by kernel_rfl) (by kernel_rfl) ?_; (repeat (first | go_big_quiet_step ((first | (go_at_call 214; with_reducible exact Calls.reg (HF _ _)))) | quiet_step ((first | (go_at_call 214; with_reducible exact Calls.reg (HF _ _)))))); refine wpQuiet_nil ?_; intro w1 hx; obtain ⟨hxc, hxf, hxb, hxs⟩ := hx.all; (try simp only [World.size_alloc, size_set, size_drew] at hxc hxf hxb hxs); (first | (have h4 := lt4 w.heap.size w1.heap.size (by omega)); (obtain ⟨_, _, _, _⟩ := h4) | (have h4 := lt3 w.heap.size w1.heap.size (by omega)); (obtain ⟨_, _, _⟩ := h4) | (have h4 := lt2 w.heap.size w1.heap.size (by omega)); (obtain ⟨_, _⟩ := h4) | have := lt1 w.heap.size w1.heap.size (by omega) | skip)
                  go_wp2
                  all_goals (go_ret; exact Ret.mk' (vbool (by rw [HE.out]; (try simp_all))) (hE1.trans hx))
                · skip
                  go_enter Tryz.func186, Tryz.ntmps186
                  go_upto_region 10 with (fail)
                  obtain ⟨W1, hW1⟩ : ∃ W1, W1 = (w.alloc (.cells (posCells p) 30)).alloc (.cells #[.int .i64 4, .int .i64 0] 26) := ⟨_, rfl⟩
                  have hb1 : blk W1 w.heap.size = some (.cells (posCells p) 30 (0, 0)) := by rw [hW1]; simp [go_sem]
                  have hb2 : blk W1 (w.heap.size + 1) = some (.cells #[.int .i64 4, .int .i64 0] 26 (0, 0)) := by rw [hW1]; simp [go_sem]
                  have hE1 : Ext w W1 := by rw [hW1]; exact (Ext.auto)
                  rw [← hW1]
                  clear hW1
                  obtain ⟨z0, z1⟩ := cell_sq hb1 0 (by decide)
                  simp only [Nat.reduceMul, Nat.reduceAdd, Nat.zero_add] at z0 z1
                  have z2 := blk_cell hb1 129
                  have z3 := blk_cell hb2 0
                  have z4 := blk_cell hb2 1
                  have l1 := blk_lt hb1
                  have l2 := blk_lt hb2
                  simp only [go_sem, List.getElem?_toArray, List.getElem?_cons_zero, List.getElem?_cons_succ] at z2 z3 z4
                  refine wp_quiet (by kernel_rfl) (by kernel_rfl) ?_; (repeat (first | go_big_quiet_step ((first | (go_at_call 214; with_reducible exact Calls.reg (HF _ _)))) | quiet_step ((first | (go_at_call 214; with_reducible exact Calls.reg (HF _ _)))))); refine wpQuiet_nil ?_; intro w1 hx; obtain ⟨hxc, hxf, hxb, hxs⟩ := hx.all; (try simp only [World.size_alloc, size_set, size_drew] at hxc hxf hxb hxs); (first | (have h4 := lt4 w.heap.size w1.heap.size (by omega)); (obtain ⟨_, _, _, _⟩ := h4) | (have h4 := lt3 w.heap.size w1.heap.size (by omega)); (obtain ⟨_, _, _⟩ := h4) | (have h4 := lt2 w.heap.size w1.heap.size (by omega)); (obtain ⟨_, _⟩ := h4) | have := lt1 w.heap.size w1.heap.size (by omega) | skip)
                  go_wp2
                  all_goals (go_ret; exact Ret.mk' (vbool (by rw [HE.out]; (try simp_all))) (hE1.trans hx))
    · have HE := hid (HE0.out.trans (if_neg hc))
      clear HE0
      have HC := hid hc
      have hx : ((a == 4) = false) ∨ ((a == 4) = true ∧ p.castle < 0) ∨ ((a == 4) = true ∧ 0 ≤ p.castle ∧ 15 < p.castle) := by
        by_cases h : a = 4
        · by_cases h0 : p.castle < 0
          · exact .inr (.inl ⟨by simpa using h, h0⟩)
          · exact .inr (.inr ⟨by simpa using h, by omega, by omega⟩)
        · exact .inl (by simpa using h)
      clear hc
      clear HC
      rcases hx with h1 | ⟨h1, h2⟩ | ⟨h1, h2, h3⟩
      · go_enter Tryz.func186, Tryz.ntmps186
        go_wp2
        all_goals (go_ret; exact Ret.mk' (vbool (by first | rw [HE.out] | (exfalso; simp_all))) (Ext.auto))
      · obtain rfl : a = 4 := by simpa using h1
        have p9 : ∀ h, (posCells p)[9]'h = .int .i64 (p.side 4) := fun h => posCells_side' p 4 (by decide) h
        have p8 : (posCells p)[9]? = some (.int .i64 (p.side 4)) := posCells_side p 4 (by decide)
        have hs4 : p.side 4 = 0 := hs
        clear hs
        go_enter Tryz.func186, Tryz.ntmps186
        go_wp2
        all_goals (go_ret; exact Ret.mk' (vbool (by first | rw [HE.out] | (exfalso; simp_all))) (Ext.auto))
      · obtain rfl : a = 4 := by simpa using h1
        have p9 : ∀ h, (posCells p)[9]'h = .int .i64 (p.side 4) := fun h => posCells_side' p 4 (by decide) h
        have p8 : (posCells p)[9]? = some (.int .i64 (p.side 4)) := posCells_side p 4 (by decide)
        have hs4 : p.side 4 = 0 := hs
        clear hs
        go_enter Tryz.func186, Tryz.ntmps186
        go_wp2
        all_goals (go_ret; exact Ret.mk' (vbool (by first | rw [HE.out] | (exfalso; simp_all))) (Ext.auto))
  · have HE0 := hid (show rCastleB p a t = if a = 60 ∧ 0 ≤ p.castle ∧ p.castle ≤ 15 then (if t = 62 then p.castle / 4 % 2 == 1 && (p.kind 63 == 4 && p.side 63 == 1) && freeAt p 61 && freeAt p 62 else t == 58 && p.castle / 8 % 2 == 1 && (p.kind 56 == 4 && p.side 56 == 1) && freeAt p 59 && freeAt p 58 && freeAt p 57) else false by
      unfold rCastleB standsB; rw [hs]; simp [homeOf])
    by_cases hc : a = 60 ∧ 0 ≤ p.castle ∧ p.castle ≤ 15
    · have HE := hid (HE0.out.trans (if_pos hc))
      clear HE0
      obtain ⟨rfl, c0, c1⟩ := hc
      have hs4 : p.side 60 = 1 := hs
      have p9 : ∀ h, (posCells p)[121]'h = .int .i64 (p.side 60) := fun h => posCells_side' p 60 (by decide) h
      have p8 : (posCells p)[121]? = some (.int .i64 (p.side 60)) := posCells_side p 60 (by decide)
      clear hs
      have q1 : p.castle.tdiv 1 = p.castle := Int.tdiv_one _
      have q2 : p.castle.tdiv 2 = p.castle / 2 := Int.tdiv_eq_ediv_of_nonneg c0
      have q4 : p.castle.tdiv 4 = p.castle / 4 := Int.tdiv_eq_ediv_of_nonneg c0
      have q8 : p.castle.tdiv 8 = p.castle / 8 := Int.tdiv_eq_ediv_of_nonneg c0
      have r1 : p.castle.tmod 2 = p.castle % 2 := Int.tmod_eq_emod_of_nonneg c0
      have r2 : (p.castle / 2).tmod 2 = p.castle / 2 % 2 := Int.tmod_eq_emod_of_nonneg (by omega)
      have r4 : (p.castle / 4).tmod 2 = p.castle / 4 % 2 := Int.tmod_eq_emod_of_nonneg (by omega)
      have r8 : (p.castle / 8).tmod 2 = p.castle / 8 % 2 := Int.tmod_eq_emod_of_nonneg (by omega)
      by_cases ht : t = 62
      · subst ht
        have HE := hid (HE.out.trans (if_pos rfl))
        cases h1 : (p.castle / 4 % 2 == 1)
        · skip
          go_enter Tryz.func186, Tryz.ntmps186
          go_upto_region 9 with (fail)
          obtain ⟨W1, hW1⟩ : ∃ W1, W1 = (w.alloc (.cells (posCells p) 30)).alloc (.cells #[.int .i64 4, .int .i64 1] 26) := ⟨_, rfl⟩
          have hb1 : blk W1 w.heap.size = some (.cells (posCells p) 30 (0, 0)) := by rw [hW1]; simp [go_sem]
          have hb2 : blk W1 (w.heap.size + 1) = some (.cells #[.int .i64 4, .int .i64 1] 26 (0, 0)) := by rw [hW1]; simp [go_sem]
          have hE1 : Ext w W1 := by rw [hW1]; exact (Ext.auto)
          rw [← hW1]
          clear hW1
          obtain ⟨z0, z1⟩ := cell_sq hb1 63 (by decide)
          simp only [Nat.reduceMul, Nat.reduceAdd, Nat.zero_add] at z0 z1
          have z2 := blk_cell hb1 129
          have z3 := blk_cell hb2 0
          have z4 := blk_cell hb2 1
          have l1 := blk_lt hb1
          have l2 := blk_lt hb2
          simp only [go_sem, List.getElem?_toArray, List.getElem?_cons_zero, List.getElem?_cons_succ] at z2 z3 z4
          refine wp_quiet (by kernel_rfl) (by kernel_rfl) ?_; (repeat (first | go_big_quiet_step ((first | (go_at_call 214; with_reducible exact Calls.reg (HF _ _)))) | quiet_step ((first | (go_at_call 214; with_reducible exact Calls.reg (HF _ _)))))); refine wpQuiet_nil ?_; intro w1 hx; obtain ⟨hxc, hxf, hxb, hxs⟩ := hx.all; (try simp only [World.size_alloc, size_set, size_drew] at hxc hxf hxb hxs); (first | (have h4 := lt4 w.heap.size w1.heap.size (by omega)); (obtain ⟨_, _, _, _⟩ := h4) | (have h4 := lt3 w.heap.size w1.heap.size (by omega)); (obtain ⟨_, _, _⟩ := h4) | (have h4 := lt2 w.heap.size w1.heap.size (by omega)); (obtain ⟨_, _⟩ := h4) | have := lt1 w.heap.size w1.heap.size (by omega) | skip)
          go_wp2
          all_goals (go_ret; exact Ret.mk' (vbool (by rw [HE.out]; (try simp_all))) (hE1.trans hx))
        · skip
          cases h2 : (p.kind 63 == 4 && p.side 63 == 1)
          · skip
            go_enter Tryz.func186, Tryz.ntmps186
            go_upto_region 9 with (fail)
            obtain ⟨W1, hW1⟩ : ∃ W1, W1 = (w.alloc (.cells (posCells p) 30)).alloc (.cells #[.int .i64 4, .int .i64 1] 26) := ⟨_, rfl⟩
            have hb1 : blk W1 w.heap.size = some (.cells (posCells p) 30 (0, 0)) := by rw [hW1]; simp [go_sem]
            have hb2 : blk W1 (w.heap.size + 1) = some (.cells #[.int .i64 4, .int .i64 1] 26 (0, 0)) := by rw [hW1]; simp [go_sem]
            have hE1 : Ext w W1 := by rw [hW1]; exact (Ext.auto)
            rw [← hW1]
            clear hW1
            obtain ⟨z0, z1⟩ := cell_sq hb1 63 (by decide)
            simp only [Nat.reduceMul, Nat.reduceAdd, Nat.zero_add] at z0 z1
            have z2 := blk_cell hb1 129
            have z3 := blk_cell hb2 0
            have z4 := blk_cell hb2 1
            have l1 := blk_lt hb1
            have l2 := blk_lt hb2
            simp only [go_sem, List.getElem?_toArray, List.getElem?_cons_zero, List.getElem?_cons_succ] at z2 z3 z4
            refine wp_quiet (by kernel_rfl) (by kernel_rfl) ?_; (repeat (first | go_big_quiet_step ((first | (go_at_call 214; with_reducible exact Calls.reg (HF _ _)))) | quiet_step ((first | (go_at_call 214; with_reducible exact Calls.reg (HF _ _)))))); refine wpQuiet_nil ?_; intro w1 hx; obtain ⟨hxc, hxf, hxb, hxs⟩ := hx.all; (try simp only [World.size_alloc, size_set, size_drew] at hxc hxf hxb hxs); (first | (have h4 := lt4 w.heap.size w1.heap.size (by omega)); (obtain ⟨_, _, _, _⟩ := h4) | (have h4 := lt3 w.heap.size w1.heap.size (by omega)); (obtain ⟨_, _, _⟩ := h4) | (have h4 := lt2 w.heap.size w1.heap.size (by omega)); (obtain ⟨_, _⟩ := h4) | have := lt1 w.heap.size w1.heap.size (by omega) | skip)
            go_wp2
            all_goals (go_ret; exact Ret.mk' (vbool (by rw [HE.out]; (try simp_all))) (hE1.trans hx))
          · skip
            cases h3 : freeAt p 61
            · skip
              go_enter Tryz.func186, Tryz.ntmps186
              go_upto_region 9 with (fail)
              obtain ⟨W1, hW1⟩ : ∃ W1, W1 = (w.alloc (.cells (posCells p) 30)).alloc (.cells #[.int .i64 4, .int .i64 1] 26) := ⟨_, rfl⟩
              have hb1 : blk W1 w.heap.size = some (.cells (posCells p) 30 (0, 0)) := by rw [hW1]; simp [go_sem]
              have hb2 : blk W1 (w.heap.size + 1) = some (.cells #[.int .i64 4, .int .i64 1] 26 (0, 0)) := by rw [hW1]; simp [go_sem]
              have hE1 : Ext w W1 := by rw [hW1]; exact (Ext.auto)
              rw [← hW1]
              clear hW1
              obtain ⟨z0, z1⟩ := cell_sq hb1 63 (by decide)
              simp only [Nat.reduceMul, Nat.reduceAdd, Nat.zero_add] at z0 z1
              have z2 := blk_cell hb1 129
              have z3 := blk_cell hb2 0
              have z4 := blk_cell hb2 1
              have l1 := blk_lt hb1
              have l2 := blk_lt hb2
              simp only [go_sem, List.getElem?_toArray, List.getElem?_cons_zero, List.getElem?_cons_succ] at z2 z3 z4
              refine wp_quiet (by kernel_rfl) (by kernel_rfl) ?_; (repeat (first | go_big_quiet_step ((first | (go_at_call 214; with_reducible exact Calls.reg (HF _ _)))) | quiet_step ((first | (go_at_call 214; with_reducible exact Calls.reg (HF _ _)))))); refine wpQuiet_nil ?_; intro w1 hx; obtain ⟨hxc, hxf, hxb, hxs⟩ := hx.all; (try simp only [World.size_alloc, size_set, size_drew] at hxc hxf hxb hxs); (first | (have h4 := lt4 w.heap.size w1.heap.size (by omega)); (obtain ⟨_, _, _, _⟩ := h4) | (have h4 := lt3 w.heap.size w1.heap.size (by omega)); (obtain ⟨_, _, _⟩ := h4) | (have h4 := lt2 w.heap.size w1.heap.size (by omega)); (obtain ⟨_, _⟩ := h4) | have := lt1 w.heap.size w1.heap.size (by omega) | skip)
              go_wp2
              all_goals (go_ret; exact Ret.mk' (vbool (by rw [HE.out]; (try simp_all))) (hE1.trans hx))
            · skip
              go_enter Tryz.func186, Tryz.ntmps186
              go_upto_region 9 with (fail)
              obtain ⟨W1, hW1⟩ : ∃ W1, W1 = (w.alloc (.cells (posCells p) 30)).alloc (.cells #[.int .i64 4, .int .i64 1] 26) := ⟨_, rfl⟩
              have hb1 : blk W1 w.heap.size = some (.cells (posCells p) 30 (0, 0)) := by rw [hW1]; simp [go_sem]
              have hb2 : blk W1 (w.heap.size + 1) = some (.cells #[.int .i64 4, .int .i64 1] 26 (0, 0)) := by rw [hW1]; simp [go_sem]
              have hE1 : Ext w W1 := by rw [hW1]; exact (Ext.auto)
              rw [← hW1]
              clear hW1
              obtain ⟨z0, z1⟩ := cell_sq hb1 63 (by decide)
              simp only [Nat.reduceMul, Nat.reduceAdd, Nat.zero_add] at z0 z1
              have z2 := blk_cell hb1 129
              have z3 := blk_cell hb2 0
              have z4 := blk_cell hb2 1
              have l1 := blk_lt hb1
              have l2 := blk_lt hb2
              simp only [go_sem, List.getElem?_toArray, List.getElem?_cons_zero, List.getElem?_cons_succ] at z2 z3 z4
              refine wp_quiet (by kernel_rfl) (by kernel_rfl) ?_; (repeat (first | go_big_quiet_step ((first | (go_at_call 214; with_reducible exact Calls.reg (HF _ _)))) | quiet_step ((first | (go_at_call 214; with_reducible exact Calls.reg (HF _ _)))))); refine wpQuiet_nil ?_; intro w1 hx; obtain ⟨hxc, hxf, hxb, hxs⟩ := hx.all; (try simp only [World.size_alloc, size_set, size_drew] at hxc hxf hxb hxs); (first | (have h4 := lt4 w.heap.size w1.heap.size (by omega)); (obtain ⟨_, _, _, _⟩ := h4) | (have h4 := lt3 w.heap.size w1.heap.size (by omega)); (obtain ⟨_, _, _⟩ := h4) | (have h4 := lt2 w.heap.size w1.heap.size (by omega)); (obtain ⟨_, _⟩ := h4) | have := lt1 w.heap.size w1.heap.size (by omega) | skip)
              go_wp2
              all_goals (go_ret; exact Ret.mk' (vbool (by rw [HE.out]; (try simp_all))) (hE1.trans hx))
      · have HE := hid (HE.out.trans (if_neg ht))
        have e1 : (t == 62) = false := by simpa using ht
        clear ht
        cases h0 : (t == 58)
        · skip
          go_enter Tryz.func186, Tryz.ntmps186
          go_upto_region 10 with (fail)
          obtain ⟨W1, hW1⟩ : ∃ W1, W1 = (w.alloc (.cells (posCells p) 30)).alloc (.cells #[.int .i64 4, .int .i64 1] 26) := ⟨_, rfl⟩
          have hb1 : blk W1 w.heap.size = some (.cells (posCells p) 30 (0, 0)) := by rw [hW1]; simp [go_sem]
          have hb2 : blk W1 (w.heap.size + 1) = some (.cells #[.int .i64 4, .int .i64 1] 26 (0, 0)) := by rw [hW1]; simp [go_sem]
          have hE1 : Ext w W1 := by rw [hW1]; exact (Ext.auto)
          rw [← hW1]
          clear hW1
          obtain ⟨z0, z1⟩ := cell_sq hb1 56 (by decide)
          simp only [Nat.reduceMul, Nat.reduceAdd, Nat.zero_add] at z0 z1
          have z2 := blk_cell hb1 129
          have z3 := blk_cell hb2 0
          have z4 := blk_cell hb2 1
          have l1 := blk_lt hb1
          have l2 := blk_lt hb2
          simp only [go_sem, List.getElem?_toArray, List.getElem?_cons_zero, List.getElem?_cons_succ] at z2 z3 z4
          refine wp_quiet (by kernel_rfl) (by kernel_rfl) ?_; (repeat (first | go_big_quiet_step ((first | (go_at_call 214; with_reducible exact Calls.reg (HF _ _)))) | quiet_step ((first | (go_at_call 214; with_reducible exact Calls.reg (HF _ _)))))); refine wpQuiet_nil ?_; intro w1 hx; obtain ⟨hxc, hxf, hxb, hxs⟩ := hx.all; (try simp only [World.size_alloc, size_set, size_drew] at hxc hxf hxb hxs); (first | (have h4 := lt4 w.heap.size w1.heap.size (by omega)); (obtain ⟨_, _, _, _⟩ := h4) | (have h4 := lt3 w.heap.size w1.heap.size (by omega)); (obtain ⟨_, _, _⟩ := h4) | (have h4 := lt2 w.heap.size w1.heap.size (by omega)); (obtain ⟨_, _⟩ := h4) | have := lt1 w.heap.size w1.heap.size (by omega) | skip)
          go_wp2
          all_goals (go_ret; exact Ret.mk' (vbool (by rw [HE.out]; (try simp_all))) (hE1.trans hx))
        · skip
          cases h1 : (p.castle / 8 % 2 == 1)
          · skip
            go_enter Tryz.func186, Tryz.ntmps186
            go_upto_region 10 with (fail)
            obtain ⟨W1, hW1⟩ : ∃ W1, W1 = (w.alloc (.cells (posCells p) 30)).alloc (.cells #[.int .i64 4, .int .i64 1] 26) := ⟨_, rfl⟩
            have hb1 : blk W1 w.heap.size = some (.cells (posCells p) 30 (0, 0)) := by rw [hW1]; simp [go_sem]
            have hb2 : blk W1 (w.heap.size + 1) = some (.cells #[.int .i64 4, .int .i64 1] 26 (0, 0)) := by rw [hW1]; simp [go_sem]
            have hE1 : Ext w W1 := by rw [hW1]; exact (Ext.auto)
            rw [← hW1]
            clear hW1
            obtain ⟨z0, z1⟩ := cell_sq hb1 56 (by decide)
            simp only [Nat.reduceMul, Nat.reduceAdd, Nat.zero_add] at z0 z1
            have z2 := blk_cell hb1 129
            have z3 := blk_cell hb2 0
            have z4 := blk_cell hb2 1
            have l1 := blk_lt hb1
            have l2 := blk_lt hb2
            simp only [go_sem, List.getElem?_toArray, List.getElem?_cons_zero, List.getElem?_cons_succ] at z2 z3 z4
            refine wp_quiet (by kernel_rfl) (by kernel_rfl) ?_; (repeat (first | go_big_quiet_step ((first | (go_at_call 214; with_reducible exact Calls.reg (HF _ _)))) | quiet_step ((first | (go_at_call 214; with_reducible exact Calls.reg (HF _ _)))))); refine wpQuiet_nil ?_; intro w1 hx; obtain ⟨hxc, hxf, hxb, hxs⟩ := hx.all; (try simp only [World.size_alloc, size_set, size_drew] at hxc hxf hxb hxs); (first | (have h4 := lt4 w.heap.size w1.heap.size (by omega)); (obtain ⟨_, _, _, _⟩ := h4) | (have h4 := lt3 w.heap.size w1.heap.size (by omega)); (obtain ⟨_, _, _⟩ := h4) | (have h4 := lt2 w.heap.size w1.heap.size (by omega)); (obtain ⟨_, _⟩ := h4) | have := lt1 w.heap.size w1.heap.size (by omega) | skip)
            go_wp2
            all_goals (go_ret; exact Ret.mk' (vbool (by rw [HE.out]; (try simp_all))) (hE1.trans hx))
          · skip
            cases h2 : (p.kind 56 == 4 && p.side 56 == 1)
            · skip
              go_enter Tryz.func186, Tryz.ntmps186
              go_upto_region 10 with (fail)
              obtain ⟨W1, hW1⟩ : ∃ W1, W1 = (w.alloc (.cells (posCells p) 30)).alloc (.cells #[.int .i64 4, .int .i64 1] 26) := ⟨_, rfl⟩
              have hb1 : blk W1 w.heap.size = some (.cells (posCells p) 30 (0, 0)) := by rw [hW1]; simp [go_sem]
              have hb2 : blk W1 (w.heap.size + 1) = some (.cells #[.int .i64 4, .int .i64 1] 26 (0, 0)) := by rw [hW1]; simp [go_sem]
              have hE1 : Ext w W1 := by rw [hW1]; exact (Ext.auto)
              rw [← hW1]
              clear hW1
              obtain ⟨z0, z1⟩ := cell_sq hb1 56 (by decide)
              simp only [Nat.reduceMul, Nat.reduceAdd, Nat.zero_add] at z0 z1
              have z2 := blk_cell hb1 129
              have z3 := blk_cell hb2 0
              have z4 := blk_cell hb2 1
              have l1 := blk_lt hb1
              have l2 := blk_lt hb2
              simp only [go_sem, List.getElem?_toArray, List.getElem?_cons_zero, List.getElem?_cons_succ] at z2 z3 z4
              refine wp_quiet (by kernel_rfl) (by kernel_rfl) ?_; (repeat (first | go_big_quiet_step ((first | (go_at_call 214; with_reducible exact Calls.reg (HF _ _)))) | quiet_step ((first | (go_at_call 214; with_reducible exact Calls.reg (HF _ _)))))); refine wpQuiet_nil ?_; intro w1 hx; obtain ⟨hxc, hxf, hxb, hxs⟩ := hx.all; (try simp only [World.size_alloc, size_set, size_drew] at hxc hxf hxb hxs); (first | (have h4 := lt4 w.heap.size w1.heap.size (by omega)); (obtain ⟨_, _, _, _⟩ := h4) | (have h4 := lt3 w.heap.size w1.heap.size (by omega)); (obtain ⟨_, _, _⟩ := h4) | (have h4 := lt2 w.heap.size w1.heap.size (by omega)); (obtain ⟨_, _⟩ := h4) | have := lt1 w.heap.size w1.heap.size (by omega) | skip)
              go_wp2
              all_goals (go_ret; exact Ret.mk' (vbool (by rw [HE.out]; (try simp_all))) (hE1.trans hx))
            · skip
              cases h3 : freeAt p 59
              · skip
                go_enter Tryz.func186, Tryz.ntmps186
                go_upto_region 10 with (fail)
                obtain ⟨W1, hW1⟩ : ∃ W1, W1 = (w.alloc (.cells (posCells p) 30)).alloc (.cells #[.int .i64 4, .int .i64 1] 26) := ⟨_, rfl⟩
                have hb1 : blk W1 w.heap.size = some (.cells (posCells p) 30 (0, 0)) := by rw [hW1]; simp [go_sem]
                have hb2 : blk W1 (w.heap.size + 1) = some (.cells #[.int .i64 4, .int .i64 1] 26 (0, 0)) := by rw [hW1]; simp [go_sem]
                have hE1 : Ext w W1 := by rw [hW1]; exact (Ext.auto)
                rw [← hW1]
                clear hW1
                obtain ⟨z0, z1⟩ := cell_sq hb1 56 (by decide)
                simp only [Nat.reduceMul, Nat.reduceAdd, Nat.zero_add] at z0 z1
                have z2 := blk_cell hb1 129
                have z3 := blk_cell hb2 0
                have z4 := blk_cell hb2 1
                have l1 := blk_lt hb1
                have l2 := blk_lt hb2
                simp only [go_sem, List.getElem?_toArray, List.getElem?_cons_zero, List.getElem?_cons_succ] at z2 z3 z4
                refine wp_quiet (by kernel_rfl) (by kernel_rfl) ?_; (repeat (first | go_big_quiet_step ((first | (go_at_call 214; with_reducible exact Calls.reg (HF _ _)))) | quiet_step ((first | (go_at_call 214; with_reducible exact Calls.reg (HF _ _)))))); refine wpQuiet_nil ?_; intro w1 hx; obtain ⟨hxc, hxf, hxb, hxs⟩ := hx.all; (try simp only [World.size_alloc, size_set, size_drew] at hxc hxf hxb hxs); (first | (have h4 := lt4 w.heap.size w1.heap.size (by omega)); (obtain ⟨_, _, _, _⟩ := h4) | (have h4 := lt3 w.heap.size w1.heap.size (by omega)); (obtain ⟨_, _, _⟩ := h4) | (have h4 := lt2 w.heap.size w1.heap.size (by omega)); (obtain ⟨_, _⟩ := h4) | have := lt1 w.heap.size w1.heap.size (by omega) | skip)
                go_wp2
                all_goals (go_ret; exact Ret.mk' (vbool (by rw [HE.out]; (try simp_all))) (hE1.trans hx))
              · skip
                cases h4 : freeAt p 58
                · skip
                  go_enter Tryz.func186, Tryz.ntmps186
                  go_upto_region 10 with (fail)
                  obtain ⟨W1, hW1⟩ : ∃ W1, W1 = (w.alloc (.cells (posCells p) 30)).alloc (.cells #[.int .i64 4, .int .i64 1] 26) := ⟨_, rfl⟩
                  have hb1 : blk W1 w.heap.size = some (.cells (posCells p) 30 (0, 0)) := by rw [hW1]; simp [go_sem]
                  have hb2 : blk W1 (w.heap.size + 1) = some (.cells #[.int .i64 4, .int .i64 1] 26 (0, 0)) := by rw [hW1]; simp [go_sem]
                  have hE1 : Ext w W1 := by rw [hW1]; exact (Ext.auto)
                  rw [← hW1]
                  clear hW1
                  obtain ⟨z0, z1⟩ := cell_sq hb1 56 (by decide)
                  simp only [Nat.reduceMul, Nat.reduceAdd, Nat.zero_add] at z0 z1
                  have z2 := blk_cell hb1 129
                  have z3 := blk_cell hb2 0
                  have z4 := blk_cell hb2 1
                  have l1 := blk_lt hb1
                  have l2 := blk_lt hb2
                  simp only [go_sem, List.getElem?_toArray, List.getElem?_cons_zero, List.getElem?_cons_succ] at z2 z3 z4
                  refine wp_quiet (by kernel_rfl) (by kernel_rfl) ?_; (repeat (first | go_big_quiet_step ((first | (go_at_call 214; with_reducible exact Calls.reg (HF _ _)))) | quiet_step ((first | (go_at_call 214; with_reducible exact Calls.reg (HF _ _)))))); refine wpQuiet_nil ?_; intro w1 hx; obtain ⟨hxc, hxf, hxb, hxs⟩ := hx.all; (try simp only [World.size_alloc, size_set, size_drew] at hxc hxf hxb hxs); (first | (have h4 := lt4 w.heap.size w1.heap.size (by omega)); (obtain ⟨_, _, _, _⟩ := h4) | (have h4 := lt3 w.heap.size w1.heap.size (by omega)); (obtain ⟨_, _, _⟩ := h4) | (have h4 := lt2 w.heap.size w1.heap.size (by omega)); (obtain ⟨_, _⟩ := h4) | have := lt1 w.heap.size w1.heap.size (by omega) | skip)
                  go_wp2
                  all_goals (go_ret; exact Ret.mk' (vbool (by rw [HE.out]; (try simp_all))) (hE1.trans hx))
                · skip
                  go_enter Tryz.func186, Tryz.ntmps186
                  go_upto_region 10 with (fail)
                  obtain ⟨W1, hW1⟩ : ∃ W1, W1 = (w.alloc (.cells (posCells p) 30)).alloc (.cells #[.int .i64 4, .int .i64 1] 26) := ⟨_, rfl⟩
                  have hb1 : blk W1 w.heap.size = some (.cells (posCells p) 30 (0, 0)) := by rw [hW1]; simp [go_sem]
                  have hb2 : blk W1 (w.heap.size + 1) = some (.cells #[.int .i64 4, .int .i64 1] 26 (0, 0)) := by rw [hW1]; simp [go_sem]
                  have hE1 : Ext w W1 := by rw [hW1]; exact (Ext.auto)
                  rw [← hW1]
                  clear hW1
                  obtain ⟨z0, z1⟩ := cell_sq hb1 56 (by decide)
                  simp only [Nat.reduceMul, Nat.reduceAdd, Nat.zero_add] at z0 z1
                  have z2 := blk_cell hb1 129
                  have z3 := blk_cell hb2 0
                  have z4 := blk_cell hb2 1
                  have l1 := blk_lt hb1
                  have l2 := blk_lt hb2
                  simp only [go_sem, List.getElem?_toArray, List.getElem?_cons_zero, List.getElem?_cons_succ] at z2 z3 z4
                  refine wp_quiet (by kernel_rfl) (by kernel_rfl) ?_; (repeat (first | go_big_quiet_step ((first | (go_at_call 214; with_reducible exact Calls.reg (HF _ _)))) | quiet_step ((first | (go_at_call 214; with_reducible exact Calls.reg (HF _ _)))))); refine wpQuiet_nil ?_; intro w1 hx; obtain ⟨hxc, hxf, hxb, hxs⟩ := hx.all; (try simp only [World.size_alloc, size_set, size_drew] at hxc hxf hxb hxs); (first | (have h4 := lt4 w.heap.size w1.heap.size (by omega)); (obtain ⟨_, _, _, _⟩ := h4) | (have h4 := lt3 w.heap.size w1.heap.size (by omega)); (obtain ⟨_, _, _⟩ := h4) | (have h4 := lt2 w.heap.size w1.heap.size (by omega)); (obtain ⟨_, _⟩ := h4) | have := lt1 w.heap.size w1.heap.size (by omega) | skip)
                  go_wp2
                  all_goals (go_ret; exact Ret.mk' (vbool (by rw [HE.out]; (try simp_all))) (hE1.trans hx))
    · have HE := hid (HE0.out.trans (if_neg hc))
      clear HE0
      have HC := hid hc
      have hx : ((a == 60) = false) ∨ ((a == 60) = true ∧ p.castle < 0) ∨ ((a == 60) = true ∧ 0 ≤ p.castle ∧ 15 < p.castle) := by
        by_cases h : a = 60
        · by_cases h0 : p.castle < 0
          · exact .inr (.inl ⟨by simpa using h, h0⟩)
          · exact .inr (.inr ⟨by simpa using h, by omega, by omega⟩)
        · exact .inl (by simpa using h)
      clear hc
      clear HC
      rcases hx with h1 | ⟨h1, h2⟩ | ⟨h1, h2, h3⟩
      · go_enter Tryz.func186, Tryz.ntmps186
        go_wp2
        all_goals (go_ret; exact Ret.mk' (vbool (by first | rw [HE.out] | (exfalso; simp_all))) (Ext.auto))
      · obtain rfl : a = 60 := by simpa using h1
        have p9 : ∀ h, (posCells p)[121]'h = .int .i64 (p.side 60) := fun h => posCells_side' p 60 (by decide) h
        have p8 : (posCells p)[121]? = some (.int .i64 (p.side 60)) := posCells_side p 60 (by decide)
        have hs4 : p.side 60 = 1 := hs
        clear hs
        go_enter Tryz.func186, Tryz.ntmps186
        go_wp2
        all_goals (go_ret; exact Ret.mk' (vbool (by first | rw [HE.out] | (exfalso; simp_all))) (Ext.auto))
      · obtain rfl : a = 60 := by simpa using h1
        have p9 : ∀ h, (posCells p)[121]'h = .int .i64 (p.side 60) := fun h => posCells_side' p 60 (by decide) h
        have p8 : (posCells p)[121]? = some (.int .i64 (p.side 60)) := posCells_side p 60 (by decide)
        have hs4 : p.side 60 = 1 := hs
        clear hs
        go_enter Tryz.func186, Tryz.ntmps186
        go_wp2
        all_goals (go_ret; exact Ret.mk' (vbool (by first | rw [HE.out] | (exfalso; simp_all))) (Ext.auto))
end Go.Proofs.YtdmgimfgoajmjaaGreatDoor
