/- What a piece attacks, in the document's answer. -/
import Derived.Test.YtdmgimfgoajmjaaGreatDoorC30
import Derived.Test.YtdmgimfgoajmjaaGreatDoorC01
import Derived.Test.YtdmgimfgoajmjaaGreatDoorC14
import Derived.Test.YtdmgimfgoajmjaaGreatDoorC13
set_option linter.unusedVariables false
set_option linter.unusedSimpArgs false
namespace Go.Proofs.YtdmgimfgoajmjaaGreatDoor
open Go.RowKit
theorem abs_bd (b : Int) (h0 : -7 ≤ b) (h1 : b ≤ 7) : 0 ≤ absOf b ∧ absOf b ≤ 7 := by unfold absOf; split <;> omega
theorem mul_small {x y : Int} (h0 : 0 ≤ x) (h1 : x ≤ 7) (h2 : 0 ≤ y) (h3 : y ≤ 7) : wrap64 (x * y) = x * y := by
  have h4 : 0 ≤ x * y := Int.mul_nonneg h0 h2
  have h5 : x * y ≤ 7 * 7 := Int.mul_le_mul h1 h3 h2 (by omega)
  unfold wrap64; omega
theorem fd_bd {a b : Int} (a0 : 0 ≤ a) (a1 : a < 64) (b0 : 0 ≤ b) (b1 : b < 64) : -7 ≤ fd a b ∧ fd a b ≤ 7 ∧ -7 ≤ rd a b ∧ rd a b ≤ 7 := by unfold fd rd; omega
set_option maxRecDepth 100000 in
set_option maxHeartbeats 2000000 in
theorem rAtt_any (p : Pos) (a b : Int) (w : World) (a0 : 0 ≤ a) (a1 : a < 64) (b0 : 0 ≤ b) (b1 : b < 64) :
    Calls Tryz.prog 185 #[.agg (posCells p), .int .i64 a, .int .i64 b] w (Ret (.bool (rAttB p a b)) w) := by
  have HA : ∀ w, Calls Tryz.prog 215 #[.int .i64 a, .int .i64 b] w (Ret (.tuple #[.int .i64 (fd a b), .int .i64 (rd a b)]) w) := fun w => rApart_any a b w a0 a1 b0 b1
  have HO : ∀ w, a ≠ b → (straightB a b || slantB a b) = true → Calls Tryz.prog 217 #[.agg (posCells p), .int .i64 a, .int .i64 b] w (Ret (.bool (openB p a b)) w) := fun w => rOpen_any p a b w a0 a1 b0 b1
  obtain ⟨d0, d1, d2, d3⟩ := fd_bd a0 a1 b0 b1
  obtain ⟨q0, q1⟩ := abs_bd _ d0 d1
  obtain ⟨q2, q3⟩ := abs_bd _ d2 d3
  have a2 : a.toNat < 64 := by omega
  cases hm : mayB (p.kind a.toNat) (p.side a.toNat)
  · have HE := hid (show rAttB p a b = false by unfold rAttB; rw [if_neg (by rw [hm]; rintro ⟨h, -⟩; cases h)])
    go_enter Tryz.func185, Tryz.ntmps185
    go_wp2_with (first | (go_at_call 165; (with_reducible refine (rMay_any _ _ _).mono ?_); rintro e w1 ⟨rfl, hx⟩; obtain ⟨hxc, hxf, hxb, hxs⟩ := hx.all; (try simp only [World.size_alloc, size_set, size_drew] at hxc hxf hxb hxs); (first | (have h4 := lt4 w.heap.size w1.heap.size (by omega)); (obtain ⟨_, _, _, _⟩ := h4) | (have h4 := lt3 w.heap.size w1.heap.size (by omega)); (obtain ⟨_, _, _⟩ := h4) | (have h4 := lt2 w.heap.size w1.heap.size (by omega)); (obtain ⟨_, _⟩ := h4) | have := lt1 w.heap.size w1.heap.size (by omega) | skip)))
    all_goals (go_ret; exact Ret.mk' (vbool HE.out.symm) (Ext.auto))
  · by_cases hab : a = b
    · have HE := hid (show rAttB p a b = false by unfold rAttB; rw [if_neg (fun h => h.2 hab)])
      have e1 : (a == b) = true := by simpa using hab
      clear hab
      go_enter Tryz.func185, Tryz.ntmps185
      go_wp2_with (first | (go_at_call 165; (with_reducible refine (rMay_any _ _ _).mono ?_); rintro e w1 ⟨rfl, hx⟩; obtain ⟨hxc, hxf, hxb, hxs⟩ := hx.all; (try simp only [World.size_alloc, size_set, size_drew] at hxc hxf hxb hxs); (first | (have h4 := lt4 w.heap.size w1.heap.size (by omega)); (obtain ⟨_, _, _, _⟩ := h4) | (have h4 := lt3 w.heap.size w1.heap.size (by omega)); (obtain ⟨_, _, _⟩ := h4) | (have h4 := lt2 w.heap.size w1.heap.size (by omega)); (obtain ⟨_, _⟩ := h4) | have := lt1 w.heap.size w1.heap.size (by omega) | skip)))
      all_goals (go_ret; exact Ret.mk' (vbool HE.out.symm) (Ext.auto))
    · have e1 : (a == b) = false := by simpa using hab
      have HE : ∀ X, (if p.kind a.toNat = 1 then absOf (fd a b) == 1 && ((p.side a.toNat == 0 && rd a b == 1) || (p.side a.toNat == 1 && rd a b == -1))
    else if p.kind a.toNat = 2 then absOf (fd a b) * absOf (rd a b) == 2
    else if p.kind a.toNat = 6 then decide (absOf (fd a b) ≤ 1) && decide (absOf (rd a b) ≤ 1)
    else if p.kind a.toNat = 4 then straightB a b && openB p a b
    else if p.kind a.toNat = 3 then slantB a b && openB p a b
    else (straightB a b || slantB a b) && openB p a b) = X → Hid (rAttB p a b = X) := by
        intro X h
        exact hid (by unfold rAttB; rw [if_pos ⟨hm, hab⟩, h])
      have HAB := hid hab
      clear hab
      by_cases k1 : p.kind a.toNat = 1
      · have HE := HE _ (if_pos k1)
        have t1 : (p.kind a.toNat == 1) = true := by simpa using k1
        clear k1 HO
        generalize hf : fd a b = f at *
        generalize hr : rd a b = r at *
        go_enter Tryz.func185, Tryz.ntmps185
        go_wp2_with (first | (go_at_call 165; (with_reducible refine (rMay_any _ _ _).mono ?_); rintro e w1 ⟨rfl, hx⟩; obtain ⟨hxc, hxf, hxb, hxs⟩ := hx.all; (try simp only [World.size_alloc, size_set, size_drew] at hxc hxf hxb hxs); (first | (have h4 := lt4 w.heap.size w1.heap.size (by omega)); (obtain ⟨_, _, _, _⟩ := h4) | (have h4 := lt3 w.heap.size w1.heap.size (by omega)); (obtain ⟨_, _, _⟩ := h4) | (have h4 := lt2 w.heap.size w1.heap.size (by omega)); (obtain ⟨_, _⟩ := h4) | have := lt1 w.heap.size w1.heap.size (by omega) | skip)) | (go_at_call 215; (with_reducible refine (HA _).mono ?_); rintro e w1 ⟨rfl, hx⟩; obtain ⟨hxc, hxf, hxb, hxs⟩ := hx.all; (try simp only [World.size_alloc, size_set, size_drew] at hxc hxf hxb hxs); (first | (have h4 := lt4 w.heap.size w1.heap.size (by omega)); (obtain ⟨_, _, _, _⟩ := h4) | (have h4 := lt3 w.heap.size w1.heap.size (by omega)); (obtain ⟨_, _, _⟩ := h4) | (have h4 := lt2 w.heap.size w1.heap.size (by omega)); (obtain ⟨_, _⟩ := h4) | have := lt1 w.heap.size w1.heap.size (by omega) | skip)) | (go_at_call 216; (with_reducible refine (rAbs_any _ _ (by omega) (by omega)).mono ?_); rintro e w1 ⟨rfl, hx⟩; obtain ⟨hxc, hxf, hxb, hxs⟩ := hx.all; (try simp only [World.size_alloc, size_set, size_drew] at hxc hxf hxb hxs); (first | (have h4 := lt4 w.heap.size w1.heap.size (by omega)); (obtain ⟨_, _, _, _⟩ := h4) | (have h4 := lt3 w.heap.size w1.heap.size (by omega)); (obtain ⟨_, _, _⟩ := h4) | (have h4 := lt2 w.heap.size w1.heap.size (by omega)); (obtain ⟨_, _⟩ := h4) | have := lt1 w.heap.size w1.heap.size (by omega) | skip)))
        all_goals (go_ret; exact Ret.mk' (vbool (by rw [HE.out]; go_light; simp_all)) (Ext.auto))
      · have t1 : (p.kind a.toNat == 1) = false := by simpa using k1
        have HE := fun X h => HE X ((if_neg k1).trans h)
        clear k1
        by_cases k2 : p.kind a.toNat = 2
        · have HE := HE _ (if_pos k2)
          have t2 : (p.kind a.toNat == 2) = true := by simpa using k2
          clear k2 HO
          generalize hf : fd a b = f at *
          generalize hr : rd a b = r at *
          go_enter Tryz.func185, Tryz.ntmps185
          go_wp2_with (first | (go_at_call 165; (with_reducible refine (rMay_any _ _ _).mono ?_); rintro e w1 ⟨rfl, hx⟩; obtain ⟨hxc, hxf, hxb, hxs⟩ := hx.all; (try simp only [World.size_alloc, size_set, size_drew] at hxc hxf hxb hxs); (first | (have h4 := lt4 w.heap.size w1.heap.size (by omega)); (obtain ⟨_, _, _, _⟩ := h4) | (have h4 := lt3 w.heap.size w1.heap.size (by omega)); (obtain ⟨_, _, _⟩ := h4) | (have h4 := lt2 w.heap.size w1.heap.size (by omega)); (obtain ⟨_, _⟩ := h4) | have := lt1 w.heap.size w1.heap.size (by omega) | skip)) | (go_at_call 215; (with_reducible refine (HA _).mono ?_); rintro e w1 ⟨rfl, hx⟩; obtain ⟨hxc, hxf, hxb, hxs⟩ := hx.all; (try simp only [World.size_alloc, size_set, size_drew] at hxc hxf hxb hxs); (first | (have h4 := lt4 w.heap.size w1.heap.size (by omega)); (obtain ⟨_, _, _, _⟩ := h4) | (have h4 := lt3 w.heap.size w1.heap.size (by omega)); (obtain ⟨_, _, _⟩ := h4) | (have h4 := lt2 w.heap.size w1.heap.size (by omega)); (obtain ⟨_, _⟩ := h4) | have := lt1 w.heap.size w1.heap.size (by omega) | skip)) | (go_at_call 216; (with_reducible refine (rAbs_any _ _ (by omega) (by omega)).mono ?_); rintro e w1 ⟨rfl, hx⟩; obtain ⟨hxc, hxf, hxb, hxs⟩ := hx.all; (try simp only [World.size_alloc, size_set, size_drew] at hxc hxf hxb hxs); (first | (have h4 := lt4 w.heap.size w1.heap.size (by omega)); (obtain ⟨_, _, _, _⟩ := h4) | (have h4 := lt3 w.heap.size w1.heap.size (by omega)); (obtain ⟨_, _, _⟩ := h4) | (have h4 := lt2 w.heap.size w1.heap.size (by omega)); (obtain ⟨_, _⟩ := h4) | have := lt1 w.heap.size w1.heap.size (by omega) | skip)))
          all_goals (go_ret; exact Ret.mk' (vbool (by rw [HE.out]; go_light; first | (rw [mul_small (abs_bd _ (by omega) (by omega)).1 (abs_bd _ (by omega) (by omega)).2 (abs_bd _ (by omega) (by omega)).1 (abs_bd _ (by omega) (by omega)).2]; done) | (rw [mul_small (abs_bd _ (by omega) (by omega)).1 (abs_bd _ (by omega) (by omega)).2 (abs_bd _ (by omega) (by omega)).1 (abs_bd _ (by omega) (by omega)).2]; subst_vars; simp_all))) (Ext.auto))
        · have t2 : (p.kind a.toNat == 2) = false := by simpa using k2
          have HE := fun X h => HE X ((if_neg k2).trans h)
          clear k2
          by_cases k6 : p.kind a.toNat = 6
          · have HE := HE _ (if_pos k6)
            have t6 : (p.kind a.toNat == 6) = true := by simpa using k6
            clear k6 HO
            generalize hf : fd a b = f at *
            generalize hr : rd a b = r at *
            go_enter Tryz.func185, Tryz.ntmps185
            go_wp2_with (first | (go_at_call 165; (with_reducible refine (rMay_any _ _ _).mono ?_); rintro e w1 ⟨rfl, hx⟩; obtain ⟨hxc, hxf, hxb, hxs⟩ := hx.all; (try simp only [World.size_alloc, size_set, size_drew] at hxc hxf hxb hxs); (first | (have h4 := lt4 w.heap.size w1.heap.size (by omega)); (obtain ⟨_, _, _, _⟩ := h4) | (have h4 := lt3 w.heap.size w1.heap.size (by omega)); (obtain ⟨_, _, _⟩ := h4) | (have h4 := lt2 w.heap.size w1.heap.size (by omega)); (obtain ⟨_, _⟩ := h4) | have := lt1 w.heap.size w1.heap.size (by omega) | skip)) | (go_at_call 215; (with_reducible refine (HA _).mono ?_); rintro e w1 ⟨rfl, hx⟩; obtain ⟨hxc, hxf, hxb, hxs⟩ := hx.all; (try simp only [World.size_alloc, size_set, size_drew] at hxc hxf hxb hxs); (first | (have h4 := lt4 w.heap.size w1.heap.size (by omega)); (obtain ⟨_, _, _, _⟩ := h4) | (have h4 := lt3 w.heap.size w1.heap.size (by omega)); (obtain ⟨_, _, _⟩ := h4) | (have h4 := lt2 w.heap.size w1.heap.size (by omega)); (obtain ⟨_, _⟩ := h4) | have := lt1 w.heap.size w1.heap.size (by omega) | skip)) | (go_at_call 216; (with_reducible refine (rAbs_any _ _ (by omega) (by omega)).mono ?_); rintro e w1 ⟨rfl, hx⟩; obtain ⟨hxc, hxf, hxb, hxs⟩ := hx.all; (try simp only [World.size_alloc, size_set, size_drew] at hxc hxf hxb hxs); (first | (have h4 := lt4 w.heap.size w1.heap.size (by omega)); (obtain ⟨_, _, _, _⟩ := h4) | (have h4 := lt3 w.heap.size w1.heap.size (by omega)); (obtain ⟨_, _, _⟩ := h4) | (have h4 := lt2 w.heap.size w1.heap.size (by omega)); (obtain ⟨_, _⟩ := h4) | have := lt1 w.heap.size w1.heap.size (by omega) | skip)))
            all_goals (go_ret; exact Ret.mk' (vbool (by rw [HE.out]; go_light; subst_vars; rw [Bool.eq_iff_iff]; simp_all; try omega)) (Ext.auto))
          · have t6 : (p.kind a.toNat == 6) = false := by simpa using k6
            have HE := fun X h => HE X ((if_neg k6).trans h)
            clear k6
            by_cases k4 : p.kind a.toNat = 4
            · have HE := HE _ (if_pos k4)
              have t4 : (p.kind a.toNat == 4) = true := by simpa using k4
              clear k4
              have hes : straightB a b = (fd a b == 0 || rd a b == 0) := rfl
              have heq : slantB a b = (absOf (fd a b) == absOf (rd a b)) := rfl
              cases h1 : (fd a b == 0) <;> cases h2 : (rd a b == 0) <;> cases h3 : (absOf (fd a b) == absOf (rd a b))
              all_goals
                rw [h1, h2] at hes
                rw [h3] at heq
                first | (have HL := hid (show (straightB a b || slantB a b) = true by rw [hes, heq]; rfl)) | (have HL := HAB)
                have HES := hid hes
                have HEQ := hid heq
                clear hes heq
                go_enter Tryz.func185, Tryz.ntmps185
                go_wp2_with (first | (go_at_call 165; (with_reducible refine (rMay_any _ _ _).mono ?_); rintro e w1 ⟨rfl, hx⟩; obtain ⟨hxc, hxf, hxb, hxs⟩ := hx.all; (try simp only [World.size_alloc, size_set, size_drew] at hxc hxf hxb hxs); (first | (have h4 := lt4 w.heap.size w1.heap.size (by omega)); (obtain ⟨_, _, _, _⟩ := h4) | (have h4 := lt3 w.heap.size w1.heap.size (by omega)); (obtain ⟨_, _, _⟩ := h4) | (have h4 := lt2 w.heap.size w1.heap.size (by omega)); (obtain ⟨_, _⟩ := h4) | have := lt1 w.heap.size w1.heap.size (by omega) | skip)) | (go_at_call 215; (with_reducible refine (HA _).mono ?_); rintro e w1 ⟨rfl, hx⟩; obtain ⟨hxc, hxf, hxb, hxs⟩ := hx.all; (try simp only [World.size_alloc, size_set, size_drew] at hxc hxf hxb hxs); (first | (have h4 := lt4 w.heap.size w1.heap.size (by omega)); (obtain ⟨_, _, _, _⟩ := h4) | (have h4 := lt3 w.heap.size w1.heap.size (by omega)); (obtain ⟨_, _, _⟩ := h4) | (have h4 := lt2 w.heap.size w1.heap.size (by omega)); (obtain ⟨_, _⟩ := h4) | have := lt1 w.heap.size w1.heap.size (by omega) | skip)) | (go_at_call 216; (with_reducible refine (rAbs_any _ _ (by omega) (by omega)).mono ?_); rintro e w1 ⟨rfl, hx⟩; obtain ⟨hxc, hxf, hxb, hxs⟩ := hx.all; (try simp only [World.size_alloc, size_set, size_drew] at hxc hxf hxb hxs); (first | (have h4 := lt4 w.heap.size w1.heap.size (by omega)); (obtain ⟨_, _, _, _⟩ := h4) | (have h4 := lt3 w.heap.size w1.heap.size (by omega)); (obtain ⟨_, _, _⟩ := h4) | (have h4 := lt2 w.heap.size w1.heap.size (by omega)); (obtain ⟨_, _⟩ := h4) | have := lt1 w.heap.size w1.heap.size (by omega) | skip)) | (go_at_call 217; (with_reducible refine (HO _ HAB.out HL.out).mono ?_); rintro e w1 ⟨rfl, hx⟩; obtain ⟨hxc, hxf, hxb, hxs⟩ := hx.all; (try simp only [World.size_alloc, size_set, size_drew] at hxc hxf hxb hxs); (first | (have h4 := lt4 w.heap.size w1.heap.size (by omega)); (obtain ⟨_, _, _, _⟩ := h4) | (have h4 := lt3 w.heap.size w1.heap.size (by omega)); (obtain ⟨_, _, _⟩ := h4) | (have h4 := lt2 w.heap.size w1.heap.size (by omega)); (obtain ⟨_, _⟩ := h4) | have := lt1 w.heap.size w1.heap.size (by omega) | skip)))
                all_goals (go_ret; exact Ret.mk' (vbool (by rw [HE.out]; (try rw [HES.out]); (try rw [HEQ.out]); simp)) (Ext.auto))
            · have t4 : (p.kind a.toNat == 4) = false := by simpa using k4
              have HE := fun X h => HE X ((if_neg k4).trans h)
              clear k4
              by_cases k3 : p.kind a.toNat = 3
              · have HE := HE _ (if_pos k3)
                have t3 : (p.kind a.toNat == 3) = true := by simpa using k3
                clear k3
                have hes : straightB a b = (fd a b == 0 || rd a b == 0) := rfl
                have heq : slantB a b = (absOf (fd a b) == absOf (rd a b)) := rfl
                cases h1 : (fd a b == 0) <;> cases h2 : (rd a b == 0) <;> cases h3 : (absOf (fd a b) == absOf (rd a b))
                all_goals
                  rw [h1, h2] at hes
                  rw [h3] at heq
                  first | (have HL := hid (show (straightB a b || slantB a b) = true by rw [hes, heq]; rfl)) | (have HL := HAB)
                  have HES := hid hes
                  have HEQ := hid heq
                  clear hes heq
                  go_enter Tryz.func185, Tryz.ntmps185
                  go_wp2_with (first | (go_at_call 165; (with_reducible refine (rMay_any _ _ _).mono ?_); rintro e w1 ⟨rfl, hx⟩; obtain ⟨hxc, hxf, hxb, hxs⟩ := hx.all; (try simp only [World.size_alloc, size_set, size_drew] at hxc hxf hxb hxs); (first | (have h4 := lt4 w.heap.size w1.heap.size (by omega)); (obtain ⟨_, _, _, _⟩ := h4) | (have h4 := lt3 w.heap.size w1.heap.size (by omega)); (obtain ⟨_, _, _⟩ := h4) | (have h4 := lt2 w.heap.size w1.heap.size (by omega)); (obtain ⟨_, _⟩ := h4) | have := lt1 w.heap.size w1.heap.size (by omega) | skip)) | (go_at_call 215; (with_reducible refine (HA _).mono ?_); rintro e w1 ⟨rfl, hx⟩; obtain ⟨hxc, hxf, hxb, hxs⟩ := hx.all; (try simp only [World.size_alloc, size_set, size_drew] at hxc hxf hxb hxs); (first | (have h4 := lt4 w.heap.size w1.heap.size (by omega)); (obtain ⟨_, _, _, _⟩ := h4) | (have h4 := lt3 w.heap.size w1.heap.size (by omega)); (obtain ⟨_, _, _⟩ := h4) | (have h4 := lt2 w.heap.size w1.heap.size (by omega)); (obtain ⟨_, _⟩ := h4) | have := lt1 w.heap.size w1.heap.size (by omega) | skip)) | (go_at_call 216; (with_reducible refine (rAbs_any _ _ (by omega) (by omega)).mono ?_); rintro e w1 ⟨rfl, hx⟩; obtain ⟨hxc, hxf, hxb, hxs⟩ := hx.all; (try simp only [World.size_alloc, size_set, size_drew] at hxc hxf hxb hxs); (first | (have h4 := lt4 w.heap.size w1.heap.size (by omega)); (obtain ⟨_, _, _, _⟩ := h4) | (have h4 := lt3 w.heap.size w1.heap.size (by omega)); (obtain ⟨_, _, _⟩ := h4) | (have h4 := lt2 w.heap.size w1.heap.size (by omega)); (obtain ⟨_, _⟩ := h4) | have := lt1 w.heap.size w1.heap.size (by omega) | skip)) | (go_at_call 217; (with_reducible refine (HO _ HAB.out HL.out).mono ?_); rintro e w1 ⟨rfl, hx⟩; obtain ⟨hxc, hxf, hxb, hxs⟩ := hx.all; (try simp only [World.size_alloc, size_set, size_drew] at hxc hxf hxb hxs); (first | (have h4 := lt4 w.heap.size w1.heap.size (by omega)); (obtain ⟨_, _, _, _⟩ := h4) | (have h4 := lt3 w.heap.size w1.heap.size (by omega)); (obtain ⟨_, _, _⟩ := h4) | (have h4 := lt2 w.heap.size w1.heap.size (by omega)); (obtain ⟨_, _⟩ := h4) | have := lt1 w.heap.size w1.heap.size (by omega) | skip)))
                  all_goals (go_ret; exact Ret.mk' (vbool (by rw [HE.out]; (try rw [HES.out]); (try rw [HEQ.out]); simp)) (Ext.auto))
              · have t3 : (p.kind a.toNat == 3) = false := by simpa using k3
                have HE := HE _ (if_neg k3)
                clear k3
                have hes : straightB a b = (fd a b == 0 || rd a b == 0) := rfl
                have heq : slantB a b = (absOf (fd a b) == absOf (rd a b)) := rfl
                cases h1 : (fd a b == 0) <;> cases h2 : (rd a b == 0) <;> cases h3 : (absOf (fd a b) == absOf (rd a b))
                all_goals
                  rw [h1, h2] at hes
                  rw [h3] at heq
                  first | (have HL := hid (show (straightB a b || slantB a b) = true by rw [hes, heq]; rfl)) | (have HL := HAB)
                  have HES := hid hes
                  have HEQ := hid heq
                  clear hes heq
                  go_enter Tryz.func185, Tryz.ntmps185
                  go_wp2_with (first | (go_at_call 165; (with_reducible refine (rMay_any _ _ _).mono ?_); rintro e w1 ⟨rfl, hx⟩; obtain ⟨hxc, hxf, hxb, hxs⟩ := hx.all; (try simp only [World.size_alloc, size_set, size_drew] at hxc hxf hxb hxs); (first | (have h4 := lt4 w.heap.size w1.heap.size (by omega)); (obtain ⟨_, _, _, _⟩ := h4) | (have h4 := lt3 w.heap.size w1.heap.size (by omega)); (obtain ⟨_, _, _⟩ := h4) | (have h4 := lt2 w.heap.size w1.heap.size (by omega)); (obtain ⟨_, _⟩ := h4) | have := lt1 w.heap.size w1.heap.size (by omega) | skip)) | (go_at_call 215; (with_reducible refine (HA _).mono ?_); rintro e w1 ⟨rfl, hx⟩; obtain ⟨hxc, hxf, hxb, hxs⟩ := hx.all; (try simp only [World.size_alloc, size_set, size_drew] at hxc hxf hxb hxs); (first | (have h4 := lt4 w.heap.size w1.heap.size (by omega)); (obtain ⟨_, _, _, _⟩ := h4) | (have h4 := lt3 w.heap.size w1.heap.size (by omega)); (obtain ⟨_, _, _⟩ := h4) | (have h4 := lt2 w.heap.size w1.heap.size (by omega)); (obtain ⟨_, _⟩ := h4) | have := lt1 w.heap.size w1.heap.size (by omega) | skip)) | (go_at_call 216; (with_reducible refine (rAbs_any _ _ (by omega) (by omega)).mono ?_); rintro e w1 ⟨rfl, hx⟩; obtain ⟨hxc, hxf, hxb, hxs⟩ := hx.all; (try simp only [World.size_alloc, size_set, size_drew] at hxc hxf hxb hxs); (first | (have h4 := lt4 w.heap.size w1.heap.size (by omega)); (obtain ⟨_, _, _, _⟩ := h4) | (have h4 := lt3 w.heap.size w1.heap.size (by omega)); (obtain ⟨_, _, _⟩ := h4) | (have h4 := lt2 w.heap.size w1.heap.size (by omega)); (obtain ⟨_, _⟩ := h4) | have := lt1 w.heap.size w1.heap.size (by omega) | skip)) | (go_at_call 217; (with_reducible refine (HO _ HAB.out HL.out).mono ?_); rintro e w1 ⟨rfl, hx⟩; obtain ⟨hxc, hxf, hxb, hxs⟩ := hx.all; (try simp only [World.size_alloc, size_set, size_drew] at hxc hxf hxb hxs); (first | (have h4 := lt4 w.heap.size w1.heap.size (by omega)); (obtain ⟨_, _, _, _⟩ := h4) | (have h4 := lt3 w.heap.size w1.heap.size (by omega)); (obtain ⟨_, _, _⟩ := h4) | (have h4 := lt2 w.heap.size w1.heap.size (by omega)); (obtain ⟨_, _⟩ := h4) | have := lt1 w.heap.size w1.heap.size (by omega) | skip)))
                  all_goals (go_ret; exact Ret.mk' (vbool (by rw [HE.out]; (try rw [HES.out]); (try rw [HEQ.out]); simp)) (Ext.auto))
end Go.Proofs.YtdmgimfgoajmjaaGreatDoor
namespace Go.Proofs.YtdmgimfgoajmjaaGreatDoor
open Go.RowKit
structure ToAt (p : Pos) (s b : Int) (W0 : World) (k : Nat) (v : Value) (wr : World) : Prop where
  le : k ≤ 64
  own : wr.ownsRow W0.heap.size 3 1 v (attackersL p s b k).length (ints (attackersL p s b k))
  x : Ext W0 wr
theorem ToAt.no {p : Pos} {s b : Int} {W0 wr wr' : World} {k : Nat} {v : Value} (h : ToAt p s b W0 k v wr) (hlt : k < 64) (hne : attacksB p s b k = false) (hx : Ext wr wr') : ToAt p s b W0 (k + 1) v wr' := by
  have e : attackersL p s b (k + 1) = attackersL p s b k := by rw [attackersL_succ, hne]; simp
  exact ⟨by omega, by rw [e]; exact own_ext h.own hx, h.x.trans hx⟩
theorem ToAt.yes {p : Pos} {s b : Int} {W0 wr w1 wr' : World} {k : Nat} {v v' : Value} (h : ToAt p s b W0 k v wr) (hlt : k < 64) (he : attacksB p s b k = true) (hx : Ext wr w1)
    (ho : wr'.ownsRow W0.heap.size 3 1 v' ((attackersL p s b k).length + 1) (ints (attackersL p s b k) ++ [.int .i64 (k : Int)])) (hg : w1.grownBy wr' v.ownBlock) : ToAt p s b W0 (k + 1) v' wr' := by
  have e : attackersL p s b (k + 1) = attackersL p s b k ++ [(k : Int)] := by rw [attackersL_succ, if_pos he]
  exact ⟨by omega, by rw [e, ints_append, List.length_append]; exact ho, (h.x.trans hx).grown (own_ext h.own hx) hg⟩
set_option maxRecDepth 100000 in
set_option maxHeartbeats 2000000 in
theorem rTo_any (p : Pos) (s b : Int) (w : World) (s0 : 0 ≤ s) (s1 : s < 64) : Calls Tryz.prog 164 #[.agg (posCells p), .int .i64 s, .int .i64 b] w (RetInts (attackersL p s b 64) w) := by
  go_enter Tryz.func164, Tryz.ntmps164
  go_wp2
  obtain ⟨W0, hW0⟩ : ∃ W0, W0 = w.alloc (.cells (posCells p) 30) := ⟨_, rfl⟩
  have hsz : W0.heap.size = w.heap.size + 1 := by rw [hW0]; simp
  have hbp : blk W0 w.heap.size = some (.cells (posCells p) 30 (0, 0)) := by rw [hW0]; simp [go_sem]
  have hEx : Ext w W0 := by rw [hW0]; exact (Ext.auto)
  rw [← hW0]
  have HW := hid hW0
  have HSZ := hid hsz
  clear hW0 hsz
  go_loopw [7, 8] (fun v i wr => ∃ k : Nat, i = .int .i64 k ∧ ToAt p s b W0 k v wr) (fun _ i _ => 64 - (intOf i).toNat)
  case atStart => exact ⟨0, rfl, by omega, by exact World.ownsRow_nil _ _ _ _, Ext.refl _⟩
  case round =>
    obtain ⟨k, rfl, hk⟩ := hrel
    have hbp1 := (hk.x.blk _ (blk_lt hbp)).trans hbp
    have hs3 : w.heap.size < wr.heap.size := blk_lt hbp1
    have hown := hk.own
    have hxw := hk.x
    have hle := hk.x.le
    have hlen := attackersL_len p s b k
    have HK := hid hk
    clear hk
    by_cases hlt : k < 64
    · have c0 := cell_of_row wr w.heap.size (k * 2) _ _ _ hbp1
      have c1 := cell_of_row wr w.heap.size (k * 2 + 1) _ _ _ hbp1
      have HR := hid (attacksB_r p b s0 s1 hlt)
      cases hE : (p.side k == b)
      · have HN := hid (show attacksB p s b k = false by rw [HR.out, hE]; rfl)
        go_wp2
        go_roundw
        case rel => exact ⟨k + 1, by go_num, HK.out.no hlt HN.out (Ext.auto)⟩
        case measure => simp [intOf]; omega
      · cases hA : rAttB p k s
        · have HN := hid (show attacksB p s b k = false by rw [HR.out, hE, hA]; rfl)
          have HC : ∀ w, Calls Tryz.prog 185 #[.agg (posCells p), .int .i64 k, .int .i64 s] w (Ret (.bool false) w) := fun w => by rw [← hA]; exact rAtt_any p k s w (by omega) (by omega) s0 s1
          clear hA
          go_wp2_with (first | (go_at_call 185; (with_reducible refine (HC _).mono ?_); rintro e w1 ⟨rfl, hx⟩; obtain ⟨hxc, hxf, hxb, hxs⟩ := hx.all; (try simp only [World.size_alloc, size_set, size_drew] at hxc hxf hxb hxs); (first | (have h4 := lt4 W0.heap.size w1.heap.size (by omega)); (obtain ⟨_, _, _, _⟩ := h4) | (have h4 := lt3 W0.heap.size w1.heap.size (by omega)); (obtain ⟨_, _, _⟩ := h4) | (have h4 := lt2 W0.heap.size w1.heap.size (by omega)); (obtain ⟨_, _⟩ := h4) | have := lt1 W0.heap.size w1.heap.size (by omega) | skip); (first | (have h4 := lt4 wr.heap.size w1.heap.size (by omega)); (obtain ⟨_, _, _, _⟩ := h4) | (have h4 := lt3 wr.heap.size w1.heap.size (by omega)); (obtain ⟨_, _, _⟩ := h4) | (have h4 := lt2 wr.heap.size w1.heap.size (by omega)); (obtain ⟨_, _⟩ := h4) | have := lt1 wr.heap.size w1.heap.size (by omega) | skip)))
          go_roundw
          case rel => exact ⟨k + 1, by go_num, HK.out.no hlt HN.out (Ext.auto)⟩
          case measure => simp [intOf]; omega
        · have HN := hid (show attacksB p s b k = true by rw [HR.out, hE, hA]; rfl)
          have HC : ∀ w, Calls Tryz.prog 185 #[.agg (posCells p), .int .i64 k, .int .i64 s] w (Ret (.bool true) w) := fun w => by rw [← hA]; exact rAtt_any p k s w (by omega) (by omega) s0 s1
          clear hA
          go_wp2_with (first | (go_at_call 185; (with_reducible refine (HC _).mono ?_); rintro e w1 ⟨rfl, hx⟩; obtain ⟨hxc, hxf, hxb, hxs⟩ := hx.all; (try simp only [World.size_alloc, size_set, size_drew] at hxc hxf hxb hxs); (first | (have h4 := lt4 W0.heap.size w1.heap.size (by omega)); (obtain ⟨_, _, _, _⟩ := h4) | (have h4 := lt3 W0.heap.size w1.heap.size (by omega)); (obtain ⟨_, _, _⟩ := h4) | (have h4 := lt2 W0.heap.size w1.heap.size (by omega)); (obtain ⟨_, _⟩ := h4) | have := lt1 W0.heap.size w1.heap.size (by omega) | skip); (first | (have h4 := lt4 wr.heap.size w1.heap.size (by omega)); (obtain ⟨_, _, _, _⟩ := h4) | (have h4 := lt3 wr.heap.size w1.heap.size (by omega)); (obtain ⟨_, _, _⟩ := h4) | (have h4 := lt2 wr.heap.size w1.heap.size (by omega)); (obtain ⟨_, _⟩ := h4) | have := lt1 wr.heap.size w1.heap.size (by omega) | skip)) | (at_builtin; refine wpList_append_int rfl _ _ rfl (W0.heap.size) u7 ((attackersL p s b k).length) (ints (attackersL p s b k)) rfl ?c0 _ (.int .i64 (k : Int)) rfl rfl ?c1 ?c2 ?c3 (fun v' w1 hown1 hg1 => ?_)))
          case c0 => exact own_auto
          case c1 => simp [go_sem]
          case c2 => omega
          case c3 => simp; omega
          go_roundw
          case rel => exact ⟨k + 1, by go_num, HK.out.yes hlt HN.out (Ext.auto) hown1 hg1⟩
          case measure => simp [intOf]; omega
    · obtain rfl : k = 64 := by have := HK.out.le; omega
      go_wp2
      go_ret
      exact RetInts.mk' hown rfl rfl (by have := HSZ.out; omega) (hEx.trans hxw)
end Go.Proofs.YtdmgimfgoajmjaaGreatDoor
namespace Go.Proofs.YtdmgimfgoajmjaaGreatDoor
open Go.RowKit
def MSi (p : Pos) (b g o : Nat) (x : Int) (wr W : World) : Prop := Ext wr W ∧ blk W b = some (.cells (posCells p) 30 (0, 0)) ∧ W.cell? ⟨g, o, none⟩ = some (.int .i64 x) ∧ g < wr.heap.size
theorem MSi.ext {p : Pos} {b g o : Nat} {x : Int} {wr W W' : World} (h : MSi p b g o x wr W) (hx : Ext W W') : MSi p b g o x wr W' :=
  ⟨h.1.trans hx, (hx.blk _ (blk_lt h.2.1)).trans h.2.1, by rw [hx.cell _ _ (Nat.lt_of_lt_of_le h.2.2.2 h.1.le)]; exact h.2.2.1, h.2.2.2⟩
structure IsAt (p : Pos) (b : Int) (L : List Int) (W0 : World) (k : Nat) (wr : World) : Prop where
  le : k ≤ L.length
  no : attacked p b (L.take k) = false
  x : Ext W0 wr
theorem attacked_take {p : Pos} {b : Int} {L : List Int} {k : Nat} {x : Int} (h : L[k]? = some x) : attacked p b (L.take (k + 1)) = (attacked p b (L.take k) || !(attackersL p x b 64).isEmpty) := by
  unfold attacked
  rw [List.take_add_one, h, List.any_append]; simp
theorem IsAt.next {p : Pos} {b : Int} {L : List Int} {W0 wr wr' : World} {k : Nat} {x : Int} (h : IsAt p b L W0 k wr) (hl : L[k]? = some x) (he : (attackersL p x b 64).isEmpty = true) (hx : Ext wr wr') : IsAt p b L W0 (k + 1) wr' := by
  refine ⟨(List.getElem?_eq_some_iff.1 hl).1, ?_, h.x.trans hx⟩
  rw [attacked_take hl, h.no, he]; rfl
theorem attacked_yes {p : Pos} {b : Int} {L : List Int} {k : Nat} {x : Int} (hl : L[k]? = some x) (he : (attackersL p x b 64).isEmpty = false) : attacked p b L = true := by
  unfold attacked
  rw [List.any_eq_true]
  exact ⟨x, List.mem_of_getElem? hl, by rw [he]; rfl⟩
set_option maxRecDepth 100000 in
set_option maxHeartbeats 2000000 in
theorem rIs_any (p : Pos) (b : Int) (L : List Int) (v : Value) (w : World) (hS : Sl w 1 v L.length (ints L)) (hn : L.length ≤ 1000000) (hL : ∀ x ∈ L, 0 ≤ x ∧ x < 64) :
    Calls Tryz.prog 115 #[.agg (posCells p), .int .i64 b, v] w (Ret (.bool (attacked p b L)) w) := by
  obtain ⟨a, cap, rfl⟩ := hS.form
  have HS := hid hS
  have HL := hid hL
  clear hS hL
  go_enter Tryz.func115, Tryz.ntmps115
  go_wp2
  obtain ⟨W0, hW0⟩ : ∃ W0, W0 = w.alloc (.cells (posCells p) 30) := ⟨_, rfl⟩
  have hbp : blk W0 w.heap.size = some (.cells (posCells p) 30 (0, 0)) := by rw [hW0]; simp [go_sem]
  have hEx : Ext w W0 := by rw [hW0]; exact (Ext.auto)
  rw [← hW0]
  have HW := hid hW0
  clear hW0
  go_loopw [7] (fun i wr => ∃ k : Nat, i = .int .i64 k ∧ IsAt p b L W0 k wr) (fun i _ => L.length - (intOf i).toNat)
  case atStart => exact ⟨0, rfl, by omega, rfl, Ext.refl _⟩
  case round =>
    obtain ⟨k, rfl, hk⟩ := hrel
    have hxw := hk.x
    by_cases hlt : k < L.length
    · obtain ⟨x, hx⟩ : ∃ x, L[k]? = some x := ⟨_, List.getElem?_eq_getElem hlt⟩
      obtain ⟨x0, x1⟩ := HL.out x (List.mem_of_getElem? hx)
      obtain ⟨g, o, rfl, hg, hcl⟩ := ((HS.out.ext hEx).ext hxw).pos (by omega)
      have d0 := hcl k _ (by unfold ints; rw [List.getElem?_map, hx]; rfl)
      have hMS : MSi p w.heap.size g (o + k) x wr wr := ⟨Ext.refl _, (hxw.blk _ (blk_lt hbp)).trans hbp, d0, hg⟩
      have HX := hid hx
      have HK := hid hk
      clear hx hk hcl d0
      go_wp2
      refine wp_region_held_drew (S := MSi p w.heap.size g (o + k) x wr) (by kernel_rfl) (hMS.ext (Ext.drew (Ext.refl _))) (fun hH => ?_)
      refine hTk (i := 0) (v := ?_) (hy := Or.inl ⟨by rfl, ?_⟩) (h := ?_); rotate_left 1; (intro w0 hS; (try dsimp only at hS); unfold MSi at hS; go_simp; try with_reducible rfl); (try go_frame)
      refine hTk (i := 1) (v := ?_) (hy := Or.inl ⟨by rfl, ?_⟩) (h := ?_); rotate_left 1; (intro w0 hS; (try dsimp only at hS); unfold MSi at hS; go_simp; try with_reducible rfl); (try go_frame)
      refine hTk (i := 2) (v := ?_) (hy := Or.inl ⟨by rfl, ?_⟩) (h := ?_); rotate_left 1; (intro w0 hS; (try dsimp only at hS); unfold MSi at hS; go_simp; try with_reducible rfl); (try go_frame)
      refine hTk (i := 3) (v := ?_) (hy := Or.inl ⟨by rfl, ?_⟩) (h := ?_); rotate_left 1; (intro w0 hS; (try dsimp only at hS); unfold MSi at hS; go_simp; try with_reducible rfl); (try go_frame)
      refine hTk (i := 4) (v := ?_) (hy := Or.inl ⟨by rfl, ?_⟩) (h := ?_); rotate_left 1; (intro w0 hS; (try dsimp only at hS); unfold MSi at hS; go_simp; try with_reducible rfl); (try go_frame)
      refine hTk (i := 5) (v := ?_) (hy := Or.inl ⟨by rfl, ?_⟩) (h := ?_); rotate_left 1; (intro w0 hS; (try dsimp only at hS); unfold MSi at hS; go_simp; try with_reducible rfl); (try go_frame)
      refine wpAnyH_ready (rs := [6]) (by kernel_rfl) (by simp) ?_; refine hCo (h := fun K hK => ?_) (hs := AllReadyH.nil); go_simp
      refine (rTo_any p x b _ x0 x1).mono ?_
      rintro e w8 ⟨v8, rfl, hown8, hx8⟩
      refine hK.out _ _ (hH.ext (by first | assumption | exact Ext.alloc (Ext.refl _) _)) (fun hH => ?_); clear hK; (try go_frame)
      refine hTk (i := 7) (v := ?_) (hy := Or.inl ⟨by rfl, ?_⟩) (h := ?_); rotate_left 1; (intro w0 hS; (try dsimp only at hS); unfold MSi at hS; go_simp; try with_reducible rfl); (try go_frame)
      refine wpAnyH_done (by kernel_rfl) ?_ _
      obtain ⟨a8, cap8, rfl⟩ := (Sl.of_own hown8).form
      have hxr := hH.1
      by_cases he : (attackersL p x b 64).length = 0
      · have he2 : (attackersL p x b 64).isEmpty = true := by rw [List.isEmpty_iff_length_eq_zero]; exact he
        have HN := hid (HK.out.next HX.out he2 hxr)
        rw [he]
        clear hMS hH
        go_wp2
        go_roundw
        case rel => exact ⟨k + 1, by go_num, HN.out⟩
        case measure => simp [intOf]; omega
      · have he2 : (attackersL p x b 64).isEmpty = false := by rw [Bool.eq_false_iff]; intro h; rw [List.isEmpty_iff_length_eq_zero] at h; exact he h
        have HN := hid (attacked_yes HX.out he2)
        have hpos : (0 : Int) < ((attackersL p x b 64).length : Int) := by omega
        clear hMS hH
        go_wp2
        go_ret
        exact Ret.mk' (vbool HN.out.symm) ((hEx.trans hxw).trans hxr)
    · obtain rfl : k = L.length := by have := hk.le; omega
      have HN := hid hk.no
      rw [List.take_length] at HN
      go_wp2
      go_ret
      exact Ret.mk' (vbool HN.out.symm) (hEx.trans hxw)
theorem find_in (p : Pos) (k s : Int) : ∀ x ∈ findL p k s 64, 0 ≤ x ∧ x < 64 := by
  intro x hx
  unfold findL at hx
  obtain ⟨n, hn, rfl⟩ := List.mem_map.1 hx
  rw [List.mem_filter, List.mem_range] at hn
  omega
set_option maxRecDepth 100000 in
set_option maxHeartbeats 2000000 in
theorem rCheck_any (p : Pos) (s : Int) (w : World) : Calls Tryz.prog 111 #[.agg (posCells p), .int .i64 s] w (Ret (.bool (checkB p s)) w) := by
  by_cases hs : s = 0 ∨ s = 1
  · have HE := hid (show checkB p s = attacked p (otherOf s) (findL p 6 s 64) by unfold checkB; rw [if_pos hs])
    have hlen : (findL p 6 s 64).length ≤ 1000000 := Nat.le_trans (findL_len p 6 s 64) (by decide)
    have hin := find_in p 6 s
    rcases hs with rfl | rfl
    · generalize hF : findL p 6 0 64 = F at *
      have hFind := fun w => rFind_any p 6 0 w
      rw [hF] at hFind
      clear hF
      go_enter Tryz.func111, Tryz.ntmps111
      go_wp2
      go_region_held3 (fun w' => blk w' (w.heap.size) = some (.cells (posCells p) 30 (0, 0)) ∧ (∀ o, w'.cell? ⟨w.heap.size, o, none⟩ = (posCells p)[o]?) ∧ Ext w w') (first | exact held_keep (by assumption) (by assumption) | (refine held3 ?_ (Ext.auto); go_simp)) (first | (go_at_call 112; (with_reducible refine (rOther_any _ _).mono ?_); rintro e w1 ⟨rfl, hx⟩) | (go_at_call 162; (with_reducible refine (hFind _).mono ?_); rintro e w1 ⟨v1, rfl, hown1, hx⟩) | (go_at_call 115; (with_reducible refine (rIs_any _ _ F _ _ (Sl.of_own hown1) hlen hin).mono ?_); rintro e w1 ⟨rfl, hx⟩))
      go_wp2
      go_ret
      exact Ret.mk' (by rw [HE.out]; rfl) (Ext.auto)
    · generalize hF : findL p 6 1 64 = F at *
      have hFind := fun w => rFind_any p 6 1 w
      rw [hF] at hFind
      clear hF
      go_enter Tryz.func111, Tryz.ntmps111
      go_wp2
      go_region_held3 (fun w' => blk w' (w.heap.size) = some (.cells (posCells p) 30 (0, 0)) ∧ (∀ o, w'.cell? ⟨w.heap.size, o, none⟩ = (posCells p)[o]?) ∧ Ext w w') (first | exact held_keep (by assumption) (by assumption) | (refine held3 ?_ (Ext.auto); go_simp)) (first | (go_at_call 112; (with_reducible refine (rOther_any _ _).mono ?_); rintro e w1 ⟨rfl, hx⟩) | (go_at_call 162; (with_reducible refine (hFind _).mono ?_); rintro e w1 ⟨v1, rfl, hown1, hx⟩) | (go_at_call 115; (with_reducible refine (rIs_any _ _ F _ _ (Sl.of_own hown1) hlen hin).mono ?_); rintro e w1 ⟨rfl, hx⟩))
      go_wp2
      go_ret
      exact Ret.mk' (by rw [HE.out]; rfl) (Ext.auto)
  · have HE := hid (show checkB p s = false by unfold checkB; rw [if_neg hs])
    have h0 : s ≠ 0 := fun h => hs (.inl h)
    have h1 : s ≠ 1 := fun h => hs (.inr h)
    have e0 : (s != 0) = true := by simp [h0]
    have e1 : (s != 1) = true := by simp [h1]
    clear hs
    go_enter Tryz.func111, Tryz.ntmps111
    go_wp2
    go_ret
    exact Ret.mk' (by rw [HE.out]; rfl) (Ext.auto)
end Go.Proofs.YtdmgimfgoajmjaaGreatDoor
