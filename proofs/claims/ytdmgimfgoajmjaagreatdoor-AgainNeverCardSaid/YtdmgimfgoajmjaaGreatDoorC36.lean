/- How a piece goes, the moves of a piece, all moves, in the document's answer. -/
import Derived.Test.YtdmgimfgoajmjaaGreatDoorC34
import Derived.Test.YtdmgimfgoajmjaaGreatDoorC35
import Derived.Test.YtdmgimfgoajmjaaGreatDoorC14
import Derived.Test.YtdmgimfgoajmjaaGreatDoorC08
import Derived.Test.YtdmgimfgoajmjaaGreatDoorC32
import Derived.Deep.DeepCutAuto
set_option linter.unusedVariables false
set_option linter.unusedSimpArgs false
namespace Go.Proofs.YtdmgimfgoajmjaaGreatDoor
open Go.RowKit
set_option maxRecDepth 100000 in
set_option maxHeartbeats 8000000 in
theorem rGoes_any (p : Pos) (a t : Int) (w : World) (a0 : 0 ≤ a) (a1 : a < 64) (t0 : 0 ≤ t) (t1 : t < 64) : Calls Tryz.prog 163 #[.agg (posCells p), .int .i64 a, .int .i64 t] w (Ret (.bool (rGoesB p a t)) w) := by
  have a2 : a.toNat < 64 := by omega
  have t2 : t.toNat < 64 := by omega
  have HP : ∀ w, Calls Tryz.prog 184 #[.agg (posCells p), .int .i64 a, .int .i64 t] w (Ret (.bool (rPawnB p a t)) w) := fun w => rPawn_any p a t w a0 a1 t0 t1
  have HA : ∀ w, Calls Tryz.prog 185 #[.agg (posCells p), .int .i64 a, .int .i64 t] w (Ret (.bool (rAttB p a t)) w) := fun w => rAtt_any p a t w a0 a1 t0 t1
  cases hm : mayB (p.kind a.toNat) (p.side a.toNat)
  · have HE := hid (show rGoesB p a t = false by unfold rGoesB; rw [if_neg (by rw [hm]; rintro ⟨h, -⟩; cases h)])
    go_enter Tryz.func163, Tryz.ntmps163
    go_wp2_with (first | (go_at_call 165; (with_reducible refine (rMay_any _ _ _).mono ?_); rintro e w1 ⟨rfl, hx⟩; obtain ⟨hxc, hxf, hxb, hxs⟩ := hx.all; (try simp only [World.size_alloc, size_set, size_drew] at hxc hxf hxb hxs); (first | (have h4 := lt4 w.heap.size w1.heap.size (by omega)); (obtain ⟨_, _, _, _⟩ := h4) | (have h4 := lt3 w.heap.size w1.heap.size (by omega)); (obtain ⟨_, _, _⟩ := h4) | (have h4 := lt2 w.heap.size w1.heap.size (by omega)); (obtain ⟨_, _⟩ := h4) | have := lt1 w.heap.size w1.heap.size (by omega) | skip)))
    all_goals (go_ret; exact Ret.mk' (vbool (by rw [HE.out])) (Ext.auto))
  · have hsd : p.side a.toNat = 0 ∨ p.side a.toNat = 1 := by simp [mayB] at hm; exact hm.2.2
    have HC : ∀ w, Calls Tryz.prog 186 #[.agg (posCells p), .int .i64 a, .int .i64 t] w (Ret (.bool (rCastleB p a t)) w) := fun w => rCastle_any p a t w a0 a1 hsd
    clear hsd
    by_cases hs : p.side a.toNat = p.turn
    · by_cases hne : a = t
      · have HE := hid (show rGoesB p a t = false by unfold rGoesB; rw [if_neg (fun h => h.2.2 hne)])
        have e1 : (a == t) = true := by simpa using hne
        have e2 : (p.side a.toNat != p.turn) = false := by simpa using hs
        clear hne hs HP HA HC
        go_enter Tryz.func163, Tryz.ntmps163
        go_wp2_with (first | (go_at_call 165; (with_reducible refine (rMay_any _ _ _).mono ?_); rintro e w1 ⟨rfl, hx⟩; obtain ⟨hxc, hxf, hxb, hxs⟩ := hx.all; (try simp only [World.size_alloc, size_set, size_drew] at hxc hxf hxb hxs); (first | (have h4 := lt4 w.heap.size w1.heap.size (by omega)); (obtain ⟨_, _, _, _⟩ := h4) | (have h4 := lt3 w.heap.size w1.heap.size (by omega)); (obtain ⟨_, _, _⟩ := h4) | (have h4 := lt2 w.heap.size w1.heap.size (by omega)); (obtain ⟨_, _⟩ := h4) | have := lt1 w.heap.size w1.heap.size (by omega) | skip)))
        all_goals (go_ret; exact Ret.mk' (vbool (by rw [HE.out])) (Ext.auto))
      · have HE := hid (show rGoesB p a t = if p.kind a.toNat = 1 then rPawnB p a t else if (rAttB p a t && (bareB p t || p.side t.toNat != p.side a.toNat)) = true then true else p.kind a.toNat == 6 && rCastleB p a t by unfold rGoesB; rw [if_pos ⟨hm, hs, hne⟩])
        have e1 : (a == t) = false := by simpa using hne
        have e2 : (p.side a.toNat != p.turn) = false := by simpa using hs
        clear hne hs
        by_cases hk : p.kind a.toNat = 1
        · have HE := hid (HE.out.trans (if_pos hk))
          have e3 : (p.kind a.toNat == 1) = true := by simpa using hk
          clear hk
          go_enter Tryz.func163, Tryz.ntmps163
          go_wp2_with (first | (go_at_call 165; (with_reducible refine (rMay_any _ _ _).mono ?_); rintro e w1 ⟨rfl, hx⟩; obtain ⟨hxc, hxf, hxb, hxs⟩ := hx.all; (try simp only [World.size_alloc, size_set, size_drew] at hxc hxf hxb hxs); (first | (have h4 := lt4 w.heap.size w1.heap.size (by omega)); (obtain ⟨_, _, _, _⟩ := h4) | (have h4 := lt3 w.heap.size w1.heap.size (by omega)); (obtain ⟨_, _, _⟩ := h4) | (have h4 := lt2 w.heap.size w1.heap.size (by omega)); (obtain ⟨_, _⟩ := h4) | have := lt1 w.heap.size w1.heap.size (by omega) | skip)) | (go_at_call 184; (with_reducible refine (HP _).mono ?_); rintro e w1 ⟨rfl, hx⟩; obtain ⟨hxc, hxf, hxb, hxs⟩ := hx.all; (try simp only [World.size_alloc, size_set, size_drew] at hxc hxf hxb hxs); (first | (have h4 := lt4 w.heap.size w1.heap.size (by omega)); (obtain ⟨_, _, _, _⟩ := h4) | (have h4 := lt3 w.heap.size w1.heap.size (by omega)); (obtain ⟨_, _, _⟩ := h4) | (have h4 := lt2 w.heap.size w1.heap.size (by omega)); (obtain ⟨_, _⟩ := h4) | have := lt1 w.heap.size w1.heap.size (by omega) | skip)))
          all_goals (go_ret; exact Ret.mk' (vbool (by rw [HE.out])) (Ext.auto))
        · have HE := hid (HE.out.trans (if_neg hk))
          have e3 : (p.kind a.toNat == 1) = false := by simpa using hk
          clear hk HP
          have HBA := hid (show bareB p t = (p.kind t.toNat == 0 && p.side t.toNat == 0) from rfl)
          cases h6 : (p.kind a.toNat == 6)
          all_goals
            cases hA : rAttB p a t
            · rw [hA] at HE HA
              clear hA
              go_enter Tryz.func163, Tryz.ntmps163
              go_wp2_with (first | (go_at_call 165; (with_reducible refine (rMay_any _ _ _).mono ?_); rintro e w1 ⟨rfl, hx⟩; obtain ⟨hxc, hxf, hxb, hxs⟩ := hx.all; (try simp only [World.size_alloc, size_set, size_drew] at hxc hxf hxb hxs); (first | (have h4 := lt4 w.heap.size w1.heap.size (by omega)); (obtain ⟨_, _, _, _⟩ := h4) | (have h4 := lt3 w.heap.size w1.heap.size (by omega)); (obtain ⟨_, _, _⟩ := h4) | (have h4 := lt2 w.heap.size w1.heap.size (by omega)); (obtain ⟨_, _⟩ := h4) | have := lt1 w.heap.size w1.heap.size (by omega) | skip)) | (go_at_call 185; (with_reducible refine (HA _).mono ?_); rintro e w1 ⟨rfl, hx⟩; obtain ⟨hxc, hxf, hxb, hxs⟩ := hx.all; (try simp only [World.size_alloc, size_set, size_drew] at hxc hxf hxb hxs); (first | (have h4 := lt4 w.heap.size w1.heap.size (by omega)); (obtain ⟨_, _, _, _⟩ := h4) | (have h4 := lt3 w.heap.size w1.heap.size (by omega)); (obtain ⟨_, _, _⟩ := h4) | (have h4 := lt2 w.heap.size w1.heap.size (by omega)); (obtain ⟨_, _⟩ := h4) | have := lt1 w.heap.size w1.heap.size (by omega) | skip)) | (go_at_call 186; (with_reducible refine (HC _).mono ?_); rintro e w1 ⟨rfl, hx⟩; obtain ⟨hxc, hxf, hxb, hxs⟩ := hx.all; (try simp only [World.size_alloc, size_set, size_drew] at hxc hxf hxb hxs); (first | (have h4 := lt4 w.heap.size w1.heap.size (by omega)); (obtain ⟨_, _, _, _⟩ := h4) | (have h4 := lt3 w.heap.size w1.heap.size (by omega)); (obtain ⟨_, _, _⟩ := h4) | (have h4 := lt2 w.heap.size w1.heap.size (by omega)); (obtain ⟨_, _⟩ := h4) | have := lt1 w.heap.size w1.heap.size (by omega) | skip)))
              all_goals (go_ret; exact Ret.mk' (vbool (by rw [HE.out]; simp [*])) (Ext.auto))
            · rw [hA] at HE HA
              clear hA
              by_cases b1 : p.kind t.toNat = 0 ∧ p.side t.toNat = 0
              · have hb := hid (show bareB p t = true from bare_iff'.2 b1)
                obtain ⟨b1, b2⟩ := b1
                rw [hb.out] at HE
                go_enter Tryz.func163, Tryz.ntmps163
                go_wp2_with (first | (go_at_call 165; (with_reducible refine (rMay_any _ _ _).mono ?_); rintro e w1 ⟨rfl, hx⟩; obtain ⟨hxc, hxf, hxb, hxs⟩ := hx.all; (try simp only [World.size_alloc, size_set, size_drew] at hxc hxf hxb hxs); (first | (have h4 := lt4 w.heap.size w1.heap.size (by omega)); (obtain ⟨_, _, _, _⟩ := h4) | (have h4 := lt3 w.heap.size w1.heap.size (by omega)); (obtain ⟨_, _, _⟩ := h4) | (have h4 := lt2 w.heap.size w1.heap.size (by omega)); (obtain ⟨_, _⟩ := h4) | have := lt1 w.heap.size w1.heap.size (by omega) | skip)) | (go_at_call 185; (with_reducible refine (HA _).mono ?_); rintro e w1 ⟨rfl, hx⟩; obtain ⟨hxc, hxf, hxb, hxs⟩ := hx.all; (try simp only [World.size_alloc, size_set, size_drew] at hxc hxf hxb hxs); (first | (have h4 := lt4 w.heap.size w1.heap.size (by omega)); (obtain ⟨_, _, _, _⟩ := h4) | (have h4 := lt3 w.heap.size w1.heap.size (by omega)); (obtain ⟨_, _, _⟩ := h4) | (have h4 := lt2 w.heap.size w1.heap.size (by omega)); (obtain ⟨_, _⟩ := h4) | have := lt1 w.heap.size w1.heap.size (by omega) | skip)) | (go_at_call 186; (with_reducible refine (HC _).mono ?_); rintro e w1 ⟨rfl, hx⟩; obtain ⟨hxc, hxf, hxb, hxs⟩ := hx.all; (try simp only [World.size_alloc, size_set, size_drew] at hxc hxf hxb hxs); (first | (have h4 := lt4 w.heap.size w1.heap.size (by omega)); (obtain ⟨_, _, _, _⟩ := h4) | (have h4 := lt3 w.heap.size w1.heap.size (by omega)); (obtain ⟨_, _, _⟩ := h4) | (have h4 := lt2 w.heap.size w1.heap.size (by omega)); (obtain ⟨_, _⟩ := h4) | have := lt1 w.heap.size w1.heap.size (by omega) | skip)))
                all_goals (go_ret; exact Ret.mk' (vbool (by rw [HE.out]; rfl)) (Ext.auto))
              · have hb := hid (show bareB p t = false by rw [Bool.eq_false_iff]; exact fun h => b1 (bare_iff'.1 h))
                rw [hb.out] at HE
                have b3 : (p.kind t.toNat == 0) = false ∨ ((p.kind t.toNat == 0) = true ∧ (p.side t.toNat == 0) = false) := by
                  by_cases h : p.kind t.toNat = 0
                  · exact .inr ⟨by simpa using h, by simp; omega⟩
                  · exact .inl (by simpa using h)
                clear b1
                cases es : (p.side t.toNat != p.side a.toNat)
                all_goals
                  rw [es] at HE
                  rcases b3 with b3 | ⟨b3, b4⟩
                  all_goals
                    go_enter Tryz.func163, Tryz.ntmps163
                    go_wp2_with (first | (go_at_call 165; (with_reducible refine (rMay_any _ _ _).mono ?_); rintro e w1 ⟨rfl, hx⟩; obtain ⟨hxc, hxf, hxb, hxs⟩ := hx.all; (try simp only [World.size_alloc, size_set, size_drew] at hxc hxf hxb hxs); (first | (have h4 := lt4 w.heap.size w1.heap.size (by omega)); (obtain ⟨_, _, _, _⟩ := h4) | (have h4 := lt3 w.heap.size w1.heap.size (by omega)); (obtain ⟨_, _, _⟩ := h4) | (have h4 := lt2 w.heap.size w1.heap.size (by omega)); (obtain ⟨_, _⟩ := h4) | have := lt1 w.heap.size w1.heap.size (by omega) | skip)) | (go_at_call 185; (with_reducible refine (HA _).mono ?_); rintro e w1 ⟨rfl, hx⟩; obtain ⟨hxc, hxf, hxb, hxs⟩ := hx.all; (try simp only [World.size_alloc, size_set, size_drew] at hxc hxf hxb hxs); (first | (have h4 := lt4 w.heap.size w1.heap.size (by omega)); (obtain ⟨_, _, _, _⟩ := h4) | (have h4 := lt3 w.heap.size w1.heap.size (by omega)); (obtain ⟨_, _, _⟩ := h4) | (have h4 := lt2 w.heap.size w1.heap.size (by omega)); (obtain ⟨_, _⟩ := h4) | have := lt1 w.heap.size w1.heap.size (by omega) | skip)) | (go_at_call 186; (with_reducible refine (HC _).mono ?_); rintro e w1 ⟨rfl, hx⟩; obtain ⟨hxc, hxf, hxb, hxs⟩ := hx.all; (try simp only [World.size_alloc, size_set, size_drew] at hxc hxf hxb hxs); (first | (have h4 := lt4 w.heap.size w1.heap.size (by omega)); (obtain ⟨_, _, _, _⟩ := h4) | (have h4 := lt3 w.heap.size w1.heap.size (by omega)); (obtain ⟨_, _, _⟩ := h4) | (have h4 := lt2 w.heap.size w1.heap.size (by omega)); (obtain ⟨_, _⟩ := h4) | have := lt1 w.heap.size w1.heap.size (by omega) | skip)))
                    all_goals (go_ret; exact Ret.mk' (vbool (by rw [HE.out]; (try simp [*]))) (Ext.auto))
    · have HE := hid (show rGoesB p a t = false by unfold rGoesB; rw [if_neg (fun h => hs h.2.1)])
      have e2 : (p.side a.toNat != p.turn) = true := by simpa using hs
      clear hs
      go_enter Tryz.func163, Tryz.ntmps163
      go_wp2_with (first | (go_at_call 165; (with_reducible refine (rMay_any _ _ _).mono ?_); rintro e w1 ⟨rfl, hx⟩; obtain ⟨hxc, hxf, hxb, hxs⟩ := hx.all; (try simp only [World.size_alloc, size_set, size_drew] at hxc hxf hxb hxs); (first | (have h4 := lt4 w.heap.size w1.heap.size (by omega)); (obtain ⟨_, _, _, _⟩ := h4) | (have h4 := lt3 w.heap.size w1.heap.size (by omega)); (obtain ⟨_, _, _⟩ := h4) | (have h4 := lt2 w.heap.size w1.heap.size (by omega)); (obtain ⟨_, _⟩ := h4) | have := lt1 w.heap.size w1.heap.size (by omega) | skip)))
      all_goals (go_ret; exact Ret.mk' (vbool (by rw [HE.out])) (Ext.auto))
end Go.Proofs.YtdmgimfgoajmjaaGreatDoor
namespace Go.Proofs.YtdmgimfgoajmjaaGreatDoor
open Go.RowKit
theorem cell_at {p : Pos} {W : World} {b : Nat} {t : TypeId} (h : blk W b = some (.cells (posCells p) t (0, 0))) (s : Int) (h0 : 0 ≤ s) (h1 : s < 64) : W.cell? ⟨b, s.toNat * 2, none⟩ = some (.int .i64 (p.kind s.toNat)) ∧ W.cell? ⟨b, s.toNat * 2 + 1, none⟩ = some (.int .i64 (p.side s.toNat)) := by
  rw [blk_cell h, blk_cell h]; exact ⟨posCells_kind p _ (by omega), posCells_side p _ (by omega)⟩
theorem overB_at {p : Pos} (h0 : 0 ≤ p.over) (h1 : p.over < 64) (ht : p.turn = 0 ∨ p.turn = 1) (hh : p.half = 0) : overB p = (p.over / 8 == overRank p && (p.kind p.over.toNat == 0 && p.side p.over.toNat == 0) && (p.kind (p.over + 8 * overOn p).toNat == 0 && p.side (p.over + 8 * overOn p).toNat == 0) && (p.kind (p.over - 8 * overOn p).toNat == 1 && p.side (p.over - 8 * overOn p).toNat == otherOf p.turn)) := by
  have e0 : decide (p.over = -1) = false := by simp; omega
  have e1 : rankOf p.over = p.over / 8 := if_pos ⟨h0, h1⟩
  unfold overB standsB
  rw [e0, e1, hh]
  simp only [Bool.false_or, decide_true, Bool.and_true]
  by_cases hr : p.over / 8 = overRank p
  · have e2 : stepOf p.over 0 (overOn p) = p.over + 8 * overOn p := by
      apply step_up h0 h1 <;> (unfold overOn overRank at *; rcases ht with e | e <;> rw [e] at hr ⊢ <;> simp at hr ⊢ <;> omega)
    have e3 : stepOf p.over 0 (-overOn p) = p.over - 8 * overOn p := by
      rw [show p.over - 8 * overOn p = p.over + 8 * (-overOn p) by omega]
      apply step_up h0 h1 <;> (unfold overOn overRank at *; rcases ht with e | e <;> rw [e] at hr ⊢ <;> simp at hr ⊢ <;> omega)
    rw [e2, e3]
    simp [hr]
  · have e4 : (p.over / 8 == overRank p) = false := by simpa using hr
    rw [e4]; simp [hr]
set_option maxRecDepth 100000 in
set_option maxHeartbeats 16000000 in
theorem rOver_any (p : Pos) (w : World) (ht : p.turn = 0 ∨ p.turn = 1) : Calls Tryz.prog 161 #[.agg (posCells p)] w (Ret (.bool (overB p)) w) := by
  have HN : ∀ k s w, Calls Tryz.prog 182 #[.agg #[.int .i64 k, .int .i64 s]] w (Ret (.bool (k == 0 && s == 0)) w) := fun k s w => rNone_any k s w
  by_cases o1 : p.over = -1
  · have HE := hid (show overB p = true by simp [overB, o1])
    go_enter Tryz.func161, Tryz.ntmps161
    go_wp2
    all_goals (go_ret; exact Ret.mk' (vbool (by rw [HE.out])) (Ext.auto))
  have n1 : (p.over == -1) = false := by simpa using o1
  by_cases o2 : p.over < 0
  · have HE := hid (show overB p = false by unfold overB; rw [show rankOf p.over = -1 from if_neg (by omega)]; unfold overRank; simp [o1]; intro h; split at h <;> omega)
    clear o1
    go_enter Tryz.func161, Tryz.ntmps161
    go_wp2
    all_goals (go_ret; exact Ret.mk' (vbool (by rw [HE.out])) (Ext.auto))
  by_cases o3 : 63 < p.over
  · have HE := hid (show overB p = false by unfold overB; rw [show rankOf p.over = -1 from if_neg (by omega)]; unfold overRank; simp [o1]; intro h; split at h <;> omega)
    clear o1
    go_enter Tryz.func161, Tryz.ntmps161
    go_wp2
    all_goals (go_ret; exact Ret.mk' (vbool (by rw [HE.out])) (Ext.auto))
  by_cases o4 : p.half = 0
  · have h0 : 0 ≤ p.over := by omega
    have h1 : p.over < 64 := by omega
    have HE := hid (overB_at h0 h1 ht o4)
    have q8 : p.over.tdiv 8 = p.over / 8 := Int.tdiv_eq_ediv_of_nonneg h0
    have e4 : (p.half != 0) = false := by simpa using o4
    have x0 : p.over.toNat < 64 := by omega
    clear o1 o4
    rcases ht with et | et
    · have et2 : (p.turn == 1) = false := by simp [et]
      have HE := hid (HE.out.trans (show _ = (p.over / 8 == 5 && (p.kind p.over.toNat == 0 && p.side p.over.toNat == 0) && (p.kind (p.over + 8).toNat == 0 && p.side (p.over + 8).toNat == 0) && (p.kind (p.over - 8).toNat == 1 && p.side (p.over - 8).toNat == 1)) by unfold overOn overRank otherOf; simp [et]))
      clear et
      cases c1 : (p.over / 8 == 5)
      · rw [c1] at HE
        go_enter Tryz.func161, Tryz.ntmps161
        go_upto_region 8 with (fail)
        obtain ⟨W1, hW1⟩ : ∃ W1, W1 = (w.alloc (.cells (posCells p) 30)).alloc (.cells #[.int .i64 1, .int .i64 1] 26) := ⟨_, rfl⟩
        have hb1 : blk W1 w.heap.size = some (.cells (posCells p) 30 (0, 0)) := by rw [hW1]; simp [go_sem]
        have hb2 : blk W1 (w.heap.size + 1) = some (.cells #[.int .i64 1, .int .i64 1] 26 (0, 0)) := by rw [hW1]; simp [go_sem]
        have hE1 : Ext w W1 := by rw [hW1]; exact (Ext.auto)
        rw [← hW1]
        clear hW1
        obtain ⟨z0, z1⟩ := cell_at hb1 p.over h0 h1
        have z6 := blk_cell hb1 130
        have z7 := blk_cell hb2 0
        have z8 := blk_cell hb2 1
        have l1 := blk_lt hb1
        have l2 := blk_lt hb2
        simp only [go_sem, List.getElem?_toArray, List.getElem?_cons_zero, List.getElem?_cons_succ] at z6 z7 z8
        refine wp_quiet (by kernel_rfl) (by kernel_rfl) ?_; (repeat (first | go_big_quiet_step ((first | (go_at_call 182; with_reducible exact Calls.reg (HN _ _ _)))) | quiet_step ((first | (go_at_call 182; with_reducible exact Calls.reg (HN _ _ _)))))); refine wpQuiet_nil ?_; intro w1 hx; obtain ⟨hxc, hxf, hxb, hxs⟩ := hx.all; (try simp only [World.size_alloc, size_set, size_drew] at hxc hxf hxb hxs); (first | (have h4 := lt4 w.heap.size w1.heap.size (by omega)); (obtain ⟨_, _, _, _⟩ := h4) | (have h4 := lt3 w.heap.size w1.heap.size (by omega)); (obtain ⟨_, _, _⟩ := h4) | (have h4 := lt2 w.heap.size w1.heap.size (by omega)); (obtain ⟨_, _⟩ := h4) | have := lt1 w.heap.size w1.heap.size (by omega) | skip)
        go_wp2
        all_goals (go_ret; exact Ret.mk' (vbool (by rw [HE.out]; (try simp_all))) (hE1.trans hx))
      · have c1' : p.over / 8 = 5 := by simpa using c1
        have y0 : 0 ≤ p.over + 8 := by omega
        have y1 : p.over + 8 < 64 := by omega
        have y2 : 0 ≤ p.over - 8 := by omega
        have y3 : p.over - 8 < 64 := by omega
        clear c1'
        cases c2 : (p.kind p.over.toNat == 0 && p.side p.over.toNat == 0)
        · rw [c1, c2] at HE
          go_enter Tryz.func161, Tryz.ntmps161
          go_upto_region 8 with (fail)
          obtain ⟨W1, hW1⟩ : ∃ W1, W1 = (w.alloc (.cells (posCells p) 30)).alloc (.cells #[.int .i64 1, .int .i64 1] 26) := ⟨_, rfl⟩
          have hb1 : blk W1 w.heap.size = some (.cells (posCells p) 30 (0, 0)) := by rw [hW1]; simp [go_sem]
          have hb2 : blk W1 (w.heap.size + 1) = some (.cells #[.int .i64 1, .int .i64 1] 26 (0, 0)) := by rw [hW1]; simp [go_sem]
          have hE1 : Ext w W1 := by rw [hW1]; exact (Ext.auto)
          rw [← hW1]
          clear hW1
          obtain ⟨z0, z1⟩ := cell_at hb1 p.over h0 h1
          obtain ⟨z2, z3⟩ := cell_at hb1 (p.over + 8) y0 y1
          obtain ⟨z4, z5⟩ := cell_at hb1 (p.over - 8) y2 y3
          have z6 := blk_cell hb1 130
          have z7 := blk_cell hb2 0
          have z8 := blk_cell hb2 1
          have l1 := blk_lt hb1
          have l2 := blk_lt hb2
          simp only [go_sem, List.getElem?_toArray, List.getElem?_cons_zero, List.getElem?_cons_succ] at z6 z7 z8
          refine wp_quiet (by kernel_rfl) (by kernel_rfl) ?_; (repeat (first | go_big_quiet_step ((first | (go_at_call 182; with_reducible exact Calls.reg (HN _ _ _)))) | quiet_step ((first | (go_at_call 182; with_reducible exact Calls.reg (HN _ _ _)))))); refine wpQuiet_nil ?_; intro w1 hx; obtain ⟨hxc, hxf, hxb, hxs⟩ := hx.all; (try simp only [World.size_alloc, size_set, size_drew] at hxc hxf hxb hxs); (first | (have h4 := lt4 w.heap.size w1.heap.size (by omega)); (obtain ⟨_, _, _, _⟩ := h4) | (have h4 := lt3 w.heap.size w1.heap.size (by omega)); (obtain ⟨_, _, _⟩ := h4) | (have h4 := lt2 w.heap.size w1.heap.size (by omega)); (obtain ⟨_, _⟩ := h4) | have := lt1 w.heap.size w1.heap.size (by omega) | skip)
          go_wp2
          all_goals (go_ret; exact Ret.mk' (vbool (by rw [HE.out]; (try simp_all))) (hE1.trans hx))
        · cases c3 : (p.kind (p.over + 8).toNat == 0 && p.side (p.over + 8).toNat == 0)
          · rw [c1, c2, c3] at HE
            go_enter Tryz.func161, Tryz.ntmps161
            go_upto_region 8 with (fail)
            obtain ⟨W1, hW1⟩ : ∃ W1, W1 = (w.alloc (.cells (posCells p) 30)).alloc (.cells #[.int .i64 1, .int .i64 1] 26) := ⟨_, rfl⟩
            have hb1 : blk W1 w.heap.size = some (.cells (posCells p) 30 (0, 0)) := by rw [hW1]; simp [go_sem]
            have hb2 : blk W1 (w.heap.size + 1) = some (.cells #[.int .i64 1, .int .i64 1] 26 (0, 0)) := by rw [hW1]; simp [go_sem]
            have hE1 : Ext w W1 := by rw [hW1]; exact (Ext.auto)
            rw [← hW1]
            clear hW1
            obtain ⟨z0, z1⟩ := cell_at hb1 p.over h0 h1
            obtain ⟨z2, z3⟩ := cell_at hb1 (p.over + 8) y0 y1
            obtain ⟨z4, z5⟩ := cell_at hb1 (p.over - 8) y2 y3
            have z6 := blk_cell hb1 130
            have z7 := blk_cell hb2 0
            have z8 := blk_cell hb2 1
            have l1 := blk_lt hb1
            have l2 := blk_lt hb2
            simp only [go_sem, List.getElem?_toArray, List.getElem?_cons_zero, List.getElem?_cons_succ] at z6 z7 z8
            refine wp_quiet (by kernel_rfl) (by kernel_rfl) ?_; (repeat (first | go_big_quiet_step ((first | (go_at_call 182; with_reducible exact Calls.reg (HN _ _ _)))) | quiet_step ((first | (go_at_call 182; with_reducible exact Calls.reg (HN _ _ _)))))); refine wpQuiet_nil ?_; intro w1 hx; obtain ⟨hxc, hxf, hxb, hxs⟩ := hx.all; (try simp only [World.size_alloc, size_set, size_drew] at hxc hxf hxb hxs); (first | (have h4 := lt4 w.heap.size w1.heap.size (by omega)); (obtain ⟨_, _, _, _⟩ := h4) | (have h4 := lt3 w.heap.size w1.heap.size (by omega)); (obtain ⟨_, _, _⟩ := h4) | (have h4 := lt2 w.heap.size w1.heap.size (by omega)); (obtain ⟨_, _⟩ := h4) | have := lt1 w.heap.size w1.heap.size (by omega) | skip)
            go_wp2
            all_goals (go_ret; exact Ret.mk' (vbool (by rw [HE.out]; (try simp_all))) (hE1.trans hx))
          · rw [c1, c2, c3] at HE
            go_enter Tryz.func161, Tryz.ntmps161
            go_upto_region 8 with (fail)
            obtain ⟨W1, hW1⟩ : ∃ W1, W1 = (w.alloc (.cells (posCells p) 30)).alloc (.cells #[.int .i64 1, .int .i64 1] 26) := ⟨_, rfl⟩
            have hb1 : blk W1 w.heap.size = some (.cells (posCells p) 30 (0, 0)) := by rw [hW1]; simp [go_sem]
            have hb2 : blk W1 (w.heap.size + 1) = some (.cells #[.int .i64 1, .int .i64 1] 26 (0, 0)) := by rw [hW1]; simp [go_sem]
            have hE1 : Ext w W1 := by rw [hW1]; exact (Ext.auto)
            rw [← hW1]
            clear hW1
            obtain ⟨z0, z1⟩ := cell_at hb1 p.over h0 h1
            obtain ⟨z2, z3⟩ := cell_at hb1 (p.over + 8) y0 y1
            obtain ⟨z4, z5⟩ := cell_at hb1 (p.over - 8) y2 y3
            have z6 := blk_cell hb1 130
            have z7 := blk_cell hb2 0
            have z8 := blk_cell hb2 1
            have l1 := blk_lt hb1
            have l2 := blk_lt hb2
            simp only [go_sem, List.getElem?_toArray, List.getElem?_cons_zero, List.getElem?_cons_succ] at z6 z7 z8
            refine wp_quiet (by kernel_rfl) (by kernel_rfl) ?_; (repeat (first | go_big_quiet_step ((first | (go_at_call 182; with_reducible exact Calls.reg (HN _ _ _)))) | quiet_step ((first | (go_at_call 182; with_reducible exact Calls.reg (HN _ _ _)))))); refine wpQuiet_nil ?_; intro w1 hx; obtain ⟨hxc, hxf, hxb, hxs⟩ := hx.all; (try simp only [World.size_alloc, size_set, size_drew] at hxc hxf hxb hxs); (first | (have h4 := lt4 w.heap.size w1.heap.size (by omega)); (obtain ⟨_, _, _, _⟩ := h4) | (have h4 := lt3 w.heap.size w1.heap.size (by omega)); (obtain ⟨_, _, _⟩ := h4) | (have h4 := lt2 w.heap.size w1.heap.size (by omega)); (obtain ⟨_, _⟩ := h4) | have := lt1 w.heap.size w1.heap.size (by omega) | skip)
            go_wp2
            all_goals (go_ret; exact Ret.mk' (vbool (by rw [HE.out]; (try simp_all))) (hE1.trans hx))
    · have et2 : (p.turn == 1) = true := by simp [et]
      have HE := hid (HE.out.trans (show _ = (p.over / 8 == 2 && (p.kind p.over.toNat == 0 && p.side p.over.toNat == 0) && (p.kind (p.over + -8).toNat == 0 && p.side (p.over + -8).toNat == 0) && (p.kind (p.over - -8).toNat == 1 && p.side (p.over - -8).toNat == 0)) by unfold overOn overRank otherOf; simp [et]))
      rw [show p.over - -8 = p.over + 8 by omega] at HE
      clear et
      cases c1 : (p.over / 8 == 2)
      · rw [c1] at HE
        go_enter Tryz.func161, Tryz.ntmps161
        go_upto_region 8 with (fail)
        obtain ⟨W1, hW1⟩ : ∃ W1, W1 = (w.alloc (.cells (posCells p) 30)).alloc (.cells #[.int .i64 1, .int .i64 0] 26) := ⟨_, rfl⟩
        have hb1 : blk W1 w.heap.size = some (.cells (posCells p) 30 (0, 0)) := by rw [hW1]; simp [go_sem]
        have hb2 : blk W1 (w.heap.size + 1) = some (.cells #[.int .i64 1, .int .i64 0] 26 (0, 0)) := by rw [hW1]; simp [go_sem]
        have hE1 : Ext w W1 := by rw [hW1]; exact (Ext.auto)
        rw [← hW1]
        clear hW1
        obtain ⟨z0, z1⟩ := cell_at hb1 p.over h0 h1
        have z6 := blk_cell hb1 130
        have z7 := blk_cell hb2 0
        have z8 := blk_cell hb2 1
        have l1 := blk_lt hb1
        have l2 := blk_lt hb2
        simp only [go_sem, List.getElem?_toArray, List.getElem?_cons_zero, List.getElem?_cons_succ] at z6 z7 z8
        refine wp_quiet (by kernel_rfl) (by kernel_rfl) ?_; (repeat (first | go_big_quiet_step ((first | (go_at_call 182; with_reducible exact Calls.reg (HN _ _ _)))) | quiet_step ((first | (go_at_call 182; with_reducible exact Calls.reg (HN _ _ _)))))); refine wpQuiet_nil ?_; intro w1 hx; obtain ⟨hxc, hxf, hxb, hxs⟩ := hx.all; (try simp only [World.size_alloc, size_set, size_drew] at hxc hxf hxb hxs); (first | (have h4 := lt4 w.heap.size w1.heap.size (by omega)); (obtain ⟨_, _, _, _⟩ := h4) | (have h4 := lt3 w.heap.size w1.heap.size (by omega)); (obtain ⟨_, _, _⟩ := h4) | (have h4 := lt2 w.heap.size w1.heap.size (by omega)); (obtain ⟨_, _⟩ := h4) | have := lt1 w.heap.size w1.heap.size (by omega) | skip)
        go_wp2
        all_goals (go_ret; exact Ret.mk' (vbool (by rw [HE.out]; (try simp_all))) (hE1.trans hx))
      · have c1' : p.over / 8 = 2 := by simpa using c1
        have y0 : 0 ≤ p.over + -8 := by omega
        have y1 : p.over + -8 < 64 := by omega
        have y2 : 0 ≤ p.over - -8 := by omega
        have y3 : p.over - -8 < 64 := by omega
        clear c1'
        cases c2 : (p.kind p.over.toNat == 0 && p.side p.over.toNat == 0)
        · rw [c1, c2] at HE
          go_enter Tryz.func161, Tryz.ntmps161
          go_upto_region 8 with (fail)
          obtain ⟨W1, hW1⟩ : ∃ W1, W1 = (w.alloc (.cells (posCells p) 30)).alloc (.cells #[.int .i64 1, .int .i64 0] 26) := ⟨_, rfl⟩
          have hb1 : blk W1 w.heap.size = some (.cells (posCells p) 30 (0, 0)) := by rw [hW1]; simp [go_sem]
          have hb2 : blk W1 (w.heap.size + 1) = some (.cells #[.int .i64 1, .int .i64 0] 26 (0, 0)) := by rw [hW1]; simp [go_sem]
          have hE1 : Ext w W1 := by rw [hW1]; exact (Ext.auto)
          rw [← hW1]
          clear hW1
          obtain ⟨z0, z1⟩ := cell_at hb1 p.over h0 h1
          obtain ⟨z2, z3⟩ := cell_at hb1 (p.over + -8) y0 y1
          obtain ⟨z4, z5⟩ := cell_at hb1 (p.over - -8) y2 y3
          simp only [Int.sub_neg] at z4 z5
          have z6 := blk_cell hb1 130
          have z7 := blk_cell hb2 0
          have z8 := blk_cell hb2 1
          have l1 := blk_lt hb1
          have l2 := blk_lt hb2
          simp only [go_sem, List.getElem?_toArray, List.getElem?_cons_zero, List.getElem?_cons_succ] at z6 z7 z8
          refine wp_quiet (by kernel_rfl) (by kernel_rfl) ?_; (repeat (first | go_big_quiet_step ((first | (go_at_call 182; with_reducible exact Calls.reg (HN _ _ _)))) | quiet_step ((first | (go_at_call 182; with_reducible exact Calls.reg (HN _ _ _)))))); refine wpQuiet_nil ?_; intro w1 hx; obtain ⟨hxc, hxf, hxb, hxs⟩ := hx.all; (try simp only [World.size_alloc, size_set, size_drew] at hxc hxf hxb hxs); (first | (have h4 := lt4 w.heap.size w1.heap.size (by omega)); (obtain ⟨_, _, _, _⟩ := h4) | (have h4 := lt3 w.heap.size w1.heap.size (by omega)); (obtain ⟨_, _, _⟩ := h4) | (have h4 := lt2 w.heap.size w1.heap.size (by omega)); (obtain ⟨_, _⟩ := h4) | have := lt1 w.heap.size w1.heap.size (by omega) | skip)
          go_wp2
          all_goals (go_ret; exact Ret.mk' (vbool (by rw [HE.out]; (try simp_all))) (hE1.trans hx))
        · cases c3 : (p.kind (p.over + -8).toNat == 0 && p.side (p.over + -8).toNat == 0)
          · rw [c1, c2, c3] at HE
            go_enter Tryz.func161, Tryz.ntmps161
            go_upto_region 8 with (fail)
            obtain ⟨W1, hW1⟩ : ∃ W1, W1 = (w.alloc (.cells (posCells p) 30)).alloc (.cells #[.int .i64 1, .int .i64 0] 26) := ⟨_, rfl⟩
            have hb1 : blk W1 w.heap.size = some (.cells (posCells p) 30 (0, 0)) := by rw [hW1]; simp [go_sem]
            have hb2 : blk W1 (w.heap.size + 1) = some (.cells #[.int .i64 1, .int .i64 0] 26 (0, 0)) := by rw [hW1]; simp [go_sem]
            have hE1 : Ext w W1 := by rw [hW1]; exact (Ext.auto)
            rw [← hW1]
            clear hW1
            obtain ⟨z0, z1⟩ := cell_at hb1 p.over h0 h1
            obtain ⟨z2, z3⟩ := cell_at hb1 (p.over + -8) y0 y1
            obtain ⟨z4, z5⟩ := cell_at hb1 (p.over - -8) y2 y3
            simp only [Int.sub_neg] at z4 z5
            have z6 := blk_cell hb1 130
            have z7 := blk_cell hb2 0
            have z8 := blk_cell hb2 1
            have l1 := blk_lt hb1
            have l2 := blk_lt hb2
            simp only [go_sem, List.getElem?_toArray, List.getElem?_cons_zero, List.getElem?_cons_succ] at z6 z7 z8
            refine wp_quiet (by kernel_rfl) (by kernel_rfl) ?_; (repeat (first | go_big_quiet_step ((first | (go_at_call 182; with_reducible exact Calls.reg (HN _ _ _)))) | quiet_step ((first | (go_at_call 182; with_reducible exact Calls.reg (HN _ _ _)))))); refine wpQuiet_nil ?_; intro w1 hx; obtain ⟨hxc, hxf, hxb, hxs⟩ := hx.all; (try simp only [World.size_alloc, size_set, size_drew] at hxc hxf hxb hxs); (first | (have h4 := lt4 w.heap.size w1.heap.size (by omega)); (obtain ⟨_, _, _, _⟩ := h4) | (have h4 := lt3 w.heap.size w1.heap.size (by omega)); (obtain ⟨_, _, _⟩ := h4) | (have h4 := lt2 w.heap.size w1.heap.size (by omega)); (obtain ⟨_, _⟩ := h4) | have := lt1 w.heap.size w1.heap.size (by omega) | skip)
            go_wp2
            all_goals (go_ret; exact Ret.mk' (vbool (by rw [HE.out]; (try simp_all))) (hE1.trans hx))
          · rw [c1, c2, c3] at HE
            go_enter Tryz.func161, Tryz.ntmps161
            go_upto_region 8 with (fail)
            obtain ⟨W1, hW1⟩ : ∃ W1, W1 = (w.alloc (.cells (posCells p) 30)).alloc (.cells #[.int .i64 1, .int .i64 0] 26) := ⟨_, rfl⟩
            have hb1 : blk W1 w.heap.size = some (.cells (posCells p) 30 (0, 0)) := by rw [hW1]; simp [go_sem]
            have hb2 : blk W1 (w.heap.size + 1) = some (.cells #[.int .i64 1, .int .i64 0] 26 (0, 0)) := by rw [hW1]; simp [go_sem]
            have hE1 : Ext w W1 := by rw [hW1]; exact (Ext.auto)
            rw [← hW1]
            clear hW1
            obtain ⟨z0, z1⟩ := cell_at hb1 p.over h0 h1
            obtain ⟨z2, z3⟩ := cell_at hb1 (p.over + -8) y0 y1
            obtain ⟨z4, z5⟩ := cell_at hb1 (p.over - -8) y2 y3
            simp only [Int.sub_neg] at z4 z5
            have z6 := blk_cell hb1 130
            have z7 := blk_cell hb2 0
            have z8 := blk_cell hb2 1
            have l1 := blk_lt hb1
            have l2 := blk_lt hb2
            simp only [go_sem, List.getElem?_toArray, List.getElem?_cons_zero, List.getElem?_cons_succ] at z6 z7 z8
            refine wp_quiet (by kernel_rfl) (by kernel_rfl) ?_; (repeat (first | go_big_quiet_step ((first | (go_at_call 182; with_reducible exact Calls.reg (HN _ _ _)))) | quiet_step ((first | (go_at_call 182; with_reducible exact Calls.reg (HN _ _ _)))))); refine wpQuiet_nil ?_; intro w1 hx; obtain ⟨hxc, hxf, hxb, hxs⟩ := hx.all; (try simp only [World.size_alloc, size_set, size_drew] at hxc hxf hxb hxs); (first | (have h4 := lt4 w.heap.size w1.heap.size (by omega)); (obtain ⟨_, _, _, _⟩ := h4) | (have h4 := lt3 w.heap.size w1.heap.size (by omega)); (obtain ⟨_, _, _⟩ := h4) | (have h4 := lt2 w.heap.size w1.heap.size (by omega)); (obtain ⟨_, _⟩ := h4) | have := lt1 w.heap.size w1.heap.size (by omega) | skip)
            go_wp2
            all_goals (go_ret; exact Ret.mk' (vbool (by rw [HE.out]; (try simp_all))) (hE1.trans hx))
  · have HE := hid (show overB p = false by unfold overB; simp [o1, o4])
    have e4 : (p.half != 0) = true := by simpa using o4
    clear o1 o4
    go_enter Tryz.func161, Tryz.ntmps161
    go_wp2
    all_goals (go_ret; exact Ret.mk' (vbool (by rw [HE.out])) (Ext.auto))
end Go.Proofs.YtdmgimfgoajmjaaGreatDoor
