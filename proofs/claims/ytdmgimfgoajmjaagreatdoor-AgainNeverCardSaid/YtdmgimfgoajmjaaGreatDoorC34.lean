/- How a pawn goes, in the document's answer. -/
import Derived.Test.YtdmgimfgoajmjaaGreatDoorC32
set_option linter.unusedVariables false
set_option linter.unusedSimpArgs false
namespace Go.Proofs.YtdmgimfgoajmjaaGreatDoor
open Go.RowKit
theorem Ret.reg' {P : Program} {f : FuncId} {args : Array Value} {w : World} {p : Regrown} {v : Value}
    (h : ∀ w, Calls P f args w (Ret v w)) : Calls P f args (grown w p) fun e w'' => e = .returned v ∧ ∃ q : Regrown, w'' = grown w q := Calls.reg (h _)
theorem bare_iff' {p : Pos} {t : Int} : bareB p t = true ↔ p.kind t.toNat = 0 ∧ p.side t.toNat = 0 := by simp [bareB]
set_option maxRecDepth 100000 in
set_option maxHeartbeats 4000000 in
theorem rPawn_any (p : Pos) (a t : Int) (w : World) (a0 : 0 ≤ a) (a1 : a < 64) (t0 : 0 ≤ t) (t1 : t < 64) : Calls Tryz.prog 184 #[.agg (posCells p), .int .i64 a, .int .i64 t] w (Ret (.bool (rPawnB p a t)) w) := by
  have a2 : a.toNat < 64 := by omega
  have t2 : t.toNat < 64 := by omega
  have ha8 : a.tdiv 8 = a / 8 := by rw [Int.tdiv_eq_ediv_of_nonneg a0]
  have HA : ∀ w, Calls Tryz.prog 185 #[.agg (posCells p), .int .i64 a, .int .i64 t] w (Ret (.bool (rAttB p a t)) w) := fun w => rAtt_any p a t w a0 a1 t0 t1
  have HF : ∀ x w, Calls Tryz.prog 214 #[.agg (posCells p), .int .i64 x] w (Ret (.bool (freeAt p x)) w) := fun x w => rBare_any p x w
  have HO : ∀ x w, Calls Tryz.prog 112 #[.int .i64 x] w (Ret (.int .i64 (otherOf x)) w) := fun x w => rOther_any x w
  have hfb : freeAt p t = bareB p t := by simp [freeAt, isSq, t0, t1]
  have HE := hid (show rPawnB p a t = (if t = a + onOfS (p.side a.toNat) then freeAt p t else if t = a + 2 * onOfS (p.side a.toNat) ∧ a / 8 = (if p.side a.toNat = 1 then 6 else 1) then freeAt p (a + onOfS (p.side a.toNat)) && freeAt p t
    else if rAttB p a t = true then (!bareB p t && p.side t.toNat == otherOf (p.side a.toNat)) || (freeAt p t && t == p.over) else false) from rfl)
  have hon : (p.side a.toNat = 1 ∧ onOfS (p.side a.toNat) = -8 ∧ (if p.side a.toNat = 1 then (6 : Int) else 1) = 6) ∨ ((p.side a.toNat == 1) = false ∧ onOfS (p.side a.toNat) = 8 ∧ (if p.side a.toNat = 1 then (6 : Int) else 1) = 1) := by
    by_cases h : p.side a.toNat = 1
    · exact .inl ⟨h, by simp [onOfS, h], if_pos h⟩
    · exact .inr ⟨by simpa using h, by simp [onOfS, h], if_neg h⟩
  have hon8 := trivial
  rcases hon with ⟨hs, h8, hf⟩ | ⟨hs, h8, hf⟩
  · rw [h8, hf] at HE
    clear h8 hf hon8
    rw [hs] at HE
    by_cases c1 : t = a + -8
    · have HE := hid (HE.out.trans (if_pos c1))
      subst c1
      clear HA
      go_enter Tryz.func184, Tryz.ntmps184
      go_wp2_with (first | (go_at_call 214; (with_reducible refine (HF _ _).mono ?_); rintro e w1 ⟨rfl, hx⟩; obtain ⟨hxc, hxf, hxb, hxs⟩ := hx.all; (try simp only [World.size_alloc, size_set, size_drew] at hxc hxf hxb hxs); (first | (have h4 := lt4 w.heap.size w1.heap.size (by omega)); (obtain ⟨_, _, _, _⟩ := h4) | (have h4 := lt3 w.heap.size w1.heap.size (by omega)); (obtain ⟨_, _, _⟩ := h4) | (have h4 := lt2 w.heap.size w1.heap.size (by omega)); (obtain ⟨_, _⟩ := h4) | have := lt1 w.heap.size w1.heap.size (by omega) | skip)))
      all_goals (go_ret; exact Ret.mk' (vbool (by rw [HE.out]; (try simp_all))) (Ext.auto))
    · have HE := hid (HE.out.trans (if_neg c1))
      have e1 : (t == a + -8) = false := by simpa using c1
      by_cases c2 : t = a + -16 ∧ a / 8 = 6
      · have HE := hid (HE.out.trans (if_pos (by omega)))
        obtain ⟨c2, c3⟩ := c2
        subst c2
        clear c1 e1 HA
        cases hf1 : freeAt p (a + -8)
        all_goals
          go_enter Tryz.func184, Tryz.ntmps184
          go_wp2_with (first | (go_at_call 214; (with_reducible refine (HF _ _).mono ?_); rintro e w1 ⟨rfl, hx⟩; obtain ⟨hxc, hxf, hxb, hxs⟩ := hx.all; (try simp only [World.size_alloc, size_set, size_drew] at hxc hxf hxb hxs); (first | (have h4 := lt4 w.heap.size w1.heap.size (by omega)); (obtain ⟨_, _, _, _⟩ := h4) | (have h4 := lt3 w.heap.size w1.heap.size (by omega)); (obtain ⟨_, _, _⟩ := h4) | (have h4 := lt2 w.heap.size w1.heap.size (by omega)); (obtain ⟨_, _⟩ := h4) | have := lt1 w.heap.size w1.heap.size (by omega) | skip)))
          all_goals (go_ret; exact Ret.mk' (vbool (by rw [HE.out]; (try simp_all))) (Ext.auto))
      · have HE := hid (HE.out.trans (if_neg (by omega)))
        have HX : ((t == a + -16) = false) ∨ ((t == a + -16) = true ∧ (a / 8 == 6) = false) := by
          by_cases h : t = a + -16
          · exact .inr ⟨by simpa using h, by simp; omega⟩
          · exact .inl (by simpa using h)
        clear c1 c2
        cases hA : rAttB p a t
        · have HE := hid (HE.out.trans (if_neg (by rw [hA]; decide)))
          rcases HX with e2 | ⟨e2, e3⟩
          all_goals
            go_enter Tryz.func184, Tryz.ntmps184
            go_wp2_with (first | (go_at_call 185; (with_reducible refine (HA _).mono ?_); rintro e w1 ⟨rfl, hx⟩; obtain ⟨hxc, hxf, hxb, hxs⟩ := hx.all; (try simp only [World.size_alloc, size_set, size_drew] at hxc hxf hxb hxs); (first | (have h4 := lt4 w.heap.size w1.heap.size (by omega)); (obtain ⟨_, _, _, _⟩ := h4) | (have h4 := lt3 w.heap.size w1.heap.size (by omega)); (obtain ⟨_, _, _⟩ := h4) | (have h4 := lt2 w.heap.size w1.heap.size (by omega)); (obtain ⟨_, _⟩ := h4) | have := lt1 w.heap.size w1.heap.size (by omega) | skip)) | (go_at_call 214; (with_reducible refine (HF _ _).mono ?_); rintro e w1 ⟨rfl, hx⟩; obtain ⟨hxc, hxf, hxb, hxs⟩ := hx.all; (try simp only [World.size_alloc, size_set, size_drew] at hxc hxf hxb hxs); (first | (have h4 := lt4 w.heap.size w1.heap.size (by omega)); (obtain ⟨_, _, _, _⟩ := h4) | (have h4 := lt3 w.heap.size w1.heap.size (by omega)); (obtain ⟨_, _, _⟩ := h4) | (have h4 := lt2 w.heap.size w1.heap.size (by omega)); (obtain ⟨_, _⟩ := h4) | have := lt1 w.heap.size w1.heap.size (by omega) | skip)))
            all_goals (go_ret; exact Ret.mk' (vbool (by rw [HE.out]; (try simp_all))) (Ext.auto))
        · have HE := hid (HE.out.trans (if_pos hA))
          have HFB := hid hfb
          by_cases b1 : p.kind t.toNat = 0 ∧ p.side t.toNat = 0
          · have hb : bareB p t = true := bare_iff'.2 b1
            have hft : freeAt p t = true := hfb.trans hb
            obtain ⟨b1, b2⟩ := b1
            rw [hb, hft] at HE
            clear hfb hb
            rcases HX with e2 | ⟨e2, e3⟩
            all_goals
              cases eo : (t == p.over)
              all_goals
                go_enter Tryz.func184, Tryz.ntmps184
                go_wp2_with (first | (go_at_call 185; (with_reducible refine (HA _).mono ?_); rintro e w1 ⟨rfl, hx⟩; obtain ⟨hxc, hxf, hxb, hxs⟩ := hx.all; (try simp only [World.size_alloc, size_set, size_drew] at hxc hxf hxb hxs); (first | (have h4 := lt4 w.heap.size w1.heap.size (by omega)); (obtain ⟨_, _, _, _⟩ := h4) | (have h4 := lt3 w.heap.size w1.heap.size (by omega)); (obtain ⟨_, _, _⟩ := h4) | (have h4 := lt2 w.heap.size w1.heap.size (by omega)); (obtain ⟨_, _⟩ := h4) | have := lt1 w.heap.size w1.heap.size (by omega) | skip)) | (go_at_call 214; (with_reducible refine (HF _ _).mono ?_); rintro e w1 ⟨rfl, hx⟩; obtain ⟨hxc, hxf, hxb, hxs⟩ := hx.all; (try simp only [World.size_alloc, size_set, size_drew] at hxc hxf hxb hxs); (first | (have h4 := lt4 w.heap.size w1.heap.size (by omega)); (obtain ⟨_, _, _, _⟩ := h4) | (have h4 := lt3 w.heap.size w1.heap.size (by omega)); (obtain ⟨_, _, _⟩ := h4) | (have h4 := lt2 w.heap.size w1.heap.size (by omega)); (obtain ⟨_, _⟩ := h4) | have := lt1 w.heap.size w1.heap.size (by omega) | skip)))
                refine wp_quiet (by kernel_rfl) (by kernel_rfl) ?_; (repeat (first | go_big_quiet_step ((first | (go_at_call 112; with_reducible exact Calls.reg (HO _ _)) | (go_at_call 214; with_reducible exact Calls.reg (HF _ _)))) | quiet_step ((first | (go_at_call 112; with_reducible exact Calls.reg (HO _ _)) | (go_at_call 214; with_reducible exact Calls.reg (HF _ _)))))); refine wpQuiet_nil ?_; intro w1 hx; obtain ⟨hxc, hxf, hxb, hxs⟩ := hx.all; (try simp only [World.size_alloc, size_set, size_drew] at hxc hxf hxb hxs); (first | (have h4 := lt4 w.heap.size w1.heap.size (by omega)); (obtain ⟨_, _, _, _⟩ := h4) | (have h4 := lt3 w.heap.size w1.heap.size (by omega)); (obtain ⟨_, _, _⟩ := h4) | (have h4 := lt2 w.heap.size w1.heap.size (by omega)); (obtain ⟨_, _⟩ := h4) | have := lt1 w.heap.size w1.heap.size (by omega) | skip)
                go_wp2
                all_goals (go_ret; exact Ret.mk' (vbool (by rw [HE.out]; (try simp_all))) (Ext.auto))
          · have hb : bareB p t = false := by rw [Bool.eq_false_iff]; exact fun h => b1 (bare_iff'.1 h)
            have hft : freeAt p t = false := hfb.trans hb
            have en : (p.kind t.toNat == 0 && p.side t.toNat == 0) = false := hb
            rw [hb, hft] at HE
            clear hfb hb b1
            rcases HX with e2 | ⟨e2, e3⟩
            all_goals
              cases es : (p.side t.toNat == otherOf 1)
              all_goals
                go_enter Tryz.func184, Tryz.ntmps184
                go_wp2_with (first | (go_at_call 185; (with_reducible refine (HA _).mono ?_); rintro e w1 ⟨rfl, hx⟩; obtain ⟨hxc, hxf, hxb, hxs⟩ := hx.all; (try simp only [World.size_alloc, size_set, size_drew] at hxc hxf hxb hxs); (first | (have h4 := lt4 w.heap.size w1.heap.size (by omega)); (obtain ⟨_, _, _, _⟩ := h4) | (have h4 := lt3 w.heap.size w1.heap.size (by omega)); (obtain ⟨_, _, _⟩ := h4) | (have h4 := lt2 w.heap.size w1.heap.size (by omega)); (obtain ⟨_, _⟩ := h4) | have := lt1 w.heap.size w1.heap.size (by omega) | skip)) | (go_at_call 214; (with_reducible refine (HF _ _).mono ?_); rintro e w1 ⟨rfl, hx⟩; obtain ⟨hxc, hxf, hxb, hxs⟩ := hx.all; (try simp only [World.size_alloc, size_set, size_drew] at hxc hxf hxb hxs); (first | (have h4 := lt4 w.heap.size w1.heap.size (by omega)); (obtain ⟨_, _, _, _⟩ := h4) | (have h4 := lt3 w.heap.size w1.heap.size (by omega)); (obtain ⟨_, _, _⟩ := h4) | (have h4 := lt2 w.heap.size w1.heap.size (by omega)); (obtain ⟨_, _⟩ := h4) | have := lt1 w.heap.size w1.heap.size (by omega) | skip)))
                refine wp_quiet (by kernel_rfl) (by kernel_rfl) ?_; (repeat (first | go_big_quiet_step ((first | (go_at_call 112; with_reducible exact Calls.reg (HO _ _)) | (go_at_call 214; with_reducible exact Calls.reg (HF _ _)))) | quiet_step ((first | (go_at_call 112; with_reducible exact Calls.reg (HO _ _)) | (go_at_call 214; with_reducible exact Calls.reg (HF _ _)))))); refine wpQuiet_nil ?_; intro w1 hx; obtain ⟨hxc, hxf, hxb, hxs⟩ := hx.all; (try simp only [World.size_alloc, size_set, size_drew] at hxc hxf hxb hxs); (first | (have h4 := lt4 w.heap.size w1.heap.size (by omega)); (obtain ⟨_, _, _, _⟩ := h4) | (have h4 := lt3 w.heap.size w1.heap.size (by omega)); (obtain ⟨_, _, _⟩ := h4) | (have h4 := lt2 w.heap.size w1.heap.size (by omega)); (obtain ⟨_, _⟩ := h4) | have := lt1 w.heap.size w1.heap.size (by omega) | skip)
                go_wp2
                all_goals (go_ret; exact Ret.mk' (vbool (by rw [HE.out]; (try simp_all))) (Ext.auto))
  · rw [h8, hf] at HE
    clear h8 hf hon8
    by_cases c1 : t = a + 8
    · have HE := hid (HE.out.trans (if_pos c1))
      subst c1
      clear HA
      go_enter Tryz.func184, Tryz.ntmps184
      go_wp2_with (first | (go_at_call 214; (with_reducible refine (HF _ _).mono ?_); rintro e w1 ⟨rfl, hx⟩; obtain ⟨hxc, hxf, hxb, hxs⟩ := hx.all; (try simp only [World.size_alloc, size_set, size_drew] at hxc hxf hxb hxs); (first | (have h4 := lt4 w.heap.size w1.heap.size (by omega)); (obtain ⟨_, _, _, _⟩ := h4) | (have h4 := lt3 w.heap.size w1.heap.size (by omega)); (obtain ⟨_, _, _⟩ := h4) | (have h4 := lt2 w.heap.size w1.heap.size (by omega)); (obtain ⟨_, _⟩ := h4) | have := lt1 w.heap.size w1.heap.size (by omega) | skip)))
      all_goals (go_ret; exact Ret.mk' (vbool (by rw [HE.out]; (try simp_all))) (Ext.auto))
    · have HE := hid (HE.out.trans (if_neg c1))
      have e1 : (t == a + 8) = false := by simpa using c1
      by_cases c2 : t = a + 16 ∧ a / 8 = 1
      · have HE := hid (HE.out.trans (if_pos (by omega)))
        obtain ⟨c2, c3⟩ := c2
        subst c2
        clear c1 e1 HA
        cases hf1 : freeAt p (a + 8)
        all_goals
          go_enter Tryz.func184, Tryz.ntmps184
          go_wp2_with (first | (go_at_call 214; (with_reducible refine (HF _ _).mono ?_); rintro e w1 ⟨rfl, hx⟩; obtain ⟨hxc, hxf, hxb, hxs⟩ := hx.all; (try simp only [World.size_alloc, size_set, size_drew] at hxc hxf hxb hxs); (first | (have h4 := lt4 w.heap.size w1.heap.size (by omega)); (obtain ⟨_, _, _, _⟩ := h4) | (have h4 := lt3 w.heap.size w1.heap.size (by omega)); (obtain ⟨_, _, _⟩ := h4) | (have h4 := lt2 w.heap.size w1.heap.size (by omega)); (obtain ⟨_, _⟩ := h4) | have := lt1 w.heap.size w1.heap.size (by omega) | skip)))
          all_goals (go_ret; exact Ret.mk' (vbool (by rw [HE.out]; (try simp_all))) (Ext.auto))
      · have HE := hid (HE.out.trans (if_neg (by omega)))
        have HX : ((t == a + 16) = false) ∨ ((t == a + 16) = true ∧ (a / 8 == 1) = false) := by
          by_cases h : t = a + 16
          · exact .inr ⟨by simpa using h, by simp; omega⟩
          · exact .inl (by simpa using h)
        clear c1 c2
        cases hA : rAttB p a t
        · have HE := hid (HE.out.trans (if_neg (by rw [hA]; decide)))
          rcases HX with e2 | ⟨e2, e3⟩
          all_goals
            go_enter Tryz.func184, Tryz.ntmps184
            go_wp2_with (first | (go_at_call 185; (with_reducible refine (HA _).mono ?_); rintro e w1 ⟨rfl, hx⟩; obtain ⟨hxc, hxf, hxb, hxs⟩ := hx.all; (try simp only [World.size_alloc, size_set, size_drew] at hxc hxf hxb hxs); (first | (have h4 := lt4 w.heap.size w1.heap.size (by omega)); (obtain ⟨_, _, _, _⟩ := h4) | (have h4 := lt3 w.heap.size w1.heap.size (by omega)); (obtain ⟨_, _, _⟩ := h4) | (have h4 := lt2 w.heap.size w1.heap.size (by omega)); (obtain ⟨_, _⟩ := h4) | have := lt1 w.heap.size w1.heap.size (by omega) | skip)) | (go_at_call 214; (with_reducible refine (HF _ _).mono ?_); rintro e w1 ⟨rfl, hx⟩; obtain ⟨hxc, hxf, hxb, hxs⟩ := hx.all; (try simp only [World.size_alloc, size_set, size_drew] at hxc hxf hxb hxs); (first | (have h4 := lt4 w.heap.size w1.heap.size (by omega)); (obtain ⟨_, _, _, _⟩ := h4) | (have h4 := lt3 w.heap.size w1.heap.size (by omega)); (obtain ⟨_, _, _⟩ := h4) | (have h4 := lt2 w.heap.size w1.heap.size (by omega)); (obtain ⟨_, _⟩ := h4) | have := lt1 w.heap.size w1.heap.size (by omega) | skip)))
            all_goals (go_ret; exact Ret.mk' (vbool (by rw [HE.out]; (try simp_all))) (Ext.auto))
        · have HE := hid (HE.out.trans (if_pos hA))
          have HFB := hid hfb
          by_cases b1 : p.kind t.toNat = 0 ∧ p.side t.toNat = 0
          · have hb : bareB p t = true := bare_iff'.2 b1
            have hft : freeAt p t = true := hfb.trans hb
            obtain ⟨b1, b2⟩ := b1
            rw [hb, hft] at HE
            clear hfb hb
            rcases HX with e2 | ⟨e2, e3⟩
            all_goals
              cases eo : (t == p.over)
              all_goals
                go_enter Tryz.func184, Tryz.ntmps184
                go_wp2_with (first | (go_at_call 185; (with_reducible refine (HA _).mono ?_); rintro e w1 ⟨rfl, hx⟩; obtain ⟨hxc, hxf, hxb, hxs⟩ := hx.all; (try simp only [World.size_alloc, size_set, size_drew] at hxc hxf hxb hxs); (first | (have h4 := lt4 w.heap.size w1.heap.size (by omega)); (obtain ⟨_, _, _, _⟩ := h4) | (have h4 := lt3 w.heap.size w1.heap.size (by omega)); (obtain ⟨_, _, _⟩ := h4) | (have h4 := lt2 w.heap.size w1.heap.size (by omega)); (obtain ⟨_, _⟩ := h4) | have := lt1 w.heap.size w1.heap.size (by omega) | skip)) | (go_at_call 214; (with_reducible refine (HF _ _).mono ?_); rintro e w1 ⟨rfl, hx⟩; obtain ⟨hxc, hxf, hxb, hxs⟩ := hx.all; (try simp only [World.size_alloc, size_set, size_drew] at hxc hxf hxb hxs); (first | (have h4 := lt4 w.heap.size w1.heap.size (by omega)); (obtain ⟨_, _, _, _⟩ := h4) | (have h4 := lt3 w.heap.size w1.heap.size (by omega)); (obtain ⟨_, _, _⟩ := h4) | (have h4 := lt2 w.heap.size w1.heap.size (by omega)); (obtain ⟨_, _⟩ := h4) | have := lt1 w.heap.size w1.heap.size (by omega) | skip)))
                refine wp_quiet (by kernel_rfl) (by kernel_rfl) ?_; (repeat (first | go_big_quiet_step ((first | (go_at_call 112; with_reducible exact Calls.reg (HO _ _)) | (go_at_call 214; with_reducible exact Calls.reg (HF _ _)))) | quiet_step ((first | (go_at_call 112; with_reducible exact Calls.reg (HO _ _)) | (go_at_call 214; with_reducible exact Calls.reg (HF _ _)))))); refine wpQuiet_nil ?_; intro w1 hx; obtain ⟨hxc, hxf, hxb, hxs⟩ := hx.all; (try simp only [World.size_alloc, size_set, size_drew] at hxc hxf hxb hxs); (first | (have h4 := lt4 w.heap.size w1.heap.size (by omega)); (obtain ⟨_, _, _, _⟩ := h4) | (have h4 := lt3 w.heap.size w1.heap.size (by omega)); (obtain ⟨_, _, _⟩ := h4) | (have h4 := lt2 w.heap.size w1.heap.size (by omega)); (obtain ⟨_, _⟩ := h4) | have := lt1 w.heap.size w1.heap.size (by omega) | skip)
                go_wp2
                all_goals (go_ret; exact Ret.mk' (vbool (by rw [HE.out]; (try simp_all))) (Ext.auto))
          · have hb : bareB p t = false := by rw [Bool.eq_false_iff]; exact fun h => b1 (bare_iff'.1 h)
            have hft : freeAt p t = false := hfb.trans hb
            have en : (p.kind t.toNat == 0 && p.side t.toNat == 0) = false := hb
            rw [hb, hft] at HE
            clear hfb hb b1
            rcases HX with e2 | ⟨e2, e3⟩
            all_goals
              cases es : (p.side t.toNat == otherOf (p.side a.toNat))
              all_goals
                go_enter Tryz.func184, Tryz.ntmps184
                go_wp2_with (first | (go_at_call 185; (with_reducible refine (HA _).mono ?_); rintro e w1 ⟨rfl, hx⟩; obtain ⟨hxc, hxf, hxb, hxs⟩ := hx.all; (try simp only [World.size_alloc, size_set, size_drew] at hxc hxf hxb hxs); (first | (have h4 := lt4 w.heap.size w1.heap.size (by omega)); (obtain ⟨_, _, _, _⟩ := h4) | (have h4 := lt3 w.heap.size w1.heap.size (by omega)); (obtain ⟨_, _, _⟩ := h4) | (have h4 := lt2 w.heap.size w1.heap.size (by omega)); (obtain ⟨_, _⟩ := h4) | have := lt1 w.heap.size w1.heap.size (by omega) | skip)) | (go_at_call 214; (with_reducible refine (HF _ _).mono ?_); rintro e w1 ⟨rfl, hx⟩; obtain ⟨hxc, hxf, hxb, hxs⟩ := hx.all; (try simp only [World.size_alloc, size_set, size_drew] at hxc hxf hxb hxs); (first | (have h4 := lt4 w.heap.size w1.heap.size (by omega)); (obtain ⟨_, _, _, _⟩ := h4) | (have h4 := lt3 w.heap.size w1.heap.size (by omega)); (obtain ⟨_, _, _⟩ := h4) | (have h4 := lt2 w.heap.size w1.heap.size (by omega)); (obtain ⟨_, _⟩ := h4) | have := lt1 w.heap.size w1.heap.size (by omega) | skip)))
                refine wp_quiet (by kernel_rfl) (by kernel_rfl) ?_; (repeat (first | go_big_quiet_step ((first | (go_at_call 112; with_reducible exact Calls.reg (HO _ _)) | (go_at_call 214; with_reducible exact Calls.reg (HF _ _)))) | quiet_step ((first | (go_at_call 112; with_reducible exact Calls.reg (HO _ _)) | (go_at_call 214; with_reducible exact Calls.reg (HF _ _)))))); refine wpQuiet_nil ?_; intro w1 hx; obtain ⟨hxc, hxf, hxb, hxs⟩ := hx.all; (try simp only [World.size_alloc, size_set, size_drew] at hxc hxf hxb hxs); (first | (have h4 := lt4 w.heap.size w1.heap.size (by omega)); (obtain ⟨_, _, _, _⟩ := h4) | (have h4 := lt3 w.heap.size w1.heap.size (by omega)); (obtain ⟨_, _, _⟩ := h4) | (have h4 := lt2 w.heap.size w1.heap.size (by omega)); (obtain ⟨_, _⟩ := h4) | have := lt1 w.heap.size w1.heap.size (by omega) | skip)
                go_wp2
                all_goals (go_ret; exact Ret.mk' (vbool (by rw [HE.out]; (try simp_all))) (Ext.auto))
end Go.Proofs.YtdmgimfgoajmjaaGreatDoor
