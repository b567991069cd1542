/- Behind a legal move the position may be played on. -/
import Derived.Test.YtdmgimfgoajmjaaGreatDoorC25
import Derived.Test.YtdmgimfgoajmjaaGreatDoorC24
import Derived.Test.YtdmgimfgoajmjaaGreatDoorC18
set_option linter.unusedVariables false
set_option linter.unusedSimpArgs false
set_option maxRecDepth 100000
set_option maxHeartbeats 8000000
namespace Go.Proofs.YtdmgimfgoajmjaaGreatDoor
open Go.RowKit
def total (f : Int → Int → Nat → Int) (p : Pos) : Nat → Int
 | 0 => 0
 | n + 1 => total f p n + f (p.kind n) (p.side n) n
theorem total_put_lt (f : Int → Int → Nat → Int) (p : Pos) (t k s : Int) : ∀ n, n ≤ t.toNat → total f (p.put t k s) n = total f p n
 | 0, _ => rfl
 | n + 1, h => by
   simp only [total]
   rw [total_put_lt f p t k s n (by omega)]
   simp only [Pos.put]
   rw [if_neg (by omega), if_neg (by omega)]
theorem total_put_ge (f : Int → Int → Nat → Int) (p : Pos) (t k s : Int) : ∀ n, t.toNat < n → total f (p.put t k s) n = total f p n - f (p.kind t.toNat) (p.side t.toNat) t.toNat + f k s t.toNat
 | 0, h => by omega
 | n + 1, h => by
   simp only [total]
   by_cases e : n = t.toNat
   ·rw [total_put_lt f p t k s n (by omega)]
    simp only [Pos.put]
    rw [if_pos e, if_pos e, e]; omega
   ·rw [total_put_ge f p t k s n (by omega)]
    simp only [Pos.put]
    rw [if_neg e, if_neg e]; omega
theorem total_put (f : Int → Int → Nat → Int) (p : Pos) {t : Int} (k s : Int) (t0 : 0 ≤ t) (t1 : t < 64) : total f (p.put t k s) 64 = total f p 64 - f (p.kind t.toNat) (p.side t.toNat) t.toNat + f k s t.toNat :=
 total_put_ge f p t k s 64 (by omega)
theorem put_at (p : Pos) (t k s u : Int) : (p.put t k s).kind u.toNat = (if u.toNat = t.toNat then k else p.kind u.toNat) ∧ (p.put t k s).side u.toNat = (if u.toNat = t.toNat then s else p.side u.toNat) := ⟨rfl, rfl⟩
structure Known (p : Pos) (m : Mv) (k s at_ be : Int) : Prop where
 f0 : 0 ≤ m.fr
 f1 : m.fr < 64
 t0 : 0 ≤ m.to_
 t1 : m.to_ < 64
 ne : m.fr ≠ m.to_
 k0 : 1 ≤ k
 k1 : k ≤ 6
 s0 : s = 0 ∨ s = 1
 kind : p.kind m.fr.toNat = k
 side : p.side m.fr.toNat = s
 turn : p.turn = s
 be0 : (be = k ∧ ¬ (k = 1 ∧ m.to_ / 8 = 7 * (1 - s)) ∧ m.be = 0) ∨ (k = 1 ∧ m.to_ / 8 = 7 * (1 - s) ∧ 2 ≤ be ∧ be ≤ 5 ∧ m.be = be)
 at0 : (at_ = -1 ∧ bareB p m.to_ = true) ∨ (at_ = m.to_ ∧ bareB p m.to_ = false ∧ p.side m.to_.toNat ≠ s ∧ rAttB p m.fr m.to_ = true) ∨
  (at_ = m.fr / 8 * 8 + m.to_ % 8 ∧ bareB p m.to_ = true ∧ k = 1 ∧ p.kind at_.toNat = 1 ∧ p.side at_.toNat = otherOf s ∧ m.fr % 8 ≠ m.to_ % 8 ∧ (at_ / 8 = 3 ∨ at_ / 8 = 4) ∧ m.fr / 8 ≠ m.to_ / 8 ∧ m.to_ = p.over)
 pawn : k = 1 → (m.to_ / 8 = m.fr / 8 + (1 - 2 * s) ∨ (m.to_ = m.fr + 2 * onOfS s ∧ m.fr / 8 = 1 + 5 * s ∧ bareB p (m.fr + onOfS s) = true ∧ at_ = -1))
 quiet : k = 1 → m.fr % 8 = m.to_ % 8 → at_ = -1
 rook : (rookOf p m k s).2.2 = true → k = 6 ∧ m.fr = homeOf s ∧ at_ = -1 ∧
  ((m.to_ = homeOf s + 2 ∧ rookOf p m k s = (homeOf s + 3, homeOf s + 1, true) ∧ standsB p 4 s (homeOf s + 3) = true ∧ bareB p (homeOf s + 1) = true) ∨
   (m.to_ = homeOf s - 2 ∧ rookOf p m k s = (homeOf s - 4, homeOf s - 1, true) ∧ standsB p 4 s (homeOf s - 4) = true ∧ bareB p (homeOf s - 1) = true))
theorem bare_iff {p : Pos} {t : Int} : bareB p t = true ↔ p.kind t.toNat = 0 ∧ p.side t.toNat = 0 := by simp [bareB]
theorem freeAt_bare {p : Pos} {t : Int} (h : freeAt p t = true) : 0 ≤ t ∧ t < 64 ∧ bareB p t = true := by
 simp [freeAt, isSq] at h; exact ⟨h.1.1, h.1.2, h.2⟩
theorem home_bd (s : Int) : homeOf s = 4 ∧ ¬ s = 1 ∨ homeOf s = 60 ∧ s = 1 := by unfold homeOf; split <;> simp [*]
theorem known {p : Pos} {m : Mv} (hp : overB p = true) (hm : m ∈ AllL p) (hE : takenE p m = 0) :
 Known p m (p.kind m.fr.toNat) (p.side m.fr.toNat) (takesOf p m (p.kind m.fr.toNat)) (beOf m (p.kind m.fr.toNat)) := by
 obtain ⟨f0, f1, t0, t1, hg, hto⟩ := AllL_goes hm
 have hmv := goes_mover hg
 have hmay := hmv.1
 simp only [mayB, decide_eq_true_eq] at hmay
 have hne : m.fr ≠ m.to_ := by
  unfold rGoesB at hg
  split at hg
  ·rename_i h; exact h.2.2
  ·cases hg
 have hgo : (if p.kind m.fr.toNat = 1 then rPawnB p m.fr m.to_ else if (rAttB p m.fr m.to_ && (bareB p m.to_ || p.side m.to_.toNat != p.side m.fr.toNat)) = true then true else p.kind m.fr.toNat == 6 && rCastleB p m.fr m.to_) = true := by
  unfold rGoesB at hg
  rwa [if_pos ⟨hmv.1, hmv.2, hne⟩] at hg
 have hrk : rankOf m.to_ = m.to_ / 8 := by unfold rankOf; rw [if_pos ⟨t0, t1⟩]
 have htn : turnsOf m ≠ 0 ↔ m.fr % 8 ≠ m.to_ % 8 := by
  unfold turnsOf fileOf
  rw [if_pos ⟨t0, t1⟩, if_pos ⟨f0, f1⟩]; omega
 have hon := show (p.side m.fr.toNat = 1 → onOfS (p.side m.fr.toNat) = -8) ∧ (p.side m.fr.toNat = 0 → onOfS (p.side m.fr.toNat) = 8) by
  unfold onOfS; constructor <;> intro h <;> simp [h]
 have hside := hmay.2.2
 have hkey : overB p = true → p.kind m.fr.toNat = 1 → rAttB p m.fr m.to_ = true → m.to_ = p.over →
  p.kind (m.fr / 8 * 8 + m.to_ % 8).toNat = 1 ∧ p.side (m.fr / 8 * 8 + m.to_ % 8).toNat = otherOf p.turn ∧ ((m.fr / 8 * 8 + m.to_ % 8) / 8 = 3 ∨ (m.fr / 8 * 8 + m.to_ % 8) / 8 = 4) := by
  intro hO c1 hA hto
  obtain ⟨-, hr⟩ := att_pawn hA c1
  unfold overB at hO
  rw [Bool.or_eq_true] at hO
  rcases hO with hO | hO
  ·simp at hO; omega
  ·simp only [Bool.and_eq_true, decide_eq_true_eq] at hO
   have hst := hO.2
   have hrk := hO.1.1.1.1
   unfold rankOf at hrk
   rw [← hto, if_pos ⟨t0, t1⟩] at hrk
   have htd : p.turn = 0 ∨ p.turn = 1 := by rw [← hmv.2]; exact hside
   have hat2 : stepOf m.to_ 0 (-overOn p) = m.fr / 8 * 8 + m.to_ % 8 ∧ (m.fr / 8 = 3 ∨ m.fr / 8 = 4) := by
    unfold stepOf onOf
    rw [if_pos (show 0 ≤ m.to_ ∧ m.to_ < 64 from ⟨t0, t1⟩)]
    unfold numOf overOn
    unfold overRank at hrk
    unfold rd at hr
    rw [hmv.2] at hr
    rcases htd with e | e <;> rw [e] at hrk hr ⊢ <;> simp at hrk hr ⊢ <;> (constructor; split <;> omega) <;> omega
   rw [← hto, hat2.1] at hst
   simp only [standsB, Bool.and_eq_true, beq_iff_eq] at hst
   exact ⟨hst.1, hst.2, by omega⟩
 have hpawn : p.kind m.fr.toNat = 1 → (m.fr % 8 = m.to_ % 8 ∧ bareB p m.to_ = true ∧ (m.to_ = m.fr + onOfS (p.side m.fr.toNat) ∨ (m.to_ = m.fr + 2 * onOfS (p.side m.fr.toNat) ∧ m.fr / 8 = (if p.side m.fr.toNat = 1 then 6 else 1) ∧ bareB p (m.fr + onOfS (p.side m.fr.toNat)) = true))) ∨
  (m.fr % 8 ≠ m.to_ % 8 ∧ rAttB p m.fr m.to_ = true ∧ m.to_ / 8 = m.fr / 8 + (1 - 2 * p.side m.fr.toNat) ∧ ((bareB p m.to_ = false ∧ p.side m.to_.toNat = otherOf (p.side m.fr.toNat)) ∨ (bareB p m.to_ = true ∧ m.to_ = p.over))) := by
  intro hk
  rw [if_pos hk] at hgo
  unfold rPawnB at hgo
  dsimp only at hgo
  generalize hfr : (if p.side m.fr.toNat = 1 then (6 : Int) else 1) = fr1 at *
  split at hgo
  ·rename_i e
   exact .inl ⟨by omega, (freeAt_bare hgo).2.2, .inl e⟩
  ·split at hgo
   ·rename_i e
    rw [Bool.and_eq_true] at hgo
    exact .inl ⟨by omega, (freeAt_bare hgo.2).2.2, .inr ⟨e.1, e.2, (freeAt_bare hgo.1).2.2⟩⟩
   ·split at hgo
    ·rename_i hA
     obtain ⟨g1, g2⟩ := att_pawn hA hk
     have hfd : fd m.fr m.to_ ≠ 0 := by intro e; rw [e] at g1; cases g1
     unfold fd at hfd
     unfold rd at g2
     refine .inr ⟨by omega, hA, by omega, ?_⟩
     rw [Bool.or_eq_true, Bool.and_eq_true, Bool.and_eq_true] at hgo
     rcases hgo with h | h
     ·exact .inl ⟨by simpa using h.1, by simpa using h.2⟩
     ·exact .inr ⟨(freeAt_bare h.1).2.2, by simpa using h.2⟩
    ·cases hgo
 have hcan : canB p m = true := by
  unfold takenE at hE
  split at hE
  ·split at hE
   ·assumption
   ·cases hE
  ·cases hE
 simp only [canB, canOf, decide_eq_true_eq, hrk] at hcan
 have hbare : bareB p m.to_ = true → ¬ (p.kind m.fr.toNat = 1 ∧ turnsOf m ≠ 0 ∧ m.to_ = p.over ∧ bareB p m.to_ = true) → takesOf p m (p.kind m.fr.toNat) = -1 := by
  intro h1 h2
  unfold takesOf takesAt
  rw [if_neg h2, if_pos h1]
 have hcas : p.kind m.fr.toNat = 6 → rAttB p m.fr m.to_ = false → rCastleB p m.fr m.to_ = true := by
  intro h6 hA
  rw [if_neg (by omega), if_neg (by simp [hA])] at hgo
  simpa [h6] using hgo
 refine ⟨f0, f1, t0, t1, hne, hmay.1, hmay.2.1, hside, rfl, rfl, hmv.2.symm, ?_, ?_, ?_, ?_, ?_⟩
 ·rcases hcan.2.2.2.2 with ⟨h1, h2, h3, h4⟩ | ⟨h1, h2⟩
  ·have e : beOf m (p.kind m.fr.toNat) = m.be := by unfold beOf; rw [if_pos (by omega)]
   rw [e]; exact .inr ⟨h1, h2, h3, h4, rfl⟩
  ·have e : beOf m (p.kind m.fr.toNat) = p.kind m.fr.toNat := by unfold beOf; rw [if_neg (by omega)]
   exact .inl ⟨e, h1, h2⟩
 ·by_cases hc : p.kind m.fr.toNat = 1 ∧ turnsOf m ≠ 0 ∧ m.to_ = p.over ∧ bareB p m.to_ = true
  ·have hat : takesAt p m (p.kind m.fr.toNat) = m.fr / 8 * 8 + m.to_ % 8 := by unfold takesAt; rw [if_pos hc]
   obtain ⟨c1, c2, c3, c4⟩ := hc
   rw [htn] at c2
   rcases hpawn c1 with h | h
   ·exact absurd h.1 c2
   ·obtain ⟨q1, q2, q3⟩ := hkey hp c1 h.2.1 c3
    have hnb : bareB p (m.fr / 8 * 8 + m.to_ % 8) = false := by
     unfold bareB; rw [q1]; rfl
    have hto : takesOf p m (p.kind m.fr.toNat) = m.fr / 8 * 8 + m.to_ % 8 := by
     unfold takesOf; rw [hat, if_neg (by rw [hnb]; decide)]
    refine .inr (.inr ⟨hto, c4, c1, ?_, ?_, c2, ?_, by omega, c3⟩)
    ·rw [hto]; exact q1
    ·rw [hto, hmv.2]; exact q2
    ·rw [hto]; exact q3
  ·cases hb : bareB p m.to_
   ·have hto : takesOf p m (p.kind m.fr.toNat) = m.to_ := by unfold takesOf takesAt; rw [if_neg hc, if_neg (by rw [hb]; decide)]
    refine .inr (.inl ⟨hto, rfl, ?_⟩)
    by_cases hk : p.kind m.fr.toNat = 1
    ·rcases hpawn hk with h | h
     ·rw [h.2.1] at hb; cases hb
     ·refine ⟨?_, h.2.1⟩
      rcases h.2.2.2 with h' | h'
      ·rw [h'.2]; unfold otherOf; split <;> omega
      ·rw [h'.1] at hb; cases hb
    ·rw [if_neg hk] at hgo
     split at hgo
     ·rename_i h'
      rw [Bool.and_eq_true, hb, Bool.false_or, bne_iff_ne] at h'
      exact ⟨h'.2, h'.1⟩
     ·rw [Bool.and_eq_true] at hgo
      have hr := hgo.2
      unfold rCastleB at hr
      dsimp only at hr
      split at hr
      ·split at hr
       ·rename_i e
        simp only [Bool.and_eq_true] at hr
        have := (freeAt_bare hr.2).2.2
        rw [← e, hb] at this; cases this
       ·simp only [Bool.and_eq_true, beq_iff_eq] at hr
        have := (freeAt_bare hr.1.2).2.2
        rw [← hr.1.1.1.1.1, hb] at this; cases this
      ·cases hr
   ·exact .inl ⟨hbare hb hc, rfl⟩
 ·intro hk
  rcases hpawn hk with h | h
  ·rcases h.2.2 with e | e
   ·left
    rcases hside with e2 | e2
    ·rw [hon.2 e2] at e; rw [e2]; omega
    ·rw [hon.1 e2] at e; rw [e2]; omega
   ·right
    refine ⟨e.1, ?_, e.2.2, hbare h.2.1 (by rw [htn]; intro hc; exact hc.2.1 h.1)⟩
    have := e.2.1
    rcases hside with e2 | e2 <;> rw [e2] at this ⊢ <;> simp at this ⊢ <;> omega
  ·exact .inl h.2.2.1
 ·intro hk he
  rcases hpawn hk with h | h
  ·exact hbare h.2.1 (by rw [htn]; intro hc; exact hc.2.1 he)
  ·exact absurd he h.1
 ·intro hr
  unfold rookOf at hr ⊢
  have hh := home_bd (p.side m.fr.toNat)
  split at hr
  ·rename_i hc
   have hnA : rAttB p m.fr m.to_ = true → absOf (fd m.fr m.to_) ≤ 1 := fun h => att_king h hc.1
   split at hr
   ·rename_i e
    have hA : rAttB p m.fr m.to_ = false := by
     rw [Bool.eq_false_iff]; intro h
     have := hnA h
     unfold fd absOf at this
     split at this <;> omega
    have hcs := hcas hc.1 hA
    unfold rCastleB at hcs
    dsimp only at hcs
    split at hcs
    ·try rw [if_pos e] at hcs
     simp only [Bool.and_eq_true] at hcs
     dsimp only at hr
     have hb := (freeAt_bare hcs.2).2.2
     rw [← e] at hb
     refine ⟨hc.1, hc.2, hbare hb (by rintro ⟨h, _⟩; omega), .inl ⟨e, ?_, hcs.1.1.2, (freeAt_bare hcs.1.2).2.2⟩⟩
     rw [if_pos hc, if_pos e, hr]
    ·cases hcs
   ·split at hr
    ·rename_i e0 e
     have hA : rAttB p m.fr m.to_ = false := by
      rw [Bool.eq_false_iff]; intro h
      have := hnA h
      unfold fd absOf at this
      split at this <;> omega
     have hcs := hcas hc.1 hA
     unfold rCastleB at hcs
     dsimp only at hcs
     split at hcs
     ·try rw [if_neg e0] at hcs
      simp only [Bool.and_eq_true] at hcs
      dsimp only at hr
      have hb := (freeAt_bare hcs.1.2).2.2
      rw [← e] at hb
      refine ⟨hc.1, hc.2, hbare hb (by rintro ⟨h, _⟩; omega), .inr ⟨e, ?_, hcs.1.1.1.2, (freeAt_bare hcs.1.1.2).2.2⟩⟩
      rw [if_pos hc, if_neg e0, if_pos e, hr]
     ·cases hcs
    ·cases hr
  ·cases hr
theorem putAll_one (p : Pos) (x y : Int) {t : Int} (t0 : 0 ≤ t) (t1 : t < 64) : putAll p x y [t] = p.put t x y := by
 unfold putAll; rw [if_pos ⟨t0, t1⟩]; rfl
theorem putAll_two (p : Pos) (x y : Int) {a t : Int} (t0 : 0 ≤ t) (t1 : t < 64) : putAll p x y [a, t] = (if 0 ≤ a ∧ a < 64 then p.put a x y else p).put t x y := by
 unfold putAll; rw [putAll_one _ _ _ t0 t1]
def basic (p : Pos) (m : Mv) (at_ be s : Int) : Pos := ((if 0 ≤ at_ ∧ at_ < 64 then p.put at_ 0 0 else p).put m.fr 0 0).put m.to_ be s
theorem stood_eq {p : Pos} {m : Mv} {k s at_ be : Int} (K : Known p m k s at_ be) (ha : at_ = takesOf p m k) (hb : be = beOf m k) :
 stood p m k s = if (rookOf p m k s).2.2 = true then ((basic p m at_ be s).put (rookOf p m k s).1 0 0).put (rookOf p m k s).2.1 4 s else basic p m at_ be s := by
 unfold stood basic
 rw [putAll_one _ _ _ K.t0 K.t1, putAll_two _ _ _ K.f0 K.f1, ← ha, ← hb]
 dsimp only
 split
 ·rename_i hr
  have hh := home_bd s
  obtain ⟨-, -, -, h | h⟩ := K.rook hr
  ·rw [h.2.1, putAll_one _ _ _ (by dsimp only; omega) (by dsimp only; omega), putAll_one _ _ _ (by dsimp only; omega) (by dsimp only; omega)]
  ·rw [h.2.1, putAll_one _ _ _ (by dsimp only; omega) (by dsimp only; omega), putAll_one _ _ _ (by dsimp only; omega) (by dsimp only; omega)]
 ·rfl
theorem Known.at_bd {p : Pos} {m : Mv} {k s at_ be : Int} (K : Known p m k s at_ be) : -1 ≤ at_ ∧ at_ < 64 ∧ at_ ≠ m.fr := by
 have h1 := K.f0; have h2 := K.f1; have h3 := K.t0; have h4 := K.t1; have h5 := K.ne
 rcases K.at0 with h | h | h
 ·omega
 ·omega
 ·have h6 := h.1; have h7 := h.2.2.2.2.2.1; omega
theorem put_kind (p : Pos) (t k s : Int) (i : Nat) : (p.put t k s).kind i = if i = t.toNat then k else p.kind i := rfl
theorem put_side (p : Pos) (t k s : Int) (i : Nat) : (p.put t k s).side i = if i = t.toNat then s else p.side i := rfl
theorem basic_kind {p : Pos} {m : Mv} {k s at_ be : Int} (K : Known p m k s at_ be) (i : Nat) : (basic p m at_ be s).kind i = if i = m.to_.toNat then be else if i = m.fr.toNat then 0 else if (i : Int) = at_ then 0 else p.kind i := by
 have := K.at_bd
 unfold basic
 rw [put_kind, put_kind]
 congr 2
 split
 ·rw [put_kind]
  by_cases e : (i : Int) = at_
  ·rw [if_pos e, if_pos (by omega)]
  ·rw [if_neg e, if_neg (by omega)]
 ·rw [if_neg (by omega)]
theorem basic_side {p : Pos} {m : Mv} {k s at_ be : Int} (K : Known p m k s at_ be) (i : Nat) : (basic p m at_ be s).side i = if i = m.to_.toNat then s else if i = m.fr.toNat then 0 else if (i : Int) = at_ then 0 else p.side i := by
 have := K.at_bd
 unfold basic
 rw [put_side, put_side]
 congr 2
 split
 ·rw [put_side]
  by_cases e : (i : Int) = at_
  ·rw [if_pos e, if_pos (by omega)]
  ·rw [if_neg e, if_neg (by omega)]
 ·rw [if_neg (by omega)]
theorem basic_total (f : Int → Int → Nat → Int) (hf : ∀ i, f 0 0 i = 0) {p : Pos} {m : Mv} {k s at_ be : Int} (K : Known p m k s at_ be) :
 total f (basic p m at_ be s) 64 = total f p 64 - (if at_ = -1 then 0 else f (p.kind at_.toNat) (p.side at_.toNat) at_.toNat) - f k s m.fr.toNat + f be s m.to_.toNat := by
 obtain ⟨b0, b1, b2⟩ := K.at_bd
 have h1 := K.f0; have h2 := K.f1; have h3 := K.t0; have h4 := K.t1; have h5 := K.ne
 unfold basic
 rw [total_put f _ be s K.t0 K.t1, total_put f _ 0 0 K.f0 K.f1, put_kind, put_side, if_neg (show ¬ m.to_.toNat = m.fr.toNat by omega), if_neg (show ¬ m.to_.toNat = m.fr.toNat by omega), hf]
 by_cases e : at_ = -1
 ·rw [if_neg (by omega), if_pos e, K.kind, K.side]
  have hb : bareB p m.to_ = true := by
   rcases K.at0 with h | h | h
   ·exact h.2
   ·omega
   ·omega
  obtain ⟨q1, q2⟩ := bare_iff.1 hb
  rw [q1, q2, hf]; omega
 ·rw [if_pos (by omega), if_neg e, total_put f p 0 0 (by omega) b1, hf]
  simp only [put_kind, put_side]
  rw [if_neg (show ¬ m.fr.toNat = at_.toNat by omega), if_neg (show ¬ m.fr.toNat = at_.toNat by omega), K.kind, K.side]
  have hz : f (if m.to_.toNat = at_.toNat then 0 else p.kind m.to_.toNat) (if m.to_.toNat = at_.toNat then 0 else p.side m.to_.toNat) m.to_.toNat = 0 := by
   rcases K.at0 with h | h | h
   ·omega
   ·rw [if_pos (by omega), if_pos (by omega), hf]
   ·obtain ⟨q1, q2⟩ := bare_iff.1 h.2.1
    rw [q1, q2]; simp [hf]
  rw [hz]; omega
theorem stood_total (f : Int → Int → Nat → Int) (hf : ∀ i, f 0 0 i = 0) (hr4 : ∀ s i j, f 4 s i = f 4 s j) {p : Pos} {m : Mv} {k s at_ be : Int} (K : Known p m k s at_ be) (ha : at_ = takesOf p m k) (hb : be = beOf m k) :
 total f (stood p m k s) 64 = total f p 64 - (if at_ = -1 then 0 else f (p.kind at_.toNat) (p.side at_.toNat) at_.toNat) - f k s m.fr.toNat + f be s m.to_.toNat := by
 rw [stood_eq K ha hb]
 split
 ·rename_i hr
  have hh := home_bd s
  obtain ⟨hk, hfr, hat, h | h⟩ := K.rook hr
  ·obtain ⟨e1, e2, e3, e4⟩ := h
   rw [e2]
   dsimp only
   rw [total_put f _ 4 s (by omega) (by omega), total_put f _ 0 0 (by omega) (by omega), hf, basic_total f hf K]
   simp only [put_kind, put_side]
   rw [basic_kind K, basic_side K, basic_kind K, basic_side K]
   simp only [standsB, Bool.and_eq_true, beq_iff_eq] at e3
   obtain ⟨q1, q2⟩ := bare_iff.1 e4
   have n1 : ¬ (homeOf s + 1).toNat = (homeOf s + 3).toNat := by omega
   have n2 : ¬ (homeOf s + 1).toNat = m.to_.toNat := by omega
   have n3 : ¬ (homeOf s + 1).toNat = m.fr.toNat := by omega
   have n4 : ¬ (((homeOf s + 1).toNat : Nat) : Int) = at_ := by omega
   have n5 : ¬ (homeOf s + 3).toNat = m.to_.toNat := by omega
   have n6 : ¬ (homeOf s + 3).toNat = m.fr.toNat := by omega
   have n7 : ¬ (((homeOf s + 3).toNat : Nat) : Int) = at_ := by omega
   simp only [n1, n2, n3, n4, n5, n6, n7, if_false]
   rw [q1, q2, hf, e3.1, e3.2, hr4 s (homeOf s + 3).toNat (homeOf s + 1).toNat]; omega
  ·obtain ⟨e1, e2, e3, e4⟩ := h
   rw [e2]
   dsimp only
   rw [total_put f _ 4 s (by omega) (by omega), total_put f _ 0 0 (by omega) (by omega), hf, basic_total f hf K]
   simp only [put_kind, put_side]
   rw [basic_kind K, basic_side K, basic_kind K, basic_side K]
   simp only [standsB, Bool.and_eq_true, beq_iff_eq] at e3
   obtain ⟨q1, q2⟩ := bare_iff.1 e4
   have n1 : ¬ (homeOf s - 1).toNat = (homeOf s - 4).toNat := by omega
   have n2 : ¬ (homeOf s - 1).toNat = m.to_.toNat := by omega
   have n3 : ¬ (homeOf s - 1).toNat = m.fr.toNat := by omega
   have n4 : ¬ (((homeOf s - 1).toNat : Nat) : Int) = at_ := by omega
   have n5 : ¬ (homeOf s - 4).toNat = m.to_.toNat := by omega
   have n6 : ¬ (homeOf s - 4).toNat = m.fr.toNat := by omega
   have n7 : ¬ (((homeOf s - 4).toNat : Nat) : Int) = at_ := by omega
   simp only [n1, n2, n3, n4, n5, n6, n7, if_false]
   rw [q1, q2, hf, e3.1, e3.2, hr4 s (homeOf s - 4).toNat (homeOf s - 1).toNat]; omega
 ·exact basic_total f hf K
theorem stood_kind {p : Pos} {m : Mv} {k s at_ be : Int} (K : Known p m k s at_ be) (ha : at_ = takesOf p m k) (hb : be = beOf m k) (i : Nat) :
 (stood p m k s).kind i = if (rookOf p m k s).2.2 = true ∧ i = (rookOf p m k s).2.1.toNat then 4 else if (rookOf p m k s).2.2 = true ∧ i = (rookOf p m k s).1.toNat then 0 else if i = m.to_.toNat then be else if i = m.fr.toNat then 0 else if (i : Int) = at_ then 0 else p.kind i := by
 rw [stood_eq K ha hb]
 by_cases hr : (rookOf p m k s).2.2 = true
 ·rw [if_pos hr]; simp only [put_kind, hr, true_and]; rw [basic_kind K]
 ·rw [if_neg hr]; simp only [hr, false_and]; exact basic_kind K i
theorem stood_side {p : Pos} {m : Mv} {k s at_ be : Int} (K : Known p m k s at_ be) (ha : at_ = takesOf p m k) (hb : be = beOf m k) (i : Nat) :
 (stood p m k s).side i = if (rookOf p m k s).2.2 = true ∧ i = (rookOf p m k s).2.1.toNat then s else if (rookOf p m k s).2.2 = true ∧ i = (rookOf p m k s).1.toNat then 0 else if i = m.to_.toNat then s else if i = m.fr.toNat then 0 else if (i : Int) = at_ then 0 else p.side i := by
 rw [stood_eq K ha hb]
 by_cases hr : (rookOf p m k s).2.2 = true
 ·rw [if_pos hr]; simp only [put_side, hr, true_and]; rw [basic_side K]
 ·rw [if_neg hr]; simp only [hr, false_and]; exact basic_side K i
def kingF (s : Int) : Int → Int → Nat → Int := fun k sd _ => if k = 6 ∧ sd = s then 1 else 0
theorem kings_total (p : Pos) (s : Int) : ∀ n, kings p s n = total (kingF s) p n
 | 0 => rfl
 | n + 1 => by simp only [kings, total, kings_total p s n, kingF]
theorem other_other {s : Int} (h : s = 0 ∨ s = 1) : otherOf (otherOf s) = s := by rcases h with rfl | rfl <;> rfl
theorem check_of {p : Pos} {s a t : Int} (hs : s = 0 ∨ s = 1) (a0 : 0 ≤ a) (a1 : a < 64) (t0 : 0 ≤ t) (t1 : t < 64) (hk : p.kind t.toNat = 6) (ht : p.side t.toNat = s) (ha : p.side a.toNat = otherOf s) (hA : rAttB p a t = true) : checkB p s = true := by
 unfold checkB
 rw [if_pos hs]
 unfold attacked
 rw [List.any_eq_true]
 refine ⟨t, ?_, ?_⟩
 ·unfold findL
  rw [List.mem_map]
  exact ⟨t.toNat, by rw [List.mem_filter, List.mem_range]; exact ⟨by omega, by simp [hk, ht]⟩, by omega⟩
 ·rw [attackers_eq p _ t0 t1]
  have : a ∈ rToL p t (otherOf s) := by
   unfold rToL
   rw [List.mem_map]
   refine ⟨a.toNat, ?_, by omega⟩
   rw [List.mem_filter, List.mem_range]
   refine ⟨by omega, ?_⟩
   rw [Int.toNat_of_nonneg a0]; simp [ha, hA]
  cases h : rToL p t (otherOf s) with
  | nil => rw [h] at this; cases this
  | cons x r => rfl
theorem ck_not : ((List.range 16).all fun (c : Nat) => (List.range 16).all fun (l : Nat) => decide (0 ≤ notI c l ∧ notI c l ≤ 15) && [1, 2, 4, 8].all fun (b : Int) => !(notI c l / b % 2 == 1) || ((c : Int) / b % 2 == 1 && (l : Int) / b % 2 == 0)) = true := by decide +kernel
theorem not_at {c l : Int} (c0 : 0 ≤ c) (c1 : c ≤ 15) (l0 : 0 ≤ l) (l1 : l ≤ 15) : 0 ≤ notI c l ∧ notI c l ≤ 15 ∧ ∀ b ∈ [(1 : Int), 2, 4, 8], notI c l / b % 2 = 1 → c / b % 2 = 1 ∧ l / b % 2 = 0 := by
 have h1 := (List.all_eq_true.1 ck_not) c.toNat (List.mem_range.2 (by omega))
 have h2 := (List.all_eq_true.1 h1) l.toNat (List.mem_range.2 (by omega))
 rw [Int.toNat_of_nonneg c0, Int.toNat_of_nonneg l0, Bool.and_eq_true, decide_eq_true_eq] at h2
 refine ⟨h2.1.1, h2.1.2, fun b hb e => ?_⟩
 have h3 := (List.all_eq_true.1 h2.2) b hb
 rw [e] at h3
 simpa using h3
theorem ck_or : ((List.range 16).all fun (c : Nat) => (List.range 16).all fun (l : Nat) => decide (0 ≤ orI (orI 0 c) l ∧ orI (orI 0 c) l ≤ 15) && [1, 2, 4, 8].all fun (b : Int) => !(orI (orI 0 c) l / b % 2 == 0) || ((c : Int) / b % 2 == 0 && (l : Int) / b % 2 == 0)) = true := by decide +kernel
theorem lostOf_bd2 (s : Int) : 0 ≤ lostOf s ∧ lostOf s ≤ 15 := by
 unfold lostOf
 repeat' split
 all_goals omega
theorem lost_two (f t : Int) : 0 ≤ lostL [f, t] ∧ lostL [f, t] ≤ 15 ∧ ∀ b ∈ [(1 : Int), 2, 4, 8], lostL [f, t] / b % 2 = 0 → lostOf f / b % 2 = 0 ∧ lostOf t / b % 2 = 0 := by
 obtain ⟨f0, f1⟩ := lostOf_bd2 f
 obtain ⟨t0, t1⟩ := lostOf_bd2 t
 show 0 ≤ orI (orI 0 (lostOf f)) (lostOf t) ∧ orI (orI 0 (lostOf f)) (lostOf t) ≤ 15 ∧ ∀ b ∈ [(1 : Int), 2, 4, 8], orI (orI 0 (lostOf f)) (lostOf t) / b % 2 = 0 → _
 have h1 := (List.all_eq_true.1 ck_or) (lostOf f).toNat (List.mem_range.2 (by omega))
 have h2 := (List.all_eq_true.1 h1) (lostOf t).toNat (List.mem_range.2 (by omega))
 rw [Int.toNat_of_nonneg f0, Int.toNat_of_nonneg t0, Bool.and_eq_true, decide_eq_true_eq] at h2
 refine ⟨h2.1.1, h2.1.2, fun b hb e => ?_⟩
 have h3 := (List.all_eq_true.1 h2.2) b hb
 rw [e] at h3
 simpa using h3
theorem fixC_id {p : Pos} (h : castlesB p = true) : fixC p = p := by
 unfold castlesB at h
 rw [Bool.and_eq_true, decide_eq_true_eq] at h
 unfold fixC; rw [if_pos h.1]
structure Parts (p : Pos) : Prop where
 pieces : piecesB p = true
 castles : castlesB p = true
 over : overB p = true
 h0 : 0 ≤ p.half
 h1 : p.half ≤ 1024
 l0 : 1 ≤ p.full
 l1 : p.full ≤ 16384
 safe : checkB p (otherOf p.turn) = false
theorem parts_iff {p : Pos} : positionB p = true ↔ Parts p := by
 unfold positionB rightB
 simp only [Bool.and_eq_true, Bool.not_eq_true', decide_eq_true_eq]
 constructor
 ·rintro ⟨⟨⟨⟨h1, h2⟩, h3⟩, h4, h5, h6, h7⟩, h8⟩; exact ⟨h1, h2, h3, h4, h5, h6, h7, h8⟩
 ·rintro ⟨h1, h2, h3, h4, h5, h6, h7, h8⟩; exact ⟨⟨⟨⟨h1, h2⟩, h3⟩, h4, h5, h6, h7⟩, h8⟩
theorem pieces_iff {p : Pos} : piecesB p = true ↔ (∀ i, i < 64 → okSq p i = true) ∧ kings p 0 64 = 1 ∧ kings p 1 64 = 1 ∧ (p.turn = 0 ∨ p.turn = 1) := by
 unfold piecesB
 simp only [Bool.and_eq_true, beq_iff_eq, Bool.or_eq_true, List.all_eq_true, List.mem_range, and_assoc]
theorem legal_parts {p : Pos} {m : Mv} (hm : m ∈ legalL p) : m ∈ AllL p ∧ takenE p m = 0 ∧ checkB (movedP p m) p.turn = false := by
 unfold legalL at hm
 rw [List.mem_filter] at hm
 obtain ⟨hm, hl⟩ := hm
 unfold legalB at hl
 simp only [Bool.and_eq_true, beq_iff_eq, Bool.not_eq_true'] at hl
 exact ⟨hm, hl.2.1, hl.2.2⟩
theorem okSq_iff {p : Pos} {i : Nat} : okSq p i = true ↔ (p.kind i = 0 ∧ p.side i = 0) ∨ (1 ≤ p.kind i ∧ p.kind i ≤ 6 ∧ (p.side i = 0 ∨ p.side i = 1) ∧ ¬ ((i < 8 ∨ 56 ≤ i) ∧ p.kind i = 1)) := by
 unfold okSq mayB
 simp only [Bool.or_eq_true, Bool.and_eq_true, beq_iff_eq, decide_eq_true_eq, Bool.not_eq_true', Bool.and_eq_false_iff, Bool.or_eq_false_iff, decide_eq_false_iff_not, beq_eq_false_iff_ne]
 omega
theorem no_king {p : Pos} {m : Mv} {k s at_ be : Int} (H : Parts p) (K : Known p m k s at_ be) (h : at_ ≠ -1) : p.kind at_.toNat ≠ 6 := by
 intro h6
 obtain ⟨hok, -, -, -⟩ := pieces_iff.1 H.pieces
 have hs := K.s0
 rcases K.at0 with h' | ⟨e, hb, hsd, hA⟩ | h'
 ·exact h h'.1
 ·rw [e] at h6
  have ho := okSq_iff.1 (hok m.to_.toNat (by have := K.t0; have := K.t1; omega))
  have hsd2 : p.side m.to_.toNat = otherOf s := by
   unfold otherOf; split <;> omega
  have := check_of (p := p) (s := otherOf s) (a := m.fr) (t := m.to_) (by unfold otherOf; split <;> omega) K.f0 K.f1 K.t0 K.t1 h6 hsd2 (by rw [other_other hs, K.side]) hA
  rw [← K.turn] at this
  rw [H.safe] at this; cases this
 ·rw [h'.2.2.2.1] at h6; cases h6
theorem be_bd {p : Pos} {m : Mv} {k s at_ be : Int} (K : Known p m k s at_ be) : 1 ≤ be ∧ be ≤ 6 ∧ (be = 6 ↔ k = 6) ∧ (be = 1 → k = 1 ∧ ¬ m.to_ / 8 = 7 * (1 - s)) := by
 have h0 := K.k0; have h1 := K.k1
 rcases K.be0 with h | h
 ·rw [h.1]; exact ⟨h0, h1, Iff.rfl, fun e => ⟨e, fun e' => h.2.1 ⟨e, e'⟩⟩⟩
 ·omega
theorem pawn_to {p : Pos} {m : Mv} {k s at_ be : Int} (H : Parts p) (K : Known p m k s at_ be) (hb : be = 1) : 8 ≤ m.to_ ∧ m.to_ < 56 := by
 obtain ⟨-, -, -, h⟩ := be_bd K
 obtain ⟨hk, hl⟩ := h hb
 obtain ⟨hok, -, -, -⟩ := pieces_iff.1 H.pieces
 have ho := okSq_iff.1 (hok m.fr.toNat (by have := K.f0; have := K.f1; omega))
 rw [K.kind] at ho
 have f0 := K.f0; have f1 := K.f1; have t0 := K.t0; have t1 := K.t1
 have hs := K.s0
 rcases K.pawn hk with h | h
 ·rcases hs with rfl | rfl <;> omega
 ·have h2 := h.1
  unfold onOfS at h2
  rcases hs with rfl | rfl <;> simp at h2 <;> omega
theorem moved_eq {p : Pos} {m : Mv} (H : Parts p) (hE : takenE p m = 0) : movedP p m = madeP p m (p.kind m.fr.toNat) (p.side m.fr.toNat) := by
 unfold movedP moveP
 rw [if_pos hE, fixC_id H.castles]
theorem upTo_bd {a b : Int} (a0 : 0 ≤ a) (a1 : a < 100000) (b0 : 0 ≤ b) (b1 : b ≤ 100000) : upTo a b = (if a < b then a else b) + 1 := by
 unfold upTo wrap64
 split <;> omega
theorem made_pieces {p : Pos} {m : Mv} {k s at_ be : Int} (H : Parts p) (K : Known p m k s at_ be) (ha : at_ = takesOf p m k) (hb : be = beOf m k) : piecesB (madeP p m k s) = true := by
 obtain ⟨hok, hk0, hk1, ht⟩ := pieces_iff.1 H.pieces
 obtain ⟨b0, b1, b2, b3⟩ := be_bd K
 refine pieces_iff.2 ⟨fun i hi => ?_, ?_, ?_, ?_⟩
 ·rw [okSq_iff]
  show ((stood p m k s).kind i = 0 ∧ (stood p m k s).side i = 0) ∨ (1 ≤ (stood p m k s).kind i ∧ (stood p m k s).kind i ≤ 6 ∧ ((stood p m k s).side i = 0 ∨ (stood p m k s).side i = 1) ∧ ¬ ((i < 8 ∨ 56 ≤ i) ∧ (stood p m k s).kind i = 1))
  rw [stood_kind K ha hb, stood_side K ha hb]
  have hs := K.s0
  split
  ·right; omega
  ·split
   ·left; exact ⟨rfl, rfl⟩
   ·split
    ·right
     refine ⟨b0, b1, hs, ?_⟩
     rintro ⟨h1, h2⟩
     have := pawn_to H K h2
     omega
    ·split
     ·left; exact ⟨rfl, rfl⟩
     ·split
      ·left; exact ⟨rfl, rfl⟩
      ·exact okSq_iff.1 (hok i hi)
 all_goals try
  rw [kings_total]
  show total (kingF _) (stood p m k s) 64 = 1
  rw [stood_total (kingF _) (by intro i; simp [kingF]) (by intro s i j; simp [kingF]) K ha hb, ← kings_total]
  have hz : ∀ s', (if at_ = -1 then 0 else kingF s' (p.kind at_.toNat) (p.side at_.toNat) at_.toNat) = 0 := by
   intro s'
   split
   ·rfl
   ·rename_i h
    have := no_king H K h
    unfold kingF; rw [if_neg (fun h => this h.1)]
  rw [hz]
  have he : ∀ s', kingF s' k s m.fr.toNat = kingF s' be s m.to_.toNat := by
   intro s'
   unfold kingF
   by_cases h6 : k = 6
   ·rw [h6, b2.2 h6]
   ·rw [if_neg (fun h => h6 h.1), if_neg (fun h => h6 (b2.1 h.1))]
  rw [he]; omega
 show otherOf p.turn = 0 ∨ otherOf p.turn = 1
 unfold otherOf; split <;> omega
theorem castle_iff {p : Pos} : castlesB p = true ↔ 0 ≤ p.castle ∧ p.castle ≤ 15 ∧
 (p.castle / 1 % 2 = 1 → standsB p 4 0 7 = true ∧ standsB p 6 0 4 = true) ∧ (p.castle / 2 % 2 = 1 → standsB p 4 0 0 = true ∧ standsB p 6 0 4 = true) ∧
 (p.castle / 4 % 2 = 1 → standsB p 4 1 63 = true ∧ standsB p 6 1 60 = true) ∧ (p.castle / 8 % 2 = 1 → standsB p 4 1 56 = true ∧ standsB p 6 1 60 = true) := by
 have e : ∀ x : Int, (x % 2 == 0) = true ↔ ¬ x % 2 = 1 := by intro x; rw [beq_iff_eq]; omega
 have e0 : castleAt p 0 = ((p.castle / 1 % 2 == 0) || (standsB p 4 0 7 && standsB p 6 0 4)) := rfl
 have e1 : castleAt p 1 = ((p.castle / 2 % 2 == 0) || (standsB p 4 0 0 && standsB p 6 0 4)) := rfl
 have e2 : castleAt p 2 = ((p.castle / 4 % 2 == 0) || (standsB p 4 1 63 && standsB p 6 1 60)) := rfl
 have e3 : castleAt p 3 = ((p.castle / 8 % 2 == 0) || (standsB p 4 1 56 && standsB p 6 1 60)) := rfl
 unfold castlesB
 rw [e0, e1, e2, e3]
 simp only [Bool.and_eq_true, Bool.or_eq_true, decide_eq_true_eq, e]
 constructor
 ·rintro ⟨⟨h0, h1⟩, ⟨⟨h2, h3⟩, h4⟩, h5⟩
  exact ⟨h0, h1, fun h => h2.resolve_left (fun c => c h), fun h => h3.resolve_left (fun c => c h), fun h => h4.resolve_left (fun c => c h), fun h => h5.resolve_left (fun c => c h)⟩
 ·rintro ⟨h0, h1, h2, h3, h4, h5⟩
  refine ⟨⟨h0, h1⟩, ⟨⟨?_, ?_⟩, ?_⟩, ?_⟩
  ·by_cases h : p.castle / 1 % 2 = 1
   ·exact .inr (h2 h)
   ·exact .inl h
  ·by_cases h : p.castle / 2 % 2 = 1
   ·exact .inr (h3 h)
   ·exact .inl h
  ·by_cases h : p.castle / 4 % 2 = 1
   ·exact .inr (h4 h)
   ·exact .inl h
  ·by_cases h : p.castle / 8 % 2 = 1
   ·exact .inr (h5 h)
   ·exact .inl h
theorem stood_stays {p : Pos} {m : Mv} {k s at_ be : Int} (K : Known p m k s at_ be) (ha : at_ = takesOf p m k) (hb : be = beOf m k) {x y t : Int} (t0 : 0 ≤ t) (hf : t ≠ m.fr) (ht : t ≠ m.to_)
 (he : t = 7 ∨ t = 4 ∨ t = 0 ∨ t = 63 ∨ t = 60 ∨ t = 56) (hr : (rookOf p m k s).2.2 = true → (homeOf s = 4 → 56 ≤ t) ∧ (homeOf s = 60 → t ≤ 7)) (h : standsB p x y t = true) : standsB (stood p m k s) x y t = true := by
 unfold standsB at h ⊢
 rw [stood_kind K ha hb, stood_side K ha hb]
 have f0 := K.f0; have f1 := K.f1; have t0' := K.t0; have t1 := K.t1
 have hat : ¬ ((t.toNat : Nat) : Int) = at_ := by
  rcases K.at0 with h | h | h
  ·omega
  ·omega
  ·have := h.2.2.2.2.2.2.1; omega
 have hR : ∀ q : Int, ((rookOf p m k s).2.2 = true → q = (rookOf p m k s).1 ∨ q = (rookOf p m k s).2.1) → ¬ ((rookOf p m k s).2.2 = true ∧ t.toNat = q.toNat) := by
  rintro q hq ⟨h1, h2⟩
  have hh := home_bd s
  obtain ⟨hl, hg⟩ := hr h1
  obtain ⟨-, hfr, -, h | h⟩ := K.rook h1
  ·have := hq h1; rw [h.2.1] at this; dsimp only at this; omega
  ·have := hq h1; rw [h.2.1] at this; dsimp only at this; omega
 rw [if_neg (hR _ (fun _ => .inr rfl)), if_neg (hR _ (fun _ => .inl rfl)), if_neg (show ¬ t.toNat = m.to_.toNat by omega), if_neg (show ¬ t.toNat = m.fr.toNat by omega), if_neg hat,
  if_neg (hR _ (fun _ => .inr rfl)), if_neg (hR _ (fun _ => .inl rfl)), if_neg (show ¬ t.toNat = m.to_.toNat by omega), if_neg (show ¬ t.toNat = m.fr.toNat by omega), if_neg hat]
 exact h
theorem lost_no (s : Int) : (lostOf s / 1 % 2 = 0 → s ≠ 4 ∧ s ≠ 7) ∧ (lostOf s / 2 % 2 = 0 → s ≠ 4 ∧ s ≠ 0) ∧ (lostOf s / 4 % 2 = 0 → s ≠ 60 ∧ s ≠ 63) ∧ (lostOf s / 8 % 2 = 0 → s ≠ 60 ∧ s ≠ 56) := by
 refine ⟨?_, ?_, ?_, ?_⟩ <;> intro h <;> constructor <;> rintro rfl <;> revert h <;> decide
theorem made_castles {p : Pos} {m : Mv} {k s at_ be : Int} (H : Parts p) (K : Known p m k s at_ be) (ha : at_ = takesOf p m k) (hb : be = beOf m k) : castlesB (madeP p m k s) = true := by
 obtain ⟨c0, c1, w0, w1, w2, w3⟩ := castle_iff.1 H.castles
 obtain ⟨l0, l1, hl⟩ := lost_two m.fr m.to_
 obtain ⟨n0, n1, hn⟩ := not_at c0 c1 l0 l1
 have lf := lost_no m.fr
 have lt := lost_no m.to_
 have hR : ∀ t : Int, ((t = 7 ∨ t = 4 ∨ t = 0) → m.fr ≠ 4) → ((t = 63 ∨ t = 60 ∨ t = 56) → m.fr ≠ 60) → (t = 7 ∨ t = 4 ∨ t = 0 ∨ t = 63 ∨ t = 60 ∨ t = 56) →
  (rookOf p m k s).2.2 = true → (homeOf s = 4 → 56 ≤ t) ∧ (homeOf s = 60 → t ≤ 7) := by
  intro t h1 h2 h3 hr
  obtain ⟨-, hfr, -, -⟩ := K.rook hr
  constructor <;> intro hh <;> rw [hh] at hfr
  ·rcases h3 with h | h | h | h | h | h <;> first | omega | exact absurd hfr (h1 (by omega))
  ·rcases h3 with h | h | h | h | h | h <;> first | omega | exact absurd hfr (h2 (by omega))
 have go : ∀ (x y t : Int), (t = 7 ∨ t = 4 ∨ t = 0 ∨ t = 63 ∨ t = 60 ∨ t = 56) → t ≠ m.fr → t ≠ m.to_ → ((t = 7 ∨ t = 4 ∨ t = 0) → m.fr ≠ 4) → ((t = 63 ∨ t = 60 ∨ t = 56) → m.fr ≠ 60) → standsB p x y t = true → standsB (madeP p m k s) x y t = true := by
  intro x y t h3 hf ht h1 h2 h
  exact stood_stays K ha hb (by omega) hf ht h3 (hR t h1 h2 h3) h
 rw [castle_iff]
 show 0 ≤ notI p.castle (lostL [m.fr, m.to_]) ∧ notI p.castle (lostL [m.fr, m.to_]) ≤ 15 ∧ (notI p.castle (lostL [m.fr, m.to_]) / 1 % 2 = 1 → _) ∧ (notI p.castle (lostL [m.fr, m.to_]) / 2 % 2 = 1 → _) ∧ (notI p.castle (lostL [m.fr, m.to_]) / 4 % 2 = 1 → _) ∧ (notI p.castle (lostL [m.fr, m.to_]) / 8 % 2 = 1 → _)
 refine ⟨n0, n1, fun h => ?_, fun h => ?_, fun h => ?_, fun h => ?_⟩
 ·obtain ⟨q1, q2⟩ := hn 1 (by simp) h
  obtain ⟨q3, q4⟩ := hl 1 (by simp) q2
  have a := lf.1 q3; have b := lt.1 q4; have c := w0 q1
  exact ⟨go _ _ _ (by omega) (by omega) (by omega) (by omega) (by omega) c.1, go _ _ _ (by omega) (by omega) (by omega) (by omega) (by omega) c.2⟩
 ·obtain ⟨q1, q2⟩ := hn 2 (by simp) h
  obtain ⟨q3, q4⟩ := hl 2 (by simp) q2
  have a := lf.2.1 q3; have b := lt.2.1 q4; have c := w1 q1
  exact ⟨go _ _ _ (by omega) (by omega) (by omega) (by omega) (by omega) c.1, go _ _ _ (by omega) (by omega) (by omega) (by omega) (by omega) c.2⟩
 ·obtain ⟨q1, q2⟩ := hn 4 (by simp) h
  obtain ⟨q3, q4⟩ := hl 4 (by simp) q2
  have a := lf.2.2.1 q3; have b := lt.2.2.1 q4; have c := w2 q1
  exact ⟨go _ _ _ (by omega) (by omega) (by omega) (by omega) (by omega) c.1, go _ _ _ (by omega) (by omega) (by omega) (by omega) (by omega) c.2⟩
 ·obtain ⟨q1, q2⟩ := hn 8 (by simp) h
  obtain ⟨q3, q4⟩ := hl 8 (by simp) q2
  have a := lf.2.2.2 q3; have b := lt.2.2.2 q4; have c := w3 q1
  exact ⟨go _ _ _ (by omega) (by omega) (by omega) (by omega) (by omega) c.1, go _ _ _ (by omega) (by omega) (by omega) (by omega) (by omega) c.2⟩
theorem step_up {t r : Int} (t0 : 0 ≤ t) (t1 : t < 64) (h0 : 0 ≤ t + 8 * r) (h1 : t + 8 * r < 64) : stepOf t 0 r = t + 8 * r := by
 unfold stepOf onOf
 rw [if_pos (show 0 ≤ t ∧ t < 64 from ⟨t0, t1⟩)]
 unfold numOf
 dsimp only
 rw [if_pos (by omega)]; omega
theorem made_over {p : Pos} {m : Mv} {k s at_ be : Int} (H : Parts p) (K : Known p m k s at_ be) (ha : at_ = takesOf p m k) (hb : be = beOf m k) : overB (madeP p m k s) = true := by
 unfold overB
 rw [Bool.or_eq_true]
 show decide (overOf m k s = -1) = true ∨ _
 cases hl : longB m k s
 ·left
  unfold overOf
  rw [hl]; rfl
 ·right
  have ho : (madeP p m k s).over = (m.fr + m.to_) / 2 := by
   show overOf m k s = _
   unfold overOf; rw [hl]; rfl
  have htn : (madeP p m k s).turn = otherOf s := by show otherOf p.turn = _; rw [K.turn]
  have hs := K.s0
  have f0 := K.f0; have f1 := K.f1; have t0 := K.t0; have t1 := K.t1
  unfold longB at hl
  rw [decide_eq_true_eq] at hl
  obtain ⟨hk, htu, hrf, hrt⟩ := hl
  have hfile : m.fr % 8 = m.to_ % 8 := by
   unfold turnsOf fileOf at htu
   rw [if_pos ⟨t0, t1⟩, if_pos ⟨f0, f1⟩] at htu; omega
  unfold rankOf at hrf hrt
  rw [if_pos ⟨f0, f1⟩] at hrf
  rw [if_pos ⟨t0, t1⟩] at hrt
  have hat := K.quiet hk hfile
  have hhalf : (madeP p m k s).half = 0 := by
   show halfOf p m k = 0
   unfold halfOf quietB; rw [hk]; simp
  have hbe : be = 1 := by
   rcases K.be0 with h | h
   ·rw [h.1, hk]
   ·rcases hs with rfl | rfl <;> omega
  have hnr : ¬ (rookOf p m k s).2.2 = true := by
   intro h; have := (K.rook h).1; omega
  have hSK : ∀ i, (madeP p m k s).kind i = if i = m.to_.toNat then be else if i = m.fr.toNat then 0 else if (i : Int) = at_ then 0 else p.kind i := by
   intro i; show (stood p m k s).kind i = _; rw [stood_kind K ha hb, if_neg (fun h => hnr h.1), if_neg (fun h => hnr h.1)]
  have hSS : ∀ i, (madeP p m k s).side i = if i = m.to_.toNat then s else if i = m.fr.toNat then 0 else if (i : Int) = at_ then 0 else p.side i := by
   intro i; show (stood p m k s).side i = _; rw [stood_side K ha hb, if_neg (fun h => hnr h.1), if_neg (fun h => hnr h.1)]
  have hpw := K.pawn hk
  rw [ho, hhalf]
  unfold overRank overOn
  rw [htn]
  rcases hs with rfl | rfl
  ·simp only [show ¬ ((0 : Int) = 1) by decide, if_false] at hrf hrt
   have hmid : m.to_ = m.fr + 16 ∧ bareB p (m.fr + 8) = true := by
    rcases hpw with h | h
    ·omega
    ·have := h.1; have h3 := h.2.2.1; unfold onOfS at this h3; simp at this h3; exact ⟨by omega, h3⟩
   have hm2 : (m.fr + m.to_) / 2 = m.fr + 8 := by omega
   obtain ⟨q1, q2⟩ := bare_iff.1 hmid.2
   rw [hm2]
   have ex1 : otherOf (0 : Int) = 1 := rfl
   have ex2 : otherOf (1 : Int) = 0 := rfl
   rw [ex1, ex2]
   simp only [if_true, show (- (-1 : Int)) = 1 by decide]
   rw [step_up (by omega) (by omega) (by omega) (by omega), step_up (by omega) (by omega) (by omega) (by omega)]
   unfold rankOf standsB
   rw [if_pos (show 0 ≤ m.fr + 8 ∧ m.fr + 8 < 64 by omega)]
   simp only [hSK, hSS]
   rw [if_neg (show ¬ (m.fr + 8).toNat = m.to_.toNat by omega), if_neg (show ¬ (m.fr + 8).toNat = m.fr.toNat by omega), if_neg (show ¬ (((m.fr + 8).toNat : Nat) : Int) = at_ by omega), q1,
    if_neg (show ¬ (m.fr + 8).toNat = m.to_.toNat by omega), if_neg (show ¬ (m.fr + 8).toNat = m.fr.toNat by omega), if_neg (show ¬ (((m.fr + 8).toNat : Nat) : Int) = at_ by omega), q2,
    if_neg (show ¬ (m.fr + 8 + 8 * -1).toNat = m.to_.toNat by omega), if_pos (show (m.fr + 8 + 8 * -1).toNat = m.fr.toNat by omega),
    if_neg (show ¬ (m.fr + 8 + 8 * -1).toNat = m.to_.toNat by omega), if_pos (show (m.fr + 8 + 8 * -1).toNat = m.fr.toNat by omega),
    if_pos (show (m.fr + 8 + 8 * 1).toNat = m.to_.toNat by omega), if_pos (show (m.fr + 8 + 8 * 1).toNat = m.to_.toNat by omega), hbe]
   have : (m.fr + 8) / 8 = 2 := by omega
   rw [this]; rfl
  ·simp only [if_true] at hrf hrt
   have hmid : m.to_ = m.fr - 16 ∧ bareB p (m.fr - 8) = true := by
    rcases hpw with h | h
    ·omega
    ·have := h.1; have h3 := h.2.2.1; unfold onOfS at this h3; simp at this h3; exact ⟨by omega, by rw [show m.fr - 8 = m.fr + -8 by omega]; exact h3⟩
   have hm2 : (m.fr + m.to_) / 2 = m.fr - 8 := by omega
   obtain ⟨q1, q2⟩ := bare_iff.1 hmid.2
   rw [hm2]
   have ex1 : otherOf (0 : Int) = 1 := rfl
   have ex2 : otherOf (1 : Int) = 0 := rfl
   rw [ex2, ex1]
   simp only [show ¬ ((0 : Int) = 1) by decide, if_false]
   rw [step_up (by omega) (by omega) (by omega) (by omega), step_up (by omega) (by omega) (by omega) (by omega)]
   unfold rankOf standsB
   rw [if_pos (show 0 ≤ m.fr - 8 ∧ m.fr - 8 < 64 by omega)]
   simp only [hSK, hSS]
   rw [if_neg (show ¬ (m.fr - 8).toNat = m.to_.toNat by omega), if_neg (show ¬ (m.fr - 8).toNat = m.fr.toNat by omega), if_neg (show ¬ (((m.fr - 8).toNat : Nat) : Int) = at_ by omega), q1,
    if_neg (show ¬ (m.fr - 8).toNat = m.to_.toNat by omega), if_neg (show ¬ (m.fr - 8).toNat = m.fr.toNat by omega), if_neg (show ¬ (((m.fr - 8).toNat : Nat) : Int) = at_ by omega), q2,
    if_neg (show ¬ (m.fr - 8 + 8 * 1).toNat = m.to_.toNat by omega), if_pos (show (m.fr - 8 + 8 * 1).toNat = m.fr.toNat by omega),
    if_neg (show ¬ (m.fr - 8 + 8 * 1).toNat = m.to_.toNat by omega), if_pos (show (m.fr - 8 + 8 * 1).toNat = m.fr.toNat by omega),
    if_pos (show (m.fr - 8 + 8 * -1).toNat = m.to_.toNat by omega), if_pos (show (m.fr - 8 + 8 * -1).toNat = m.to_.toNat by omega), hbe]
   have : (m.fr - 8) / 8 = 5 := by omega
   rw [this]; rfl
theorem legal_keeps {p : Pos} {m : Mv} (hp : positionB p = true) (hm : m ∈ legalL p) : positionB (movedP p m) = true := by
 have H := parts_iff.1 hp
 obtain ⟨hA, hE, hC⟩ := legal_parts hm
 have K := known H.over hA hE
 rw [parts_iff]
 have hs := K.s0
 have e := moved_eq H hE
 have htn : (madeP p m (p.kind m.fr.toNat) (p.side m.fr.toNat)).turn = otherOf p.turn := rfl
 have h0 := H.h0; have h1 := H.h1; have l0 := H.l0; have l1 := H.l1
 have hsafe : checkB (movedP p m) (otherOf (movedP p m).turn) = false := by
  rw [e, htn, ← e, other_other (by rw [K.turn]; exact hs)]; exact hC
 rw [e] at hsafe ⊢
 have hhalf : 0 ≤ halfOf p m (p.kind m.fr.toNat) ∧ halfOf p m (p.kind m.fr.toNat) ≤ 1024 := by
  unfold halfOf
  split
  ·rw [upTo_bd (by omega) (by omega) h0 (by omega)]; split <;> omega
  ·omega
 have hfull : 1 ≤ fullOf p ∧ fullOf p ≤ 16384 := by
  unfold fullOf
  split
  ·rw [upTo_bd (by omega) (by omega) (by omega) (by omega)]; split <;> omega
  ·omega
 exact ⟨made_pieces H K rfl rfl, made_castles H K rfl rfl, made_over H K rfl rfl, hhalf.1, hhalf.2, hfull.1, hfull.2, hsafe⟩
theorem rIs8_any (s : Int) (w : World) : Calls Tryz.prog 116 #[.int .i64 s] w (Ret (.bool (isSq s)) w) := by
 go_enter Tryz.func116, Tryz.ntmps116
 go_wp2
 all_goals (go_ret; exact Ret.mk' (vbool (by rw [Bool.eq_iff_iff]; simp [isSq]; omega)) (Ext.auto))
theorem rLost_any (s : Int) (w : World) : Calls Tryz.prog 122 #[.int .i64 s] w (Ret (.int .i64 (lostOf s)) w) := by
 have HE := hid (show lostOf s = (if s = 4 then 3 else if s = 7 then 1 else if s = 0 then 2 else if s = 60 then 12 else if s = 63 then 4 else if s = 56 then 8 else 0) from rfl)
 go_enter Tryz.func122, Tryz.ntmps122
 go_wp2
 all_goals (go_ret; exact Ret.mk' (vint (by rw [HE.out]; go_light; simp_all)) (Ext.auto))
theorem rCas8_any (p : Pos) (w : World) (h0 : 0 ≤ p.castle) (h1 : p.castle ≤ 15) : Calls Tryz.prog 121 #[.agg (posCells p)] w (Ret (.int .i64 p.castle) w) := by
 go_enter Tryz.func121, Tryz.ntmps121
 go_wp2
 go_ret; exact Ret.mk' rfl (Ext.auto)
theorem rLong_any (m : Mv) (k s : Int) (w : World) (f0 : 0 ≤ m.fr) (f1 : m.fr < 64) (t0 : 0 ≤ m.to_) (t1 : m.to_ < 64) (hs : s = 0 ∨ s = 1) :
 Calls Tryz.prog 123 #[.agg #[.int .i64 k, .int .i64 s], .agg #[.int .i64 m.fr, .int .i64 m.to_, .int .i64 m.be]] w (Ret (.bool (longB m k s)) w) := by
 have h1 : m.fr.tmod 8 = m.fr % 8 := by rw [Int.tmod_eq_emod_of_nonneg f0]
 have h2 : m.to_.tmod 8 = m.to_ % 8 := by rw [Int.tmod_eq_emod_of_nonneg t0]
 have h3 : m.fr.tdiv 8 = m.fr / 8 := by rw [Int.tdiv_eq_ediv_of_nonneg f0]
 have h4 : m.to_.tdiv 8 = m.to_ / 8 := by rw [Int.tdiv_eq_ediv_of_nonneg t0]
 have g1 : fileOf m.fr = m.fr % 8 := if_pos ⟨f0, f1⟩
 have g2 : fileOf m.to_ = m.to_ % 8 := if_pos ⟨t0, t1⟩
 have g3 : rankOf m.fr = m.fr / 8 := if_pos ⟨f0, f1⟩
 have g4 : rankOf m.to_ = m.to_ / 8 := if_pos ⟨t0, t1⟩
 have HE := hid (show ∀ k s, longB m k s = decide (k = 1 ∧ m.fr % 8 = m.to_ % 8 ∧ m.fr / 8 = (if s = 1 then 6 else 1) ∧ m.to_ / 8 = (if s = 1 then 4 else 3)) by
  intro k s
  unfold longB turnsOf
  rw [g1, g2, g3, g4]
  congr 1
  rw [eq_iff_iff]
  constructor
  ·rintro ⟨a, b, c, d⟩; exact ⟨a, by omega, c, d⟩
  ·rintro ⟨a, b, c, d⟩; exact ⟨a, by omega, c, d⟩)
 clear g1 g2 g3 g4
 rcases hs with rfl | rfl
 ·go_enter Tryz.func123, Tryz.ntmps123
  go_wp2
  all_goals (go_ret; exact Ret.mk' (vbool (by rw [HE.out]; go_light; rw [Bool.eq_iff_iff]; simp at *; omega)) (Ext.auto))
 ·go_enter Tryz.func123, Tryz.ntmps123
  go_wp2
  all_goals (go_ret; exact Ret.mk' (vbool (by rw [HE.out]; go_light; rw [Bool.eq_iff_iff]; simp at *; omega)) (Ext.auto))
def overC (p : Pos) (m : Mv) : Bool := p.kind m.fr.toNat == 1 && m.fr % 8 != m.to_ % 8 && m.to_ == p.over && bareB p m.to_
theorem rOver8_any (p : Pos) (m : Mv) (w : World) (f0 : 0 ≤ m.fr) (f1 : m.fr < 64) (t0 : 0 ≤ m.to_) (t1 : m.to_ < 64) :
 Calls Tryz.prog 166 #[.agg (posCells p), .agg #[.int .i64 m.fr, .int .i64 m.to_, .int .i64 m.be]] w (Ret (.bool (overC p m)) w) := by
 have h1 : m.fr.tmod 8 = m.fr % 8 := by rw [Int.tmod_eq_emod_of_nonneg f0]
 have h2 : m.to_.tmod 8 = m.to_ % 8 := by rw [Int.tmod_eq_emod_of_nonneg t0]
 have f2 : m.fr.toNat < 64 := by omega
 have t2 : m.to_.toNat < 64 := by omega
 have HE := hid (show overC p m = (p.kind m.fr.toNat == 1 && m.fr % 8 != m.to_ % 8 && m.to_ == p.over && (p.kind m.to_.toNat == 0 && p.side m.to_.toNat == 0)) from rfl)
 cases e1 : (p.kind m.fr.toNat == 1)
 ·rw [e1] at HE
  go_enter Tryz.func166, Tryz.ntmps166
  go_wp2
  all_goals (go_ret; exact Ret.mk' (vbool (by rw [HE.out]; rfl)) (Ext.auto))
 ·cases e2 : (m.fr % 8 != m.to_ % 8)
  ·rw [e1, e2] at HE
   go_enter Tryz.func166, Tryz.ntmps166
   go_wp2
   all_goals (go_ret; exact Ret.mk' (vbool (by rw [HE.out]; rfl)) (Ext.auto))
  ·cases e3 : (m.to_ == p.over)
   ·rw [e1, e2, e3] at HE
    go_enter Tryz.func166, Tryz.ntmps166
    go_wp2
    all_goals (go_ret; exact Ret.mk' (vbool (by rw [HE.out]; rfl)) (Ext.auto))
   ·rw [e1, e2, e3] at HE
    have HO := hid (show m.to_ = p.over by simpa using e3)
    go_enter Tryz.func166, Tryz.ntmps166
    go_wp2
    all_goals (go_ret; exact Ret.mk' (vbool (by rw [HE.out]; simp_all)) (Ext.auto))
structure CanAt (p : Pos) (m : Mv) : Prop where
 f0 : 0 ≤ m.fr
 f1 : m.fr < 64
 t0 : 0 ≤ m.to_
 t1 : m.to_ < 64
 ne : m.fr ≠ m.to_
 k0 : 1 ≤ p.kind m.fr.toNat
 k1 : p.kind m.fr.toNat ≤ 6
 st : p.side m.fr.toNat = p.turn
 s0 : p.turn = 0 ∨ p.turn = 1
 be : (p.kind m.fr.toNat = 1 ∧ m.to_ / 8 = 7 * (1 - p.turn) ∧ 2 ≤ m.be ∧ m.be ≤ 5) ∨ (¬ (p.kind m.fr.toNat = 1 ∧ m.to_ / 8 = 7 * (1 - p.turn)) ∧ m.be = 0)
theorem can_at {p : Pos} {m : Mv} (h : takenE p m = 0) : CanAt p m := by
 unfold takenE at h
 split at h
 ·rename_i hr
  split at h
  ·rename_i hc
   unfold rangeB at hr
   rw [decide_eq_true_eq] at hr
   obtain ⟨f0, f1, t0, t1, ne⟩ := hr
   have hk : rankOf m.to_ = m.to_ / 8 := if_pos ⟨t0, t1⟩
   simp only [canB, canOf, decide_eq_true_eq, hk] at hc
   obtain ⟨k0, k1, st, s0, be⟩ := hc
   rw [st] at s0 be
   exact ⟨f0, f1, t0, t1, ne, k0, k1, st, s0, be⟩
  ·cases h
 ·cases h
theorem rCan_any (p : Pos) (m : Mv) (w : World) (h : takenE p m = 0) :
 Calls Tryz.prog 117 #[.agg (posCells p), .agg #[.int .i64 m.fr, .int .i64 m.to_, .int .i64 m.be]] w (Ret (.bool true) w) := by
 have H := can_at h
 obtain ⟨f0, f1, t0, t1, ne, k0, k1, st, s0, be⟩ := H
 have h4 : m.to_.tdiv 8 = m.to_ / 8 := by rw [Int.tdiv_eq_ediv_of_nonneg t0]
 have f2 : m.fr.toNat < 64 := by omega
 have hm : mayB (p.kind m.fr.toNat) (p.side m.fr.toNat) = true := by simp [mayB, k0, k1, st, s0]
 clear h
 rcases s0 with e | e
 ·rw [e] at st be
  rw [st] at hm
  rcases be with ⟨b1, b2, b3, b4⟩ | ⟨b1, b2⟩
  ·have b2 : m.to_ / 8 = 7 := by omega
   rw [b1] at hm k0 k1
   go_enter Tryz.func117, Tryz.ntmps117
   go_wp2_with (first | (go_at_call 165; with_reducible refine arm (rMay_any _ _ _) fun w1 hx hxc hxf hxb hxs => ?_; (try have := sW w w1)))
   all_goals (go_ret; exact Ret.mk' rfl (Ext.auto))
  ·by_cases b3 : p.kind m.fr.toNat = 1
   ·have b5 : (m.to_ / 8 == 7) = false := by simp; omega
    rw [b3] at hm k0 k1
    clear b1
    go_enter Tryz.func117, Tryz.ntmps117
    go_wp2_with (first | (go_at_call 165; with_reducible refine arm (rMay_any _ _ _) fun w1 hx hxc hxf hxb hxs => ?_; (try have := sW w w1)))
    all_goals (go_ret; exact Ret.mk' rfl (Ext.auto))
   ·have b5 : (p.kind m.fr.toNat == 1) = false := by simpa using b3
    clear b1 b3
    go_enter Tryz.func117, Tryz.ntmps117
    go_wp2_with (first | (go_at_call 165; with_reducible refine arm (rMay_any _ _ _) fun w1 hx hxc hxf hxb hxs => ?_; (try have := sW w w1)))
    all_goals (go_ret; exact Ret.mk' rfl (Ext.auto))
 ·rw [e] at st be
  rw [st] at hm
  rcases be with ⟨b1, b2, b3, b4⟩ | ⟨b1, b2⟩
  ·have b2 : m.to_ / 8 = 0 := by omega
   rw [b1] at hm k0 k1
   go_enter Tryz.func117, Tryz.ntmps117
   go_wp2_with (first | (go_at_call 165; with_reducible refine arm (rMay_any _ _ _) fun w1 hx hxc hxf hxb hxs => ?_; (try have := sW w w1)))
   all_goals (go_ret; exact Ret.mk' rfl (Ext.auto))
  ·by_cases b3 : p.kind m.fr.toNat = 1
   ·have b5 : (m.to_ / 8 == 0) = false := by simp; omega
    rw [b3] at hm k0 k1
    clear b1
    go_enter Tryz.func117, Tryz.ntmps117
    go_wp2_with (first | (go_at_call 165; with_reducible refine arm (rMay_any _ _ _) fun w1 hx hxc hxf hxb hxs => ?_; (try have := sW w w1)))
    all_goals (go_ret; exact Ret.mk' rfl (Ext.auto))
   ·have b5 : (p.kind m.fr.toNat == 1) = false := by simpa using b3
    clear b1 b3
    go_enter Tryz.func117, Tryz.ntmps117
    go_wp2_with (first | (go_at_call 165; with_reducible refine arm (rMay_any _ _ _) fun w1 hx hxc hxf hxb hxs => ?_; (try have := sW w w1)))
    all_goals (go_ret; exact Ret.mk' rfl (Ext.auto))
theorem Ret.reg' {P : Program} {f : FuncId} {args : Array Value} {w : World} {p : Regrown} {v : Value}
 (h : ∀ w, Calls P f args w (Ret v w)) : Calls P f args (grown w p) fun e w'' => e = .returned v ∧ ∃ q : Regrown, w'' = grown w q := Calls.reg (h _)
theorem bare_iff' {p : Pos} {t : Int} : bareB p t = true ↔ p.kind t.toNat = 0 ∧ p.side t.toNat = 0 := by simp [bareB]
theorem rPawn_any (p : Pos) (a t : Int) (w : World) (a0 : 0 ≤ a) (a1 : a < 64) (t0 : 0 ≤ t) (t1 : t < 64) : Calls Tryz.prog 184 #[.agg (posCells p), .int .i64 a, .int .i64 t] w (Ret (.bool (rPawnB p a t)) w) := by
 have a2 : a.toNat < 64 := by omega
 have t2 : t.toNat < 64 := by omega
 have ha8 : a.tdiv 8 = a / 8 := by rw [Int.tdiv_eq_ediv_of_nonneg a0]
 have HA : ∀ w, Calls Tryz.prog 185 #[.agg (posCells p), .int .i64 a, .int .i64 t] w (Ret (.bool (rAttB p a t)) w) := fun w => rAtt_any p a t w a0 a1 t0 t1
 have HF : ∀ x w, Calls Tryz.prog 214 #[.agg (posCells p), .int .i64 x] w (Ret (.bool (freeAt p x)) w) := fun x w => rBare_any p x w
 have HO : ∀ x w, Calls Tryz.prog 112 #[.int .i64 x] w (Ret (.int .i64 (otherOf x)) w) := fun x w => rOther_any x w
 have hfb : freeAt p t = bareB p t := by simp [freeAt, isSq, t0, t1]
 have HE := hid (show rPawnB p a t = (if t = a + onOfS (p.side a.toNat) then freeAt p t else if t = a + 2 * onOfS (p.side a.toNat) ∧ a / 8 = (if p.side a.toNat = 1 then 6 else 1) then freeAt p (a + onOfS (p.side a.toNat)) && freeAt p t
  else if rAttB p a t = true then (!bareB p t && p.side t.toNat == otherOf (p.side a.toNat)) || (freeAt p t && t == p.over) else false) from rfl)
 have hon : (p.side a.toNat = 1 ∧ onOfS (p.side a.toNat) = -8 ∧ (if p.side a.toNat = 1 then (6 : Int) else 1) = 6) ∨ ((p.side a.toNat == 1) = false ∧ onOfS (p.side a.toNat) = 8 ∧ (if p.side a.toNat = 1 then (6 : Int) else 1) = 1) := by
  by_cases h : p.side a.toNat = 1
  ·exact .inl ⟨h, by simp [onOfS, h], if_pos h⟩
  ·exact .inr ⟨by simpa using h, by simp [onOfS, h], if_neg h⟩
 have hon8 := trivial
 rcases hon with ⟨hs, h8, hf⟩ | ⟨hs, h8, hf⟩
 ·rw [h8, hf] at HE
  clear h8 hf hon8
  rw [hs] at HE
  by_cases c1 : t = a + -8
  ·have HE := hid (HE.out.trans (if_pos c1))
   subst c1
   clear HA
   go_enter Tryz.func184, Tryz.ntmps184
   go_wp2_with (first | (go_at_call 214; with_reducible refine arm (HF _ _) fun w1 hx hxc hxf hxb hxs => ?_; (try have := sW w w1)))
   all_goals (go_ret; exact Ret.mk' (vbool (by rw [HE.out]; (try simp_all))) (Ext.auto))
  ·have HE := hid (HE.out.trans (if_neg c1))
   have e1 : (t == a + -8) = false := by simpa using c1
   by_cases c2 : t = a + -16 ∧ a / 8 = 6
   ·have HE := hid (HE.out.trans (if_pos (by omega)))
    obtain ⟨c2, c3⟩ := c2
    subst c2
    clear c1 e1 HA
    cases hf1 : freeAt p (a + -8)
    all_goals
     go_enter Tryz.func184, Tryz.ntmps184
     go_wp2_with (first | (go_at_call 214; with_reducible refine arm (HF _ _) fun w1 hx hxc hxf hxb hxs => ?_; (try have := sW w w1)))
     all_goals (go_ret; exact Ret.mk' (vbool (by rw [HE.out]; (try simp_all))) (Ext.auto))
   ·have HE := hid (HE.out.trans (if_neg (by omega)))
    have HX : ((t == a + -16) = false) ∨ ((t == a + -16) = true ∧ (a / 8 == 6) = false) := by
     by_cases h : t = a + -16
     ·exact .inr ⟨by simpa using h, by simp; omega⟩
     ·exact .inl (by simpa using h)
    clear c1 c2
    cases hA : rAttB p a t
    ·have HE := hid (HE.out.trans (if_neg (by rw [hA]; decide)))
     rcases HX with e2 | ⟨e2, e3⟩
     all_goals
      go_enter Tryz.func184, Tryz.ntmps184
      go_wp2_with (first | (go_at_call 185; with_reducible refine arm (HA _) fun w1 hx hxc hxf hxb hxs => ?_; (try have := sW w w1)) | (go_at_call 214; with_reducible refine arm (HF _ _) fun w1 hx hxc hxf hxb hxs => ?_; (try have := sW w w1)))
      all_goals (go_ret; exact Ret.mk' (vbool (by rw [HE.out]; (try simp_all))) (Ext.auto))
    ·have HE := hid (HE.out.trans (if_pos hA))
     have HFB := hid hfb
     by_cases b1 : p.kind t.toNat = 0 ∧ p.side t.toNat = 0
     ·have hb : bareB p t = true := bare_iff'.2 b1
      have hft : freeAt p t = true := hfb.trans hb
      obtain ⟨b1, b2⟩ := b1
      rw [hb, hft] at HE
      clear hfb hb
      rcases HX with e2 | ⟨e2, e3⟩
      all_goals
       cases eo : (t == p.over)
       all_goals
        go_enter Tryz.func184, Tryz.ntmps184
        go_wp2_with (first | (go_at_call 185; with_reducible refine arm (HA _) fun w1 hx hxc hxf hxb hxs => ?_; (try have := sW w w1)) | (go_at_call 214; with_reducible refine arm (HF _ _) fun w1 hx hxc hxf hxb hxs => ?_; (try have := sW w w1)))
        refine wp_quiet (by kernel_rfl) (by kernel_rfl) ?_; (repeat (first | go_big_quiet_step ((first | (go_at_call 112; with_reducible exact Calls.reg (HO _ _)) | (go_at_call 214; with_reducible exact Calls.reg (HF _ _)))) | quiet_step ((first | (go_at_call 112; with_reducible exact Calls.reg (HO _ _)) | (go_at_call 214; with_reducible exact Calls.reg (HF _ _)))))); refine wpQuiet_nil ?_; intro w1 hx; obtain ⟨hxc, hxf, hxb, hxs⟩ := hx.als; (try have := sW w w1)
        go_wp2
        all_goals (go_ret; exact Ret.mk' (vbool (by rw [HE.out]; (try simp_all))) (Ext.auto))
     ·have hb : bareB p t = false := by rw [Bool.eq_false_iff]; exact fun h => b1 (bare_iff'.1 h)
      have hft : freeAt p t = false := hfb.trans hb
      have en : (p.kind t.toNat == 0 && p.side t.toNat == 0) = false := hb
      rw [hb, hft] at HE
      clear hfb hb b1
      rcases HX with e2 | ⟨e2, e3⟩
      all_goals
       cases es : (p.side t.toNat == otherOf 1)
       all_goals
        go_enter Tryz.func184, Tryz.ntmps184
        go_wp2_with (first | (go_at_call 185; with_reducible refine arm (HA _) fun w1 hx hxc hxf hxb hxs => ?_; (try have := sW w w1)) | (go_at_call 214; with_reducible refine arm (HF _ _) fun w1 hx hxc hxf hxb hxs => ?_; (try have := sW w w1)))
        refine wp_quiet (by kernel_rfl) (by kernel_rfl) ?_; (repeat (first | go_big_quiet_step ((first | (go_at_call 112; with_reducible exact Calls.reg (HO _ _)) | (go_at_call 214; with_reducible exact Calls.reg (HF _ _)))) | quiet_step ((first | (go_at_call 112; with_reducible exact Calls.reg (HO _ _)) | (go_at_call 214; with_reducible exact Calls.reg (HF _ _)))))); refine wpQuiet_nil ?_; intro w1 hx; obtain ⟨hxc, hxf, hxb, hxs⟩ := hx.als; (try have := sW w w1)
        go_wp2
        all_goals (go_ret; exact Ret.mk' (vbool (by rw [HE.out]; (try simp_all))) (Ext.auto))
 ·rw [h8, hf] at HE
  clear h8 hf hon8
  by_cases c1 : t = a + 8
  ·have HE := hid (HE.out.trans (if_pos c1))
   subst c1
   clear HA
   go_enter Tryz.func184, Tryz.ntmps184
   go_wp2_with (first | (go_at_call 214; with_reducible refine arm (HF _ _) fun w1 hx hxc hxf hxb hxs => ?_; (try have := sW w w1)))
   all_goals (go_ret; exact Ret.mk' (vbool (by rw [HE.out]; (try simp_all))) (Ext.auto))
  ·have HE := hid (HE.out.trans (if_neg c1))
   have e1 : (t == a + 8) = false := by simpa using c1
   by_cases c2 : t = a + 16 ∧ a / 8 = 1
   ·have HE := hid (HE.out.trans (if_pos (by omega)))
    obtain ⟨c2, c3⟩ := c2
    subst c2
    clear c1 e1 HA
    cases hf1 : freeAt p (a + 8)
    all_goals
     go_enter Tryz.func184, Tryz.ntmps184
     go_wp2_with (first | (go_at_call 214; with_reducible refine arm (HF _ _) fun w1 hx hxc hxf hxb hxs => ?_; (try have := sW w w1)))
     all_goals (go_ret; exact Ret.mk' (vbool (by rw [HE.out]; (try simp_all))) (Ext.auto))
   ·have HE := hid (HE.out.trans (if_neg (by omega)))
    have HX : ((t == a + 16) = false) ∨ ((t == a + 16) = true ∧ (a / 8 == 1) = false) := by
     by_cases h : t = a + 16
     ·exact .inr ⟨by simpa using h, by simp; omega⟩
     ·exact .inl (by simpa using h)
    clear c1 c2
    cases hA : rAttB p a t
    ·have HE := hid (HE.out.trans (if_neg (by rw [hA]; decide)))
     rcases HX with e2 | ⟨e2, e3⟩
     all_goals
      go_enter Tryz.func184, Tryz.ntmps184
      go_wp2_with (first | (go_at_call 185; with_reducible refine arm (HA _) fun w1 hx hxc hxf hxb hxs => ?_; (try have := sW w w1)) | (go_at_call 214; with_reducible refine arm (HF _ _) fun w1 hx hxc hxf hxb hxs => ?_; (try have := sW w w1)))
      all_goals (go_ret; exact Ret.mk' (vbool (by rw [HE.out]; (try simp_all))) (Ext.auto))
    ·have HE := hid (HE.out.trans (if_pos hA))
     have HFB := hid hfb
     by_cases b1 : p.kind t.toNat = 0 ∧ p.side t.toNat = 0
     ·have hb : bareB p t = true := bare_iff'.2 b1
      have hft : freeAt p t = true := hfb.trans hb
      obtain ⟨b1, b2⟩ := b1
      rw [hb, hft] at HE
      clear hfb hb
      rcases HX with e2 | ⟨e2, e3⟩
      all_goals
       cases eo : (t == p.over)
       all_goals
        go_enter Tryz.func184, Tryz.ntmps184
        go_wp2_with (first | (go_at_call 185; with_reducible refine arm (HA _) fun w1 hx hxc hxf hxb hxs => ?_; (try have := sW w w1)) | (go_at_call 214; with_reducible refine arm (HF _ _) fun w1 hx hxc hxf hxb hxs => ?_; (try have := sW w w1)))
        refine wp_quiet (by kernel_rfl) (by kernel_rfl) ?_; (repeat (first | go_big_quiet_step ((first | (go_at_call 112; with_reducible exact Calls.reg (HO _ _)) | (go_at_call 214; with_reducible exact Calls.reg (HF _ _)))) | quiet_step ((first | (go_at_call 112; with_reducible exact Calls.reg (HO _ _)) | (go_at_call 214; with_reducible exact Calls.reg (HF _ _)))))); refine wpQuiet_nil ?_; intro w1 hx; obtain ⟨hxc, hxf, hxb, hxs⟩ := hx.als; (try have := sW w w1)
        go_wp2
        all_goals (go_ret; exact Ret.mk' (vbool (by rw [HE.out]; (try simp_all))) (Ext.auto))
     ·have hb : bareB p t = false := by rw [Bool.eq_false_iff]; exact fun h => b1 (bare_iff'.1 h)
      have hft : freeAt p t = false := hfb.trans hb
      have en : (p.kind t.toNat == 0 && p.side t.toNat == 0) = false := hb
      rw [hb, hft] at HE
      clear hfb hb b1
      rcases HX with e2 | ⟨e2, e3⟩
      all_goals
       cases es : (p.side t.toNat == otherOf (p.side a.toNat))
       all_goals
        go_enter Tryz.func184, Tryz.ntmps184
        go_wp2_with (first | (go_at_call 185; with_reducible refine arm (HA _) fun w1 hx hxc hxf hxb hxs => ?_; (try have := sW w w1)) | (go_at_call 214; with_reducible refine arm (HF _ _) fun w1 hx hxc hxf hxb hxs => ?_; (try have := sW w w1)))
        refine wp_quiet (by kernel_rfl) (by kernel_rfl) ?_; (repeat (first | go_big_quiet_step ((first | (go_at_call 112; with_reducible exact Calls.reg (HO _ _)) | (go_at_call 214; with_reducible exact Calls.reg (HF _ _)))) | quiet_step ((first | (go_at_call 112; with_reducible exact Calls.reg (HO _ _)) | (go_at_call 214; with_reducible exact Calls.reg (HF _ _)))))); refine wpQuiet_nil ?_; intro w1 hx; obtain ⟨hxc, hxf, hxb, hxs⟩ := hx.als; (try have := sW w w1)
        go_wp2
        all_goals (go_ret; exact Ret.mk' (vbool (by rw [HE.out]; (try simp_all))) (Ext.auto))
theorem rGoes_any (p : Pos) (a t : Int) (w : World) (a0 : 0 ≤ a) (a1 : a < 64) (t0 : 0 ≤ t) (t1 : t < 64) : Calls Tryz.prog 163 #[.agg (posCells p), .int .i64 a, .int .i64 t] w (Ret (.bool (rGoesB p a t)) w) := by
 have a2 : a.toNat < 64 := by omega
 have t2 : t.toNat < 64 := by omega
 have HP : ∀ w, Calls Tryz.prog 184 #[.agg (posCells p), .int .i64 a, .int .i64 t] w (Ret (.bool (rPawnB p a t)) w) := fun w => rPawn_any p a t w a0 a1 t0 t1
 have HA : ∀ w, Calls Tryz.prog 185 #[.agg (posCells p), .int .i64 a, .int .i64 t] w (Ret (.bool (rAttB p a t)) w) := fun w => rAtt_any p a t w a0 a1 t0 t1
 cases hm : mayB (p.kind a.toNat) (p.side a.toNat)
 ·have HE := hid (show rGoesB p a t = false by unfold rGoesB; rw [if_neg (by rw [hm]; rintro ⟨h, -⟩; cases h)])
  go_enter Tryz.func163, Tryz.ntmps163
  go_wp2_with (first | (go_at_call 165; with_reducible refine arm (rMay_any _ _ _) fun w1 hx hxc hxf hxb hxs => ?_; (try have := sW w w1)))
  all_goals (go_ret; exact Ret.mk' (vbool (by rw [HE.out])) (Ext.auto))
 ·have hsd : p.side a.toNat = 0 ∨ p.side a.toNat = 1 := by simp [mayB] at hm; exact hm.2.2
  have HC : ∀ w, Calls Tryz.prog 186 #[.agg (posCells p), .int .i64 a, .int .i64 t] w (Ret (.bool (rCastleB p a t)) w) := fun w => rCastle_any p a t w a0 a1 hsd
  clear hsd
  by_cases hs : p.side a.toNat = p.turn
  ·by_cases hne : a = t
   ·have HE := hid (show rGoesB p a t = false by unfold rGoesB; rw [if_neg (fun h => h.2.2 hne)])
    have e1 : (a == t) = true := by simpa using hne
    have e2 : (p.side a.toNat != p.turn) = false := by simpa using hs
    clear hne hs HP HA HC
    go_enter Tryz.func163, Tryz.ntmps163
    go_wp2_with (first | (go_at_call 165; with_reducible refine arm (rMay_any _ _ _) fun w1 hx hxc hxf hxb hxs => ?_; (try have := sW w w1)))
    all_goals (go_ret; exact Ret.mk' (vbool (by rw [HE.out])) (Ext.auto))
   ·have HE := hid (show rGoesB p a t = if p.kind a.toNat = 1 then rPawnB p a t else if (rAttB p a t && (bareB p t || p.side t.toNat != p.side a.toNat)) = true then true else p.kind a.toNat == 6 && rCastleB p a t by unfold rGoesB; rw [if_pos ⟨hm, hs, hne⟩])
    have e1 : (a == t) = false := by simpa using hne
    have e2 : (p.side a.toNat != p.turn) = false := by simpa using hs
    clear hne hs
    by_cases hk : p.kind a.toNat = 1
    ·have HE := hid (HE.out.trans (if_pos hk))
     have e3 : (p.kind a.toNat == 1) = true := by simpa using hk
     clear hk
     go_enter Tryz.func163, Tryz.ntmps163
     go_wp2_with (first | (go_at_call 165; with_reducible refine arm (rMay_any _ _ _) fun w1 hx hxc hxf hxb hxs => ?_; (try have := sW w w1)) | (go_at_call 184; with_reducible refine arm (HP _) fun w1 hx hxc hxf hxb hxs => ?_; (try have := sW w w1)))
     all_goals (go_ret; exact Ret.mk' (vbool (by rw [HE.out])) (Ext.auto))
    ·have HE := hid (HE.out.trans (if_neg hk))
     have e3 : (p.kind a.toNat == 1) = false := by simpa using hk
     clear hk HP
     have HBA := hid (show bareB p t = (p.kind t.toNat == 0 && p.side t.toNat == 0) from rfl)
     cases h6 : (p.kind a.toNat == 6)
     all_goals
      cases hA : rAttB p a t
      ·rw [hA] at HE HA
       clear hA
       go_enter Tryz.func163, Tryz.ntmps163
       go_wp2_with (first | (go_at_call 165; with_reducible refine arm (rMay_any _ _ _) fun w1 hx hxc hxf hxb hxs => ?_; (try have := sW w w1)) | (go_at_call 185; with_reducible refine arm (HA _) fun w1 hx hxc hxf hxb hxs => ?_; (try have := sW w w1)) | (go_at_call 186; with_reducible refine arm (HC _) fun w1 hx hxc hxf hxb hxs => ?_; (try have := sW w w1)))
       all_goals (go_ret; exact Ret.mk' (vbool (by rw [HE.out]; simp [*])) (Ext.auto))
      ·rw [hA] at HE HA
       clear hA
       by_cases b1 : p.kind t.toNat = 0 ∧ p.side t.toNat = 0
       ·have hb := hid (show bareB p t = true from bare_iff'.2 b1)
        obtain ⟨b1, b2⟩ := b1
        rw [hb.out] at HE
        go_enter Tryz.func163, Tryz.ntmps163
        go_wp2_with (first | (go_at_call 165; with_reducible refine arm (rMay_any _ _ _) fun w1 hx hxc hxf hxb hxs => ?_; (try have := sW w w1)) | (go_at_call 185; with_reducible refine arm (HA _) fun w1 hx hxc hxf hxb hxs => ?_; (try have := sW w w1)) | (go_at_call 186; with_reducible refine arm (HC _) fun w1 hx hxc hxf hxb hxs => ?_; (try have := sW w w1)))
        all_goals (go_ret; exact Ret.mk' (vbool (by rw [HE.out]; rfl)) (Ext.auto))
       ·have hb := hid (show bareB p t = false by rw [Bool.eq_false_iff]; exact fun h => b1 (bare_iff'.1 h))
        rw [hb.out] at HE
        have b3 : (p.kind t.toNat == 0) = false ∨ ((p.kind t.toNat == 0) = true ∧ (p.side t.toNat == 0) = false) := by
         by_cases h : p.kind t.toNat = 0
         ·exact .inr ⟨by simpa using h, by simp; omega⟩
         ·exact .inl (by simpa using h)
        clear b1
        cases es : (p.side t.toNat != p.side a.toNat)
        all_goals
         rw [es] at HE
         rcases b3 with b3 | ⟨b3, b4⟩
         all_goals
          go_enter Tryz.func163, Tryz.ntmps163
          go_wp2_with (first | (go_at_call 165; with_reducible refine arm (rMay_any _ _ _) fun w1 hx hxc hxf hxb hxs => ?_; (try have := sW w w1)) | (go_at_call 185; with_reducible refine arm (HA _) fun w1 hx hxc hxf hxb hxs => ?_; (try have := sW w w1)) | (go_at_call 186; with_reducible refine arm (HC _) fun w1 hx hxc hxf hxb hxs => ?_; (try have := sW w w1)))
          all_goals (go_ret; exact Ret.mk' (vbool (by rw [HE.out]; (try simp [*]))) (Ext.auto))
  ·have HE := hid (show rGoesB p a t = false by unfold rGoesB; rw [if_neg (fun h => hs h.2.1)])
   have e2 : (p.side a.toNat != p.turn) = true := by simpa using hs
   clear hs
   go_enter Tryz.func163, Tryz.ntmps163
   go_wp2_with (first | (go_at_call 165; with_reducible refine arm (rMay_any _ _ _) fun w1 hx hxc hxf hxb hxs => ?_; (try have := sW w w1)))
   all_goals (go_ret; exact Ret.mk' (vbool (by rw [HE.out])) (Ext.auto))
def fromUp (p : Pos) (a : Int) (n : Nat) : List Mv := (((List.range n).map (Nat.cast : Nat → Int)).filter (rGoesB p a)).flatMap (toOne a (p.kind a.toNat) (p.side a.toNat))
theorem fromUp_succ (p : Pos) (a : Int) (n : Nat) : fromUp p a (n + 1) = fromUp p a n ++ if rGoesB p a (n : Int) = true then toOne a (p.kind a.toNat) (p.side a.toNat) (n : Int) else [] := by
 unfold fromUp
 rw [List.range_succ, List.map_append, List.filter_append, List.flatMap_append]
 congr 1
 simp only [List.map_cons, List.map_nil, List.filter_cons, List.filter_nil]
 split <;> simp
theorem fromUp_len (p : Pos) (a : Int) : ∀ n, (fromUp p a n).length ≤ n * 4
 | 0 => by simp [fromUp]
 | n + 1 => by
   have h := fromUp_len p a n
   have h2 := toOne_len a (p.kind a.toNat) (p.side a.toNat) (n : Int)
   rw [fromUp_succ, List.length_append]
   split
   ·omega
   ·simp; omega
abbrev MSf9.T (p : Pos) (w : World) (v : Value) (L : List Mv) (W : World) : Prop := blk W w.heap.size = some (.cells (posCells p) 30 (0, 0)) ∧ Ext w W ∧ W.ownsRow (w.heap.size + 1) 51 3 v L.length (mvsC L)
def MSf9 (p : Pos) (w : World) (v : Value) (L : List Mv) (W : World) : Prop := MSf9.T p w v L W
theorem MSf9.u {p w v L} (W) (h : MSf9 p w v L W) : MSf9.T p w v L W := h
theorem MSf9.ext {p : Pos} {w : World} {v : Value} {L : List Mv} {W W' : World} (h : MSf9 p w v L W) (hx : Ext W W') : MSf9 p w v L W' := ⟨(hx.blk _ (blk_lt h.1)).trans h.1, h.2.1.trans hx, own_ext h.2.2 hx⟩
theorem MSf9.put {p : Pos} {w : World} {v v' : Value} {L L' : List Mv} {W W' : World} (h : MSf9 p w v L W) (ho : W'.ownsRow (w.heap.size + 1) 51 3 v' L'.length (mvsC L')) (hx : W.grownBy W' v.ownBlock) : MSf9 p w v' L' W' :=
 have hr : ∀ x, v.ownBlock = some x → w.heap.size + 1 ≤ x := fun x hx => (h.2.2.lt x hx).1
 ⟨(hx.block _ (blk_lt h.1) (fun e => by have := hr _ e.symm; omega)).trans h.1, Below.grown h.2.1 hx h.2.1.le (fun x hx' => by have := hr x hx'; omega), ho⟩
theorem blk_alloc2 (w : World) (a o : Obj) : blk ((w.alloc a).alloc o) (w.heap.size + 1) = some o := blk_alloc_at _ _ _ (by simp)
theorem rFrom_any (p : Pos) (a : Int) (w : World) (a0 : 0 ≤ a) (a1 : a < 64) : Calls Tryz.prog 113 #[.agg (posCells p), .int .i64 a] w (RetMvs (rFromL p a) w) := by
 have a2 : a.toNat < 64 := by omega
 have HE := hid (show rFromL p a = fromUp p a 64 from rfl)
 go_enter Tryz.func113, Tryz.ntmps113
 go_wp2
 go_loopw [5, 6] (fun u i wr => ∃ k : Nat, i = .int .i64 k ∧ k ≤ 64 ∧ MSf9 p w u (fromUp p a k) wr) (fun _ i _ => 64 - (intOf i).toNat)
 case atStart => exact ⟨0, rfl, by omega, by simp [go_sem], (Ext.auto), World.ownsRow_nil _ _ _ _⟩
 case round =>
  obtain ⟨k, rfl, hk, hM⟩ := hrel
  have hmb := hM.1
  have hlb := blk_lt hM.1
  have c0 := cell_of_row wr w.heap.size (a.toNat * 2) _ _ _ hM.1
  have c1 := cell_of_row wr w.heap.size (a.toNat * 2 + 1) _ _ _ hM.1
  have hlen := fromUp_len p a k
  have HM := hid hM
  by_cases hlt : k < 64
  ·have HS := hid (fromUp_succ p a k)
   have hq : ((k : Int)).tdiv 8 = (k : Int) / 8 := Int.tdiv_eq_ediv_of_nonneg (by omega)
   have HG : ∀ w, Calls Tryz.prog 163 #[.agg (posCells p), .int .i64 a, .int .i64 k] w (Ret (.bool (rGoesB p a k)) w) := fun w => rGoes_any p a k w a0 a1 (by omega) (by omega)
   clear hM
   cases hg : rGoesB p a (k : Int)
   ·have HO := hid (show fromUp p a (k + 1) = fromUp p a k by rw [HS.out, hg]; simp)
    rw [hg] at HG
    clear hg
    go_wp2_with (first | (go_at_call 163; with_reducible refine arm (HG _) fun w1 hx hxc hxf hxb hxs => ?_; (try have := sW w w1); (try have := sW wr w1)))
    go_roundw
    case rel => exact ⟨k + 1, by go_num, by omega, by rw [HO.out]; exact HM.out.ext hx⟩
    case measure => simp [intOf]; omega
   ·have hmv := (goes_mover hg).1
    have hsd : p.side a.toNat = 0 ∨ p.side a.toNat = 1 := by simp [mayB] at hmv; exact hmv.2.2
    have HO := hid (show fromUp p a (k + 1) = fromUp p a k ++ toOne a (p.kind a.toNat) (p.side a.toNat) (k : Int) by rw [HS.out, hg]; simp)
    have hrk : rankOf (k : Int) = (k : Int) / 8 := if_pos ⟨by omega, by omega⟩
    rw [hg] at HG
    clear hg hmv
    by_cases hp : p.kind a.toNat = 1 ∧ (k : Int) / 8 = 7 * (1 - p.side a.toNat)
    ·have HO2 := hid (show toOne a (p.kind a.toNat) (p.side a.toNat) (k : Int) = promos a k by unfold toOne; rw [hrk, if_pos hp])
     have hd : (p.side a.toNat = 0 ∧ ((k : Int) / 8 == 7) = true) ∨ (p.side a.toNat = 1 ∧ ((k : Int) / 8 == 0) = true) := by
      rcases hsd with e | e
      ·exact .inl ⟨e, by simp; rw [e] at hp; omega⟩
      ·exact .inr ⟨e, by simp; rw [e] at hp; omega⟩
     have g1 := hp.1
     clear hp hsd hrk
     rcases hd with ⟨e, g2⟩ | ⟨e, g2⟩
     all_goals
      go_upto_region 8 with (first | (go_at_call 163; with_reducible refine arm (HG _) fun w1 hx hxc hxf hxb hxs => ?_; (try have := sW w w1); (try have := sW wr w1)))
      have hM1 := HM.out.ext (Ext.alloc hx (.cells #[.int .i64 (p.kind a.toNat), .int .i64 (p.side a.toNat)] 26 (0, 0)))
      rw [g1, e] at hM1
      clear hx hxc hxf hxb hxs hlb c0 c1 HM hmb
      generalize hpre : fromUp p a k = pre at *
      have HPre := hid hpre
      clear hpre
      generalize hwo : w1.alloc _ = wo at *
      clear hwo
      go_wp2
      go_loopw [5, 8] (fun u i wq => ∃ κ : Nat, i = .int .i64 κ ∧ 2 ≤ κ ∧ κ ≤ 6 ∧ MSf9 p w u (pre ++ (promos a k).take (κ - 2)) wq) (fun _ i _ => 6 - (intOf i).toNat)
      case atStart => exact ⟨2, rfl, by omega, by omega, by simpa using hM1⟩
      case round =>
       obtain ⟨κ, rfl, hκ0, hκ, hM2⟩ := hrel
       have hlb2 := blk_lt hM2.1
       have hpl : (pre ++ (promos a k).take (κ - 2)).length ≤ 5000 := by
        rw [List.length_append, List.length_take]; omega
       have HM2 := hid hM2
       clear hM2 hM1
       by_cases hk5 : κ ≤ 5
       ·have hP := hid (show pre ++ (promos a k).take (κ + 1 - 2) = (pre ++ (promos a k).take (κ - 2)) ++ [⟨a, k, κ⟩] by
         rcases (by omega : κ = 2 ∨ κ = 3 ∨ κ = 4 ∨ κ = 5) with rfl | rfl | rfl | rfl <;> simp [promos])
        go_wp2_with (at_builtin; refine wpList_append_mv rfl _ _ rfl (w.heap.size + 1) _ (pre ++ (promos a k).take (κ - 2)) rfl (own_ext HM2.out.2.2 (Ext.alloc (Ext.refl _) _)) _ ⟨a, k, κ⟩ rfl (blk_alloc_at _ _ _ rfl) (by omega) (by simp; omega) (fun v' w2 hown2 hg2 hf2 => ?_))
        go_roundw
        case rel => exact ⟨κ + 1, by go_num, by omega, by omega, by rw [hP.out]; exact (HM2.out.ext (Ext.alloc (Ext.refl _) _)).put hown2 hg2⟩
        case measure => simp [intOf]; omega
       ·obtain rfl : κ = 6 := by omega
        have hP := hid (show fromUp p a (k + 1) = pre ++ (promos a k).take (6 - 2) by rw [HO.out, HO2.out]; rfl)
        go_wp2
        go_roundw
        case rel => exact ⟨k + 1, by go_num, by omega, by rw [hP.out]; exact HM2.out⟩
        case measure => simp [intOf]; omega
    ·have HO2 := hid (show toOne a (p.kind a.toNat) (p.side a.toNat) (k : Int) = [⟨a, k, 0⟩] by unfold toOne; rw [hrk, if_neg hp])
     have hd : ((p.kind a.toNat == 1) = false) ∨ (p.kind a.toNat = 1 ∧ p.side a.toNat = 0 ∧ ((k : Int) / 8 == 7) = false) ∨ (p.kind a.toNat = 1 ∧ p.side a.toNat = 1 ∧ ((k : Int) / 8 == 0) = false) := by
      by_cases h : p.kind a.toNat = 1
      ·rcases hsd with e | e
       ·exact .inr (.inl ⟨h, e, by simp; intro h'; exact hp ⟨h, by rw [e]; omega⟩⟩)
       ·exact .inr (.inr ⟨h, e, by simp; intro h'; exact hp ⟨h, by rw [e]; omega⟩⟩)
      ·exact .inl (by simpa using h)
     clear hp hsd hrk
     rcases hd with g1 | ⟨g1, g2, g3⟩ | ⟨g1, g2, g3⟩
     all_goals
      go_wp2_with (first | (go_at_call 163; with_reducible refine arm (HG _) fun w1 hx hxc hxf hxb hxs => ?_; (try have := sW w w1); (try have := sW wr w1)) | (at_builtin; refine wpList_append_mv rfl _ _ rfl (w.heap.size + 1) u5 (fromUp p a k) rfl (own_ext HM.out.2.2 (Ext.trans (Ext.alloc hx _) (Ext.alloc (Ext.refl _) _))) (w1.heap.size + 1) ⟨a, k, 0⟩ rfl (blk_alloc2 _ _ _) (by omega) (by simp; omega) (fun v' w2 hown2 hg2 hf2 => ?_)))
      go_roundw
      case rel => exact ⟨k + 1, by go_num, by omega, by rw [HO.out, HO2.out]; exact (HM.out.ext (Ext.trans (Ext.alloc hx _) (Ext.alloc (Ext.refl _) _))).put hown2 hg2⟩
      case measure => simp [intOf]; omega
  ·obtain rfl : k = 64 := by omega
   clear hM hmb
   go_wp2
   go_ret
   exact RetMvs.mk' HM.out.2.2 (by rw [HE.out]) (by rw [HE.out]) (by omega) HM.out.2.1
end Go.Proofs.YtdmgimfgoajmjaaGreatDoor
