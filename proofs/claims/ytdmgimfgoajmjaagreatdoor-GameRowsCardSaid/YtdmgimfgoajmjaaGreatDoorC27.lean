/- Positions that are the same have the same legal moves; how far a game has gone. -/
import Derived.Test.YtdmgimfgoajmjaaGreatDoorC26
import Derived.Test.YtdmgimfgoajmjaaGreatDoorC25
import Derived.Test.YtdmgimfgoajmjaaGreatDoorC12
import Derived.Test.YtdmgimfgoajmjaaGreatDoorC08
import Derived.Deep.DeepCutAuto
import Derived.Test.YtdmgimfgoajmjaaGreatDoorC24
set_option linter.unusedVariables false
set_option linter.unusedSimpArgs false
set_option maxRecDepth 100000
set_option maxHeartbeats 16000000
namespace Go.Proofs.YtdmgimfgoajmjaaGreatDoor
open Go.RowKit
def weight : Int → Int → Nat → Int := fun k sd i => if k = 0 then 0 else if k = 1 then (if sd = 1 then 1 + (i : Int) / 8 else 8 - (i : Int) / 8) else 1
def phi (p : Pos) : Int := total weight p 64 + p.castle
theorem ck_notle : ((List.range 16).all fun (c : Nat) => (List.range 16).all fun (l : Nat) => decide (notI c l ≤ c)) = true := by decide +kernel
theorem notI_le {c l : Int} (c0 : 0 ≤ c) (c1 : c ≤ 15) (l0 : 0 ≤ l) (l1 : l ≤ 15) : notI c l ≤ c := by
 have h1 := (List.all_eq_true.1 ck_notle) c.toNat (List.mem_range.2 (by omega))
 have h2 := (List.all_eq_true.1 h1) l.toNat (List.mem_range.2 (by omega))
 rw [Int.toNat_of_nonneg c0, Int.toNat_of_nonneg l0, decide_eq_true_eq] at h2
 exact h2
theorem weight_pos {k s : Int} {i : Nat} (hi : i < 64) (hk : k ≠ 0) : 1 ≤ weight k s i := by
 unfold weight
 rw [if_neg hk]
 split
 ·split <;> omega
 ·omega
theorem phi_falls {p : Pos} {m : Mv} (hp : positionB p = true) (hm : m ∈ legalL p) : phi (movedP p m) ≤ phi p ∧ ((movedP p m).half = 0 ∨ (movedP p m).castle ≠ p.castle → phi (movedP p m) < phi p) := by
 have H := parts_iff.1 hp
 obtain ⟨hA, hE, hC⟩ := legal_parts hm
 have K := known H.over hA hE
 have hT := stood_total weight (by intro i; rfl) (by intro s i j; rfl) K rfl rfl
 have he := moved_eq H hE
 obtain ⟨c0, c1, -, -, -, -⟩ := castle_iff.1 H.castles
 obtain ⟨l0, l1, -⟩ := lost_two m.fr m.to_
 have hn := notI_le c0 c1 l0 l1
 obtain ⟨hok, -, -, -⟩ := pieces_iff.1 H.pieces
 have hhalf : (movedP p m).half = halfOf p m (p.kind m.fr.toNat) := by rw [he]; rfl
 have hcas : (movedP p m).castle = notI p.castle (lostL [m.fr, m.to_]) := by rw [he]; rfl
 have hphi : phi (movedP p m) = total weight (stood p m (p.kind m.fr.toNat) (p.side m.fr.toNat)) 64 + notI p.castle (lostL [m.fr, m.to_]) := by
  have hw : ∀ (q r : Pos) n, q.kind = r.kind → q.side = r.side → total weight q n = total weight r n := by
   intro q r n h1 h2
   induction n with
   | zero => rfl
   | succ n ih => simp only [total, ih, h1, h2]
  unfold phi
  rw [hcas]
  congr 1
  rw [he]
  exact hw _ _ _ rfl rfl
 rw [hhalf, hcas, hphi, hT]
 have hq : halfOf p m (p.kind m.fr.toNat) = 0 → ¬ (takesOf p m (p.kind m.fr.toNat) = -1 ∧ p.kind m.fr.toNat ≠ 1) := by
  rintro h ⟨h1, h2⟩
  unfold halfOf quietB at h
  rw [h1] at h
  have h0 := H.h0; have h1' := H.h1
  rw [if_pos (by simpa using h2), upTo_bd (by omega) (by omega) h0 (by omega)] at h
  split at h <;> omega
 obtain ⟨b0, b1, b2, b3⟩ := be_bd K
 obtain ⟨a0, a1, a2⟩ := K.at_bd
 have hcap : (if takesOf p m (p.kind m.fr.toNat) = -1 then 0 else weight (p.kind (takesOf p m (p.kind m.fr.toNat)).toNat) (p.side (takesOf p m (p.kind m.fr.toNat)).toNat) (takesOf p m (p.kind m.fr.toNat)).toNat) ≥ (if takesOf p m (p.kind m.fr.toNat) = -1 then 0 else 1) := by
  split
  ·omega
  ·rename_i h
   refine weight_pos (by omega) (fun h0 => ?_)
   rcases K.at0 with h' | h' | h'
   ·exact h h'.1
   ·have hb := h'.2.1
    rw [← h'.1] at hb
    have ho := okSq_iff.1 (hok (takesOf p m (p.kind m.fr.toNat)).toNat (by omega))
    have hside : p.side (takesOf p m (p.kind m.fr.toNat)).toNat = 0 := by omega
    unfold bareB at hb; rw [h0, hside] at hb; cases hb
   ·rw [h'.2.2.2.1] at h0; cases h0
 have hmv : weight (beOf m (p.kind m.fr.toNat)) (p.side m.fr.toNat) m.to_.toNat ≤ weight (p.kind m.fr.toNat) (p.side m.fr.toNat) m.fr.toNat ∧ (p.kind m.fr.toNat = 1 → weight (beOf m (p.kind m.fr.toNat)) (p.side m.fr.toNat) m.to_.toNat < weight (p.kind m.fr.toNat) (p.side m.fr.toNat) m.fr.toNat) := by
  have f0 := K.f0; have f1 := K.f1; have t0 := K.t0; have t1 := K.t1
  have ho := okSq_iff.1 (hok m.fr.toNat (by omega))
  have k0 := K.k0
  by_cases hk : p.kind m.fr.toNat = 1
  ·have hpw := K.pawn hk
   have hs := K.s0
   have hlt : weight (beOf m (p.kind m.fr.toNat)) (p.side m.fr.toNat) m.to_.toNat < weight (p.kind m.fr.toNat) (p.side m.fr.toNat) m.fr.toNat := by
    generalize beOf m (p.kind m.fr.toNat) = be at *
    generalize takesOf p m (p.kind m.fr.toNat) = at_ at *
    have hed : 8 ≤ m.fr ∧ m.fr < 56 := by omega
    unfold weight
    rw [if_neg (show ¬ be = 0 by omega), if_neg (show ¬ p.kind m.fr.toNat = 0 by omega), if_pos hk, Int.toNat_of_nonneg f0, Int.toNat_of_nonneg t0]
    unfold onOfS at hpw
    rcases hs with e | e <;> rw [e] at hpw ⊢ <;> simp at hpw ⊢ <;> split <;> omega
   exact ⟨by omega, fun _ => hlt⟩
  ·have hbe : beOf m (p.kind m.fr.toNat) = p.kind m.fr.toNat := by
    rcases K.be0 with h | h
    ·exact h.1
    ·exact absurd h.1 hk
   rw [hbe]
   have : weight (p.kind m.fr.toNat) (p.side m.fr.toNat) m.to_.toNat = weight (p.kind m.fr.toNat) (p.side m.fr.toNat) m.fr.toNat := by
    unfold weight; rw [if_neg (by omega), if_neg hk, if_neg (by omega), if_neg hk]
   exact ⟨by omega, fun h => absurd h hk⟩
 unfold phi
 generalize weight (beOf m (p.kind m.fr.toNat)) (p.side m.fr.toNat) m.to_.toNat = A at *
 generalize weight (p.kind m.fr.toNat) (p.side m.fr.toNat) m.fr.toNat = B at *
 generalize takesOf p m (p.kind m.fr.toNat) = at_ at *
 generalize (if at_ = -1 then 0 else weight (p.kind at_.toNat) (p.side at_.toNat) at_.toNat) = C at *
 constructor
 ·split at hcap <;> omega
 ·rintro (h | h)
  ·have := hq h
   by_cases e : at_ = -1
   ·have := hmv.2 (by omega)
    rw [if_pos e] at hcap
    omega
   ·rw [if_neg e] at hcap
    omega
  ·split at hcap <;> omega
structure Sim (p q : Pos) : Prop where
 kind : p.kind = q.kind
 side : p.side = q.side
 turn : p.turn = q.turn
 castle : p.castle = q.castle
theorem Sim.symm {p q : Pos} (h : Sim p q) : Sim q p := ⟨h.kind.symm, h.side.symm, h.turn.symm, h.castle.symm⟩
theorem Sim.bare {p q : Pos} (h : Sim p q) (t : Int) : bareB p t = bareB q t := by unfold bareB; rw [h.kind, h.side]
theorem Sim.upto {p q : Pos} (h : Sim p q) : ∀ l, upto p l = upto q l
 | [] => rfl
 | x :: r => by unfold Go.Proofs.YtdmgimfgoajmjaaGreatDoor.upto; rw [h.upto r]; unfold emptyAt; rw [h.kind, h.side]
theorem Sim.from {p q : Pos} (h : Sim p q) (s : Int) : fromL p s = fromL q s := by
 have ha : ∀ W, alongL p s W = alongL q s W := by
  intro W; unfold alongL; congr 1; funext x; exact h.upto _
 unfold fromL
 rw [h.kind, h.side, ha, ha, ha]
theorem Sim.attackers {p q : Pos} (h : Sim p q) (s b : Int) (n : Nat) : attackersL p s b n = attackersL q s b n := by
 unfold attackersL
 congr 2; funext a
 unfold attacksB; rw [h.side, h.from]
theorem Sim.attacked {p q : Pos} (h : Sim p q) (b : Int) (l : List Int) : attacked p b l = attacked q b l := by
 unfold Go.Proofs.YtdmgimfgoajmjaaGreatDoor.attacked; congr 1; funext s; rw [h.attackers]
theorem Sim.check {p q : Pos} (h : Sim p q) (s : Int) : checkB p s = checkB q s := by
 unfold checkB findL; rw [h.attacked, h.kind, h.side]
theorem Sim.att {p q : Pos} (h : Sim p q) (a t : Int) : rAttB p a t = rAttB q a t := by
 have ho : openB p a t = openB q a t := by unfold openB; congr 1; funext x; exact h.bare x
 unfold rAttB; rw [h.kind, h.side, ho]
theorem Sim.freeAt {p q : Pos} (h : Sim p q) (t : Int) : freeAt p t = freeAt q t := by unfold Go.Proofs.YtdmgimfgoajmjaaGreatDoor.freeAt; rw [h.bare]
theorem Sim.castling {p q : Pos} (h : Sim p q) (a t : Int) : rCastleB p a t = rCastleB q a t := by
 unfold rCastleB standsB; simp only [h.kind, h.side, h.castle, h.freeAt]
theorem Sim.can {p q : Pos} (h : Sim p q) (m : Mv) : takenE p m = takenE q m := by
 unfold takenE canB; rw [h.kind, h.side, h.turn]
theorem Sim.rook {p q : Pos} (h : Sim p q) (m : Mv) (k s : Int) : rookOf p m k s = rookOf q m k s := by
 unfold rookOf; rw [h.castle]
def epB (p : Pos) (m : Mv) : Bool := p.kind m.fr.toNat == 1 && m.fr % 8 != m.to_ % 8 && bareB p m.to_
theorem Sim.ep {p q : Pos} (h : Sim p q) (m : Mv) : epB p m = epB q m := by unfold epB; rw [h.kind, h.bare]
theorem goes_ep {p : Pos} {m : Mv} (hm : m ∈ AllL p) (he : epB p m = true) : m.to_ = p.over := by
 obtain ⟨f0, f1, t0, t1, hg, -⟩ := AllL_goes hm
 simp only [epB, Bool.and_eq_true, beq_iff_eq, bne_iff_ne] at he
 obtain ⟨⟨e1, e2⟩, e3⟩ := he
 unfold rGoesB at hg
 split at hg
 ·have hon : onOfS (p.side m.fr.toNat) = 8 ∨ onOfS (p.side m.fr.toNat) = -8 := by unfold onOfS; split <;> omega
  unfold rPawnB at hg
  dsimp only at hg
  try rw [if_pos e1] at hg
  rw [if_neg (by omega), if_neg (by omega)] at hg
  split at hg
  ·rw [e3] at hg
   simp at hg; exact hg.2
  ·cases hg
 ·cases hg
theorem goes_sim {p q : Pos} (h : Sim p q) {m : Mv} (ho : epB p m = true → p.over = q.over) : rGoesB p m.fr m.to_ = rGoesB q m.fr m.to_ := by
 by_cases hx : p.over = q.over
 ·unfold rGoesB rPawnB
  simp only [h.kind, h.side, h.turn, h.att, h.bare, h.castling, h.freeAt, hx]
 ·have he : epB p m = false := by rw [Bool.eq_false_iff]; exact fun e => hx (ho e)
  have he2 : epB q m = false := by rw [← h.ep]; exact he
  unfold rGoesB
  simp only [h.kind, h.side, h.turn, h.att, h.bare, h.castling]
  by_cases hc : mayB (q.kind m.fr.toNat) (q.side m.fr.toNat) = true ∧ q.side m.fr.toNat = q.turn ∧ m.fr ≠ m.to_
  ·rw [if_pos hc, if_pos hc]
   by_cases hk : q.kind m.fr.toNat = 1
   ·rw [if_pos hk, if_pos hk]
    unfold rPawnB
    simp only [h.kind, h.side, h.att, h.bare, h.freeAt]
    generalize (if q.side m.fr.toNat = 1 then (6 : Int) else 1) = z
    split
    ·rfl
    ·split
     ·rfl
     ·split
      ·rename_i hA
       obtain ⟨g1, -⟩ := att_pawn hA hk
       have hfd : m.fr % 8 ≠ m.to_ % 8 := by
        intro e; unfold fd at g1; rw [e] at g1; simp [absOf] at g1
       have hb : bareB q m.to_ = false := by
        unfold epB at he2; rw [hk] at he2
        have : (m.fr % 8 != m.to_ % 8) = true := by simpa using hfd
        rw [this] at he2; simpa using he2
       have hf : freeAt q m.to_ = false := by unfold freeAt; rw [hb]; simp
       rw [hf]; simp
      ·rfl
   ·rw [if_neg hk, if_neg hk]
  ·rw [if_neg hc, if_neg hc]
theorem mem_All {p : Pos} {m : Mv} : m ∈ AllL p ↔ 0 ≤ m.fr ∧ m.fr < 64 ∧ 0 ≤ m.to_ ∧ m.to_ < 64 ∧ rGoesB p m.fr m.to_ = true ∧ m ∈ toOne m.fr (p.kind m.fr.toNat) (p.side m.fr.toNat) m.to_ := by
 refine ⟨AllL_goes, ?_⟩
 rintro ⟨f0, f1, t0, t1, hg, hm⟩
 rw [All_eq]
 unfold rAllL
 rw [List.mem_flatMap]
 refine ⟨m.fr.toNat, List.mem_range.2 (by omega), mem_rFrom.2 ⟨m.to_, t0, t1, ?_, ?_⟩⟩
 ·rw [Int.toNat_of_nonneg f0]; exact hg
 ·rw [Int.toNat_of_nonneg f0]; exact hm
theorem takes_sim {p q : Pos} (h : Sim p q) {m : Mv} (ho : epB p m = true → p.over = q.over) (hE : takenE p m = 0) : takesOf p m (p.kind m.fr.toNat) = takesOf q m (q.kind m.fr.toNat) := by
 have hr : 0 ≤ m.fr ∧ m.fr < 64 ∧ 0 ≤ m.to_ ∧ m.to_ < 64 := by
  unfold takenE at hE
  split at hE
  ·rename_i h; unfold rangeB at h; rw [decide_eq_true_eq] at h; omega
  ·cases hE
 have htn : turnsOf m ≠ 0 ↔ m.fr % 8 ≠ m.to_ % 8 := by
  unfold turnsOf fileOf
  rw [if_pos (by omega), if_pos (by omega)]; omega
 have ha : takesAt p m (p.kind m.fr.toNat) = takesAt q m (q.kind m.fr.toNat) := by
  unfold takesAt
  by_cases hx : p.over = q.over
  ·rw [h.kind, h.bare, hx]
  ·have he : ¬ epB p m = true := fun e => hx (ho e)
   have he' : ¬ (p.kind m.fr.toNat = 1 ∧ turnsOf m ≠ 0 ∧ bareB p m.to_ = true) := by
    rintro ⟨h1, h2, h3⟩
    exact he (by simp only [epB, Bool.and_eq_true, beq_iff_eq, bne_iff_ne]; exact ⟨⟨h1, htn.1 h2⟩, h3⟩)
   rw [if_neg (fun c => he' ⟨c.1, c.2.1, c.2.2.2⟩), if_neg (fun c => he' ⟨by rw [h.kind]; exact c.1, c.2.1, by rw [h.bare]; exact c.2.2.2⟩)]
 unfold takesOf
 rw [ha, h.bare]
theorem moved_sim {p q : Pos} (h : Sim p q) (hp : castlesB p = true) (hq : castlesB q = true) {m : Mv} (ho : epB p m = true → p.over = q.over) (hE : takenE p m = 0) : Sim (movedP p m) (movedP q m) ∧ (movedP p m).over = (movedP q m).over := by
 have hE2 : takenE q m = 0 := by rw [← h.can]; exact hE
 have ht := takes_sim h ho hE
 have hk : p.kind m.fr.toNat = q.kind m.fr.toNat := by rw [h.kind]
 have hs : p.side m.fr.toNat = q.side m.fr.toNat := by rw [h.side]
 have hput : ∀ (a b : Pos) x y (l : List Int), a.kind = b.kind → a.side = b.side → (putAll a x y l).kind = (putAll b x y l).kind ∧ (putAll a x y l).side = (putAll b x y l).side := by
  intro a b x y l
  induction l generalizing a b with
  | nil => intro h1 h2; exact ⟨h1, h2⟩
  | cons t r ih =>
    intro h1 h2
    unfold putAll
    split
    ·exact ih _ _ (by simp only [Pos.put, h1]) (by simp only [Pos.put, h2])
    ·exact ih _ _ h1 h2
 have hst : (stood p m (p.kind m.fr.toNat) (p.side m.fr.toNat)).kind = (stood q m (q.kind m.fr.toNat) (q.side m.fr.toNat)).kind ∧ (stood p m (p.kind m.fr.toNat) (p.side m.fr.toNat)).side = (stood q m (q.kind m.fr.toNat) (q.side m.fr.toNat)).side := by
  unfold stood
  rw [ht, hk, hs, h.rook]
  dsimp only
  obtain ⟨a1, a2⟩ := hput p q 0 0 [takesOf q m (q.kind m.fr.toNat), m.fr] h.kind h.side
  obtain ⟨b1, b2⟩ := hput _ _ (beOf m (q.kind m.fr.toNat)) (q.side m.fr.toNat) [m.to_] a1 a2
  split
  ·obtain ⟨c1, c2⟩ := hput _ _ 0 0 [(rookOf q m (q.kind m.fr.toNat) (q.side m.fr.toNat)).1] b1 b2
   exact hput _ _ _ _ _ c1 c2
  ·exact ⟨b1, b2⟩
 unfold movedP moveP
 rw [if_pos hE, if_pos hE2, fixC_id hp, fixC_id hq]
 refine ⟨⟨hst.1, hst.2, ?_, ?_⟩, ?_⟩
 ·show otherOf p.turn = otherOf q.turn; rw [h.turn]
 ·show notI p.castle _ = notI q.castle _; rw [h.castle]
 ·show overOf m _ _ = overOf m _ _; rw [hk, hs]
theorem legal_mem {p q : Pos} (h : Sim p q) (hp : castlesB p = true) (hq : castlesB q = true) {m : Mv} (ho : epB p m = true → p.over = q.over) (hm : m ∈ legalL p) : m ∈ legalL q := by
 obtain ⟨hA, hE, hC⟩ := legal_parts hm
 unfold legalL at hm ⊢
 rw [List.mem_filter] at hm ⊢
 obtain ⟨-, hl⟩ := hm
 obtain ⟨f0, f1, t0, t1, hg, ht⟩ := AllL_goes hA
 refine ⟨mem_All.2 ⟨f0, f1, t0, t1, by rw [← goes_sim h ho]; exact hg, by rw [← h.kind, ← h.side]; exact ht⟩, ?_⟩
 rw [← hl]
 unfold legalB castlesMB safeB
 rw [← h.can, h.kind, h.turn, h.attacked, (moved_sim h hp hq ho hE).1.check]
theorem legal_sorted (p : Pos) : (legalL p).Pairwise (fun x y => mvLe x y = true) := by
 unfold legalL; rw [All_eq]; exact (rAll_sorted p).sublist List.filter_sublist
theorem legal_nodup (p : Pos) : (legalL p).Nodup := by
 unfold legalL; rw [All_eq]; exact (rAll_nodup p).sublist List.filter_sublist
theorem legal_ext {p q : Pos} (h : ∀ m, m ∈ legalL p ↔ m ∈ legalL q) : legalL p = legalL q := by
 refine List.Perm.eq_of_pairwise ?_ (legal_sorted p) (legal_sorted q) ((List.perm_ext_iff_of_nodup (legal_nodup p) (legal_nodup q)).2 h)
 intro a b _ _ h1 h2
 rw [mvLe_iff] at h1 h2
 obtain ⟨a1, a2, a3⟩ := a
 obtain ⟨b1, b2, b3⟩ := b
 simp only [Mv.mk.injEq]
 dsimp only at h1 h2
 omega
theorem over_of_ep {p : Pos} (hp : positionB p = true) {m : Mv} (hm : m ∈ legalL p) (he : epB p m = true) : p.over ≠ -1 ∧ overA p = p.over := by
 have hto := goes_ep (legal_parts hm).1 he
 obtain ⟨f0, f1, t0, t1, -, -⟩ := AllL_goes (legal_parts hm).1
 have hne : p.over ≠ -1 := by omega
 refine ⟨hne, ?_⟩
 rw [← overA_eq]
 unfold rOverA
 rw [if_neg hne, if_pos]
 rw [List.any_eq_true]
 refine ⟨m, by unfold movesP; rw [if_pos hp]; exact hm, ?_⟩
 simp only [epB, Bool.and_eq_true, beq_iff_eq] at he
 unfold rOverM
 simp only [Bool.and_eq_true, beq_iff_eq]
 exact ⟨⟨⟨hto, he.1.1⟩, he.1.2⟩, he.2⟩
theorem overA_or (p : Pos) : overA p = -1 ∨ overA p = p.over := by
 unfold overA; split
 ·exact .inl rfl
 ·split
  ·exact .inr rfl
  ·exact .inl rfl
theorem same_legal {p q : Pos} (h : Sim p q) (hp : positionB p = true) (hq : positionB q = true) (ho : overA p = overA q) :
 legalL p = legalL q ∧ ∀ m ∈ legalL p, Sim (movedP p m) (movedP q m) ∧ (movedP p m).over = (movedP q m).over := by
 have cp := (parts_iff.1 hp).castles
 have cq := (parts_iff.1 hq).castles
 have h1 : ∀ m ∈ legalL p, epB p m = true → p.over = q.over := by
  intro m hm he
  obtain ⟨hne, e⟩ := over_of_ep hp hm he
  rcases overA_or q with h' | h' <;> omega
 have h2 : ∀ m ∈ legalL q, epB q m = true → q.over = p.over := by
  intro m hm he
  obtain ⟨hne, e⟩ := over_of_ep hq hm he
  rcases overA_or p with h' | h' <;> omega
 refine ⟨legal_ext fun m => ⟨fun hm => legal_mem h cp cq (h1 m hm) hm, fun hm => legal_mem h.symm cq cp (h2 m hm) hm⟩, fun m hm => ?_⟩
 exact moved_sim h cp cq (h1 m hm) (legal_parts hm).2.1
theorem over_sim {p q : Pos} (h : Sim p q) (hp : positionB p = true) (hq : positionB q = true) (ho : p.over = q.over) : overA p = overA q := by
 have cp := (parts_iff.1 hp).castles
 have cq := (parts_iff.1 hq).castles
 have hl : legalL p = legalL q := legal_ext fun m => ⟨fun hm => legal_mem h cp cq (fun _ => ho) hm, fun hm => legal_mem h.symm cq cp (fun _ => ho.symm) hm⟩
 rw [← overA_eq, ← overA_eq]
 unfold rOverA movesP
 rw [hp, hq, hl, ho]
 have e : rOverM p = rOverM q := by
  funext m
  unfold rOverM
  rw [h.kind, h.bare, ho]
 rw [e]
def castlingOf (p : Pos) (m : Mv) : Int := if (rookOf p m (p.kind m.fr.toNat) (p.side m.fr.toNat)).2.2 = true then (if m.to_ = homeOf (p.side m.fr.toNat) + 2 then 1 else -1) else 0
theorem castlingOf_eq (p : Pos) (m : Mv) : castlingOf p m = if p.kind m.fr.toNat = 6 ∧ m.fr = homeOf (p.side m.fr.toNat) then
 (if m.to_ = homeOf (p.side m.fr.toNat) + 2 then (if p.castle / (if p.side m.fr.toNat = 1 then 4 else 1) % 2 = 1 then 1 else 0) else if m.to_ = homeOf (p.side m.fr.toNat) - 2 then (if p.castle / (if p.side m.fr.toNat = 1 then 8 else 2) % 2 = 1 then -1 else 0) else 0) else 0 := by
 unfold castlingOf rookOf
 split <;> rename_i hc
 ·split <;> rename_i h1
  ·simp [h1]
  ·split <;> rename_i h2
   ·simp
   ·simp
 ·simp
theorem rCastling_any (p : Pos) (m : Mv) (w : World) (H : CanAt p m) (c0 : 0 ≤ p.castle) (c1 : p.castle ≤ 15) :
 Calls Tryz.prog 119 #[.agg (posCells p), .agg #[.int .i64 m.fr, .int .i64 m.to_, .int .i64 m.be]] w (Ret (.int .i64 (castlingOf p m)) w) := by
 obtain ⟨f0, f1, t0, t1, ne, k0, k1, st, s0, be⟩ := H
 have HE := hid (castlingOf_eq p m)
 have f2 : m.fr.toNat < 64 := by omega
 have q0 : p.castle.tmod 2 = p.castle % 2 := Int.tmod_eq_emod_of_nonneg c0
 have q1 : p.castle.tdiv 2 = p.castle / 2 := Int.tdiv_eq_ediv_of_nonneg c0
 have q2 : p.castle.tdiv 4 = p.castle / 4 := Int.tdiv_eq_ediv_of_nonneg c0
 have q3 : p.castle.tdiv 8 = p.castle / 8 := Int.tdiv_eq_ediv_of_nonneg c0
 have q4 : (p.castle / 2).tmod 2 = p.castle / 2 % 2 := Int.tmod_eq_emod_of_nonneg (by omega)
 have q5 : (p.castle / 4).tmod 2 = p.castle / 4 % 2 := Int.tmod_eq_emod_of_nonneg (by omega)
 have q6 : (p.castle / 8).tmod 2 = p.castle / 8 % 2 := Int.tmod_eq_emod_of_nonneg (by omega)
 clear be k0 k1
 rcases s0 with e | e
 ·rw [e] at st
  have H0 := HE.out
  clear HE
  rw [st] at H0
  have HE := hid (H0.trans (show _ = (if p.kind m.fr.toNat = 6 ∧ m.fr = 4 then (if m.to_ = 6 then (if p.castle % 2 = 1 then 1 else 0) else if m.to_ = 2 then (if p.castle / 2 % 2 = 1 then -1 else 0) else 0) else 0) by simp [homeOf]))
  clear H0
  go_enter Tryz.func119, Tryz.ntmps119
  go_wp2_with (first | (go_at_call 121; with_reducible refine arm (rCas8_any p _ c0 c1) fun w1 hx hxc hxf hxb hxs => ?_; (try have := sW w w1)))
  all_goals (go_ret; exact Ret.mk' (vint (by rw [HE.out]; go_light; (repeat' split); all_goals first | rfl | (exfalso; (try simp at *); omega))) (Ext.auto))
 ·rw [e] at st
  have H0 := HE.out
  clear HE
  rw [st] at H0
  have HE := hid (H0.trans (show _ = (if p.kind m.fr.toNat = 6 ∧ m.fr = 60 then (if m.to_ = 62 then (if p.castle / 4 % 2 = 1 then 1 else 0) else if m.to_ = 58 then (if p.castle / 8 % 2 = 1 then -1 else 0) else 0) else 0) by simp [homeOf]))
  clear H0
  go_enter Tryz.func119, Tryz.ntmps119
  go_wp2_with (first | (go_at_call 121; with_reducible refine arm (rCas8_any p _ c0 c1) fun w1 hx hxc hxf hxb hxs => ?_; (try have := sW w w1)))
  all_goals (go_ret; exact Ret.mk' (vint (by rw [HE.out]; go_light; (repeat' split); all_goals first | rfl | (exfalso; (try simp at *); omega))) (Ext.auto))
theorem takesAt_over {p : Pos} {m : Mv} (f0 : 0 ≤ m.fr) (f1 : m.fr < 64) (t0 : 0 ≤ m.to_) (t1 : m.to_ < 64) : takesAt p m (p.kind m.fr.toNat) = if overC p m = true then m.fr / 8 * 8 + m.to_ % 8 else m.to_ := by
 have g1 : fileOf m.fr = m.fr % 8 := if_pos ⟨f0, f1⟩
 have g2 : fileOf m.to_ = m.to_ % 8 := if_pos ⟨t0, t1⟩
 unfold takesAt overC turnsOf
 rw [g1, g2]
 simp only [Bool.and_eq_true, beq_iff_eq, bne_iff_ne]
 by_cases h : p.kind m.fr.toNat = 1 ∧ m.to_ % 8 - m.fr % 8 ≠ 0 ∧ m.to_ = p.over ∧ bareB p m.to_ = true
 ·rw [if_pos h, if_pos ⟨⟨⟨h.1, by omega⟩, h.2.2.1⟩, h.2.2.2⟩]
 ·rw [if_neg h, if_neg (fun c => h ⟨c.1.1.1, by omega, c.1.2, c.2⟩)]
theorem rTakes_any (p : Pos) (m : Mv) (w : World) (h : takenE p m = 0) :
 Calls Tryz.prog 118 #[.agg (posCells p), .agg #[.int .i64 m.fr, .int .i64 m.to_, .int .i64 m.be]] w (Ret (.int .i64 (takesOf p m (p.kind m.fr.toNat))) w) := by
 have H := can_at h
 have HC := fun w => rCan_any p m w h
 obtain ⟨f0, f1, t0, t1, ne, -, -, -, -, -⟩ := H
 have h1 : m.fr.tdiv 8 = m.fr / 8 := by rw [Int.tdiv_eq_ediv_of_nonneg f0]
 have h2 : m.to_.tmod 8 = m.to_ % 8 := by rw [Int.tmod_eq_emod_of_nonneg t0]
 have i1 : isSq m.fr = true := by simp [isSq, f0, f1]
 have i2 : isSq m.to_ = true := by simp [isSq, t0, t1]
 have e1 : (m.fr == m.to_) = false := by simpa using ne
 have HT := takesAt_over (p := p) f0 f1 t0 t1
 have HO := fun w => rOver8_any p m w f0 f1 t0 t1
 have hx0 : 0 ≤ m.fr / 8 * 8 + m.to_ % 8 ∧ m.fr / 8 * 8 + m.to_ % 8 < 64 := by omega
 have HE := hid (show takesOf p m (p.kind m.fr.toNat) = if bareB p (takesAt p m (p.kind m.fr.toNat)) = true then -1 else takesAt p m (p.kind m.fr.toNat) from rfl)
 clear h ne
 cases hov : overC p m
 ·rw [hov] at HT HO
  rw [if_neg (by decide)] at HT
  rw [HT] at HE
  clear HT hov
  have t2 : m.to_.toNat < 64 := by omega
  by_cases b1 : p.kind m.to_.toNat = 0
  ·by_cases b2 : p.side m.to_.toNat = 0
   ·have hb := hid (show bareB p m.to_ = true by simp [bareB, b1, b2])
    go_enter Tryz.func118, Tryz.ntmps118
    go_wp2_with (first | (go_at_call 116; with_reducible refine arm (rIs8_any _ _) fun w1 hx hxc hxf hxb hxs => ?_; (try have := sW w w1)) | (go_at_call 117; with_reducible refine arm (HC _) fun w1 hx hxc hxf hxb hxs => ?_; (try have := sW w w1)) | (go_at_call 166; with_reducible refine arm (HO _) fun w1 hx hxc hxf hxb hxs => ?_; (try have := sW w w1)))
    all_goals (go_ret; exact Ret.mk' (vint (by rw [HE.out, hb.out]; rfl)) (Ext.auto))
   ·have hb := hid (show bareB p m.to_ = false by simp [bareB, b1, b2])
    have b3 : (p.side m.to_.toNat == 0) = false := by simpa using b2
    clear b2
    go_enter Tryz.func118, Tryz.ntmps118
    go_wp2_with (first | (go_at_call 116; with_reducible refine arm (rIs8_any _ _) fun w1 hx hxc hxf hxb hxs => ?_; (try have := sW w w1)) | (go_at_call 117; with_reducible refine arm (HC _) fun w1 hx hxc hxf hxb hxs => ?_; (try have := sW w w1)) | (go_at_call 166; with_reducible refine arm (HO _) fun w1 hx hxc hxf hxb hxs => ?_; (try have := sW w w1)))
    all_goals (go_ret; exact Ret.mk' (vint (by rw [HE.out, hb.out]; rfl)) (Ext.auto))
  ·have hb := hid (show bareB p m.to_ = false by simp [bareB, b1])
   have b3 : (p.kind m.to_.toNat == 0) = false := by simpa using b1
   clear b1
   go_enter Tryz.func118, Tryz.ntmps118
   go_wp2_with (first | (go_at_call 116; with_reducible refine arm (rIs8_any _ _) fun w1 hx hxc hxf hxb hxs => ?_; (try have := sW w w1)) | (go_at_call 117; with_reducible refine arm (HC _) fun w1 hx hxc hxf hxb hxs => ?_; (try have := sW w w1)) | (go_at_call 166; with_reducible refine arm (HO _) fun w1 hx hxc hxf hxb hxs => ?_; (try have := sW w w1)))
   all_goals (go_ret; exact Ret.mk' (vint (by rw [HE.out, hb.out]; rfl)) (Ext.auto))
 ·rw [hov] at HT HO
  rw [if_pos rfl] at HT
  rw [HT] at HE
  clear HT hov
  obtain ⟨x0, x1⟩ := hx0
  have t2 : (m.fr / 8 * 8 + m.to_ % 8).toNat < 64 := by omega
  by_cases b1 : p.kind (m.fr / 8 * 8 + m.to_ % 8).toNat = 0
  ·by_cases b2 : p.side (m.fr / 8 * 8 + m.to_ % 8).toNat = 0
   ·have hb := hid (show bareB p (m.fr / 8 * 8 + m.to_ % 8) = true by simp [bareB, b1, b2])
    go_enter Tryz.func118, Tryz.ntmps118
    go_wp2_with (first | (go_at_call 116; with_reducible refine arm (rIs8_any _ _) fun w1 hx hxc hxf hxb hxs => ?_; (try have := sW w w1)) | (go_at_call 117; with_reducible refine arm (HC _) fun w1 hx hxc hxf hxb hxs => ?_; (try have := sW w w1)) | (go_at_call 166; with_reducible refine arm (HO _) fun w1 hx hxc hxf hxb hxs => ?_; (try have := sW w w1)))
    all_goals (go_ret; exact Ret.mk' (vint (by rw [HE.out, hb.out]; rfl)) (Ext.auto))
   ·have hb := hid (show bareB p (m.fr / 8 * 8 + m.to_ % 8) = false by simp [bareB, b1, b2])
    have b3 : (p.side (m.fr / 8 * 8 + m.to_ % 8).toNat == 0) = false := by simpa using b2
    clear b2
    go_enter Tryz.func118, Tryz.ntmps118
    go_wp2_with (first | (go_at_call 116; with_reducible refine arm (rIs8_any _ _) fun w1 hx hxc hxf hxb hxs => ?_; (try have := sW w w1)) | (go_at_call 117; with_reducible refine arm (HC _) fun w1 hx hxc hxf hxb hxs => ?_; (try have := sW w w1)) | (go_at_call 166; with_reducible refine arm (HO _) fun w1 hx hxc hxf hxb hxs => ?_; (try have := sW w w1)))
    all_goals (go_ret; exact Ret.mk' (vint (by rw [HE.out, hb.out]; rfl)) (Ext.auto))
  ·have hb := hid (show bareB p (m.fr / 8 * 8 + m.to_ % 8) = false by simp [bareB, b1])
   have b3 : (p.kind (m.fr / 8 * 8 + m.to_ % 8).toNat == 0) = false := by simpa using b1
   clear b1
   go_enter Tryz.func118, Tryz.ntmps118
   go_wp2_with (first | (go_at_call 116; with_reducible refine arm (rIs8_any _ _) fun w1 hx hxc hxf hxb hxs => ?_; (try have := sW w w1)) | (go_at_call 117; with_reducible refine arm (HC _) fun w1 hx hxc hxf hxb hxs => ?_; (try have := sW w w1)) | (go_at_call 166; with_reducible refine arm (HO _) fun w1 hx hxc hxf hxb hxs => ?_; (try have := sW w w1)))
   all_goals (go_ret; exact Ret.mk' (vint (by rw [HE.out, hb.out]; rfl)) (Ext.auto))
theorem posCells_set (p q : Pos) (j : Nat) (v : Value) (hj : j < 133) (h : ∀ i, i < 133 → posCell q i = if i = j then v else posCell p i) : (posCells p).setIfInBounds j v = posCells q := by
 apply Array.ext_getElem?
 intro i
 rw [Array.getElem?_setIfInBounds]
 by_cases hi : i < 133
 ·rw [posCells_get q i hi, h i hi]
  by_cases e : j = i
  ·subst e; simp [posCells_size, hj]
  ·rw [if_neg e, posCells_get p i hi, if_neg (by omega)]
 ·have h1 : (posCells p)[i]? = none := by rw [Array.getElem?_eq_none_iff, posCells_size]; omega
  have h2 : (posCells q)[i]? = none := by rw [Array.getElem?_eq_none_iff, posCells_size]; omega
  rw [if_neg (by omega), h1, h2]
theorem pos_turn (p : Pos) (c : Int) : (posCells p).setIfInBounds 128 (.int .i64 c) = posCells { p with turn := c } :=
 posCells_set _ _ _ _ (by decide) fun i hi => by unfold posCell; (repeat' split) <;> first | rfl | omega
theorem pos_castle (p : Pos) (c : Int) : (posCells p).setIfInBounds 129 (.int .i64 c) = posCells { p with castle := c } :=
 posCells_set _ _ _ _ (by decide) fun i hi => by unfold posCell; (repeat' split) <;> first | rfl | omega
theorem pos_over (p : Pos) (c : Int) : (posCells p).setIfInBounds 130 (.int .i64 c) = posCells { p with over := c } :=
 posCells_set _ _ _ _ (by decide) fun i hi => by unfold posCell; (repeat' split) <;> first | rfl | omega
theorem pos_half (p : Pos) (c : Int) : (posCells p).setIfInBounds 131 (.int .i64 c) = posCells { p with half := c } :=
 posCells_set _ _ _ _ (by decide) fun i hi => by unfold posCell; (repeat' split) <;> first | rfl | omega
theorem pos_full (p : Pos) (c : Int) : (posCells p).setIfInBounds 132 (.int .i64 c) = posCells { p with full := c } :=
 posCells_set _ _ _ _ (by decide) fun i hi => by unfold posCell; (repeat' split) <;> first | rfl | omega
theorem pos_kind (p : Pos) (t c : Int) (h0 : 0 ≤ t) (h1 : t < 64) : (posCells p).setIfInBounds (t.toNat * 2) (.int .i64 c) = posCells { p with kind := fun i => if i = t.toNat then c else p.kind i } :=
 posCells_set _ _ _ _ (by omega) fun i hi => by
  unfold posCell
  by_cases e : i = t.toNat * 2
  ·subst e
   simp [show t.toNat * 2 < 128 by omega]
  ·by_cases e2 : i < 128
   ·by_cases e3 : i % 2 = 0
    ·simp [e, e2, e3, show ¬ (i / 2 = t.toNat) by omega]
    ·simp [e, e2, e3]
   ·simp [e, e2]
theorem pos_put (p : Pos) (t a b : Int) (h0 : 0 ≤ t) (h1 : t < 64) : ((posCells p).setIfInBounds (t.toNat * 2) (.int .i64 a)).setIfInBounds (t.toNat * 2 + 1) (.int .i64 b) = posCells (p.put t a b) := by
 rw [pos_kind p t a h0 h1]
 exact posCells_set _ _ _ _ (by omega) fun i hi => by
  unfold posCell Pos.put
  by_cases e : i = t.toNat * 2 + 1
  ·subst e
   simp [show t.toNat * 2 + 1 < 128 by omega, show (t.toNat * 2 + 1) % 2 = 1 by omega, show (t.toNat * 2 + 1) / 2 = t.toNat by omega]
  ·by_cases e2 : i < 128
   ·by_cases e3 : i % 2 = 0
    ·simp [e, e2, e3]
    ·simp [e, e2, e3, show ¬ (i / 2 = t.toNat) by omega]
   ·simp [e, e2]
theorem put_pos {p : Pos} {x y t : Int} {b : Nat} {w : World} {ty : TypeId} (hb : blk w b = some (.cells (posCells p) ty (0, 0))) (h0 : 0 ≤ t) (h1 : t < 64) :
 blk ((w.setCell ⟨b, t.toNat * 2, none⟩ (.int .i64 x)).setCell ⟨b, t.toNat * 2 + 1, none⟩ (.int .i64 y)) b = some (.cells (posCells (p.put t x y)) ty (0, 0)) := by
 rw [blk_setCell_same _ _ _ _ _ _ (blk_setCell_same _ _ _ _ _ _ hb), pos_put _ _ _ _ h0 h1]
def wUp (c s : Int) : Nat → Int
 | 0 => 0
 | j + 1 => wUp c s j + if c / (2 ^ j : Nat) % 2 = 1 ∧ s / (2 ^ j : Nat) % 2 = 0 then ((2 ^ j : Nat) : Int) else 0
theorem ck_wUp : ((List.range 16).all fun (c : Nat) => (List.range 16).all fun (l : Nat) => wUp c l 4 == notI c l && decide (0 ≤ wUp c l 1 ∧ wUp c l 1 ≤ 15 ∧ 0 ≤ wUp c l 2 ∧ wUp c l 2 ≤ 15 ∧ 0 ≤ wUp c l 3 ∧ wUp c l 3 ≤ 15)) = true := by decide +kernel
theorem wUp_at {c l : Int} (c0 : 0 ≤ c) (c1 : c ≤ 15) (l0 : 0 ≤ l) (l1 : l ≤ 15) : wUp c l 4 = notI c l ∧ 0 ≤ wUp c l 1 ∧ wUp c l 1 ≤ 15 ∧ 0 ≤ wUp c l 2 ∧ wUp c l 2 ≤ 15 ∧ 0 ≤ wUp c l 3 ∧ wUp c l 3 ≤ 15 := by
 have h1 := (List.all_eq_true.1 ck_wUp) c.toNat (List.mem_range.2 (by omega))
 have h2 := (List.all_eq_true.1 h1) l.toNat (List.mem_range.2 (by omega))
 rw [Int.toNat_of_nonneg c0, Int.toNat_of_nonneg l0, Bool.and_eq_true, decide_eq_true_eq, beq_iff_eq] at h2
 exact h2
theorem rWithout_any (c s : Int) (w : World) (c0 : 0 ≤ c) (c1 : c ≤ 15) (s0 : 0 ≤ s) (s1 : s ≤ 15) : Calls Tryz.prog 120 #[.int .i64 c, .int .i64 s] w (Ret (.int .i64 (notI c s)) w) := by
 obtain ⟨e4, w1, w2, w3, w4, w5, w6⟩ := wUp_at c0 c1 s0 s1
 have HE := hid e4
 have u1 := hid (show wUp c s 1 = (if c % 2 = 1 ∧ s % 2 = 0 then 1 else 0) by simp [wUp])
 have u2 := hid (show wUp c s 2 = wUp c s 1 + (if c / 2 % 2 = 1 ∧ s / 2 % 2 = 0 then 2 else 0) from rfl)
 have u3 := hid (show wUp c s 3 = wUp c s 2 + (if c / 4 % 2 = 1 ∧ s / 4 % 2 = 0 then 4 else 0) from rfl)
 have u4 := hid (show wUp c s 4 = wUp c s 3 + (if c / 8 % 2 = 1 ∧ s / 8 % 2 = 0 then 8 else 0) from rfl)
 generalize wUp c s 1 = x1 at *
 generalize wUp c s 2 = x2 at *
 generalize wUp c s 3 = x3 at *
 generalize wUp c s 4 = x4 at *
 clear e4
 have a1 : c.tdiv 1 = c := Int.tdiv_one c
 have a2 : c.tdiv 2 = c / 2 := Int.tdiv_eq_ediv_of_nonneg c0
 have a4 : c.tdiv 4 = c / 4 := Int.tdiv_eq_ediv_of_nonneg c0
 have a8 : c.tdiv 8 = c / 8 := Int.tdiv_eq_ediv_of_nonneg c0
 have b1 : s.tdiv 1 = s := Int.tdiv_one s
 have b2 : s.tdiv 2 = s / 2 := Int.tdiv_eq_ediv_of_nonneg s0
 have b4 : s.tdiv 4 = s / 4 := Int.tdiv_eq_ediv_of_nonneg s0
 have b8 : s.tdiv 8 = s / 8 := Int.tdiv_eq_ediv_of_nonneg s0
 have m1 : c.tmod 2 = c % 2 := Int.tmod_eq_emod_of_nonneg c0
 have m2 : (c / 2).tmod 2 = c / 2 % 2 := Int.tmod_eq_emod_of_nonneg (by omega)
 have m4 : (c / 4).tmod 2 = c / 4 % 2 := Int.tmod_eq_emod_of_nonneg (by omega)
 have m8 : (c / 8).tmod 2 = c / 8 % 2 := Int.tmod_eq_emod_of_nonneg (by omega)
 have n1 : s.tmod 2 = s % 2 := Int.tmod_eq_emod_of_nonneg s0
 have n2 : (s / 2).tmod 2 = s / 2 % 2 := Int.tmod_eq_emod_of_nonneg (by omega)
 have n4 : (s / 4).tmod 2 = s / 4 % 2 := Int.tmod_eq_emod_of_nonneg (by omega)
 have n8 : (s / 8).tmod 2 = s / 8 % 2 := Int.tmod_eq_emod_of_nonneg (by omega)
 go_enter Tryz.func120, Tryz.ntmps120
 go_wp2
 go_loopw [5, 6] (fun o i wr => ((i = .int .i64 1 ∧ o = .int .i64 0) ∨ (i = .int .i64 2 ∧ o = .int .i64 x1) ∨ (i = .int .i64 4 ∧ o = .int .i64 x2) ∨ (i = .int .i64 8 ∧ o = .int .i64 x3) ∨ (i = .int .i64 16 ∧ o = .int .i64 x4)) ∧ Ext w wr) (fun _ i _ => 16 - (intOf i).toNat)
 case atStart => exact ⟨.inl ⟨rfl, rfl⟩, (Ext.auto)⟩
 case round =>
  obtain ⟨hr, hx⟩ := hrel
  rcases hr with ⟨rfl, rfl⟩ | ⟨rfl, rfl⟩ | ⟨rfl, rfl⟩ | ⟨rfl, rfl⟩ | ⟨rfl, rfl⟩
  ·go_wp2
   all_goals
    go_roundw
    case rel => exact ⟨.inr (.inl ⟨by rfl, by rw [u1.out]; go_light; simp_all⟩), hx⟩
    case measure => simp [intOf]
  ·go_wp2
   all_goals
    go_roundw
    case rel => exact ⟨.inr (.inr (.inl ⟨by rfl, by rw [u2.out]; go_light; simp_all⟩)), hx⟩
    case measure => simp [intOf]
  ·go_wp2
   all_goals
    go_roundw
    case rel => exact ⟨.inr (.inr (.inr (.inl ⟨by rfl, by rw [u3.out]; go_light; simp_all⟩))), hx⟩
    case measure => simp [intOf]
  ·go_wp2
   all_goals
    go_roundw
    case rel => exact ⟨.inr (.inr (.inr (.inr ⟨by rfl, by rw [u4.out]; go_light; simp_all⟩))), hx⟩
    case measure => simp [intOf]
  ·go_wp2
   go_ret
   exact Ret.mk' (vint HE.out) hx
theorem wpListIn_of_list {P : Program} {ops : Array Oper} {Q : Exit → Act → World → Prop} (l n : Nat) (hL : ¬ LetsOut Q) : ∀ (rest : List Oper) (a : Act) (w : World), (∀ o ∈ rest, ∀ c, o.op ≠ .defer c) → wpList P ops Q rest a w → wpListIn (Fence.wide.inRound l) n P ops Q rest a w
 | [], _, _, _, h => h
 | o :: rest, a, w, hd, h => by
   unfold wpList at h
   unfold wpListIn
   split at h
   ·rename_i hw
    rw [if_pos hw]
    rcases h with h | h
    ·exact operIn_of_plain (hd o List.mem_cons_self) l n hL (fun a w h => wpListIn_of_list l n hL rest a w (fun o ho => hd o (List.mem_cons_of_mem _ ho)) h) h
    ·exact absurd h.2 hL
   ·rename_i hw
    rw [if_neg hw]
    exact ⟨fun _ _ => trivial, wpListIn_of_list l n hL rest _ _ (fun o ho => hd o (List.mem_cons_of_mem _ ho)) h⟩
theorem wpIn_round_list {P : Program} {id : Nat} {Q : Exit → Act → World → Prop} {a : Act} {w : World} {ls : List Oper} (l m : Nat) (hL : ¬ LetsOut Q) (hD : noDeferB ls = true) (h : wpList P ls.toArray Q ls a w) : (Code.region id ls.toArray false).wpIn (Fence.wide.inRound l) m P Q a w := by
 refine wpIn_region_lit (wpListIn_of_list l m hL ls a w (fun o ho c hc => ?_) h)
 have := List.all_eq_true.1 hD o ho
 rw [hc] at this
 cases this
theorem all_any (p : Pos) (w : World) : Calls Tryz.prog 106 #[.agg (posCells p)] w fun e w' =>
 e = .returned (.func (.func 153) #[] #[.pointer (some ⟨w.heap.size, 0, none⟩)]) ∧ Ext w w' ∧ blk w' w.heap.size = some (.cells (posCells p) 167 (0, 0)) := by
 go_enter Tryz.func106, Tryz.ntmps106
 go_wp2
 go_ret
 exact ⟨rfl, (Ext.auto), by simp [go_sem]⟩
theorem of_yes (p : Pos) (w : World) (hp : positionB p = true) : Calls Tryz.prog 69 #[.agg (posCells p)] w fun e w' =>
 ∃ b, e = .returned (.func (.func 153) #[] #[.pointer (some ⟨b, 0, none⟩)]) ∧ w.heap.size ≤ b ∧ Ext w w' ∧ blk w' b = some (.cells (posCells p) 167 (0, 0)) := by
 have HP : ∀ w, Calls Tryz.prog 28 #[.agg (posCells p)] w (Ret (.bool true) w) := fun w => by rw [← hp]; exact Position_any p w
 clear hp
 go_enter Tryz.func69, Tryz.ntmps69
 go_wp2_with (first | (go_at_call 28; with_reducible refine arm (HP _) fun w1 hx hxc hxf hxb hxs => ?_; (try have := sW w w1)) | (go_at_call 106; (with_reducible refine (all_any p _).mono ?_); rintro e w2 ⟨rfl, hx2, hC2⟩))
 go_ret
 exact ⟨_, rfl, by have := hx.le; simp at this; omega, (Ext.auto), hC2⟩
theorem of_no (p : Pos) (w : World) (hp : positionB p = false) : Calls Tryz.prog 69 #[.agg (posCells p)] w (Ret (.func (.func 105) #[] #[]) w) := by
 have HP : ∀ w, Calls Tryz.prog 28 #[.agg (posCells p)] w (Ret (.bool false) w) := fun w => by rw [← hp]; exact Position_any p w
 clear hp
 go_enter Tryz.func69, Tryz.ntmps69
 go_wp2_with (first | (go_at_call 28; with_reducible refine arm (HP _) fun w1 hx hxc hxf hxb hxs => ?_; (try have := sW w w1)))
 go_ret
 exact Ret.mk' rfl (Ext.auto)
abbrev MvL (p : Pos) := { m : Mv // m ∈ AllL p ∧ legalB p m = true }
def encL (p : Pos) (x : MvL p) : Array Value := #[.agg (mvC x.1), .agg (posCells (movedP p x.1))]
theorem all_stops (n : Nat) (hn : 1 ≤ n) (p : Pos) (bf : Nat) (Safe : World → Nat → Prop) (Fine : World → Prop) (G : Guards Safe Fine) (w : World) (hC : blk w bf = some (.cells (posCells p) 167 (0, 0))) (hF : Fine w) (hSb : Safe w bf) :
 SeqStopsK Fence.wide n Tryz.prog 153 #[.pointer (some ⟨bf, 0, none⟩)] (encL p) (KpG Safe Fine) (fun xs => xs.map (·.1) = legalL p) (fun _ => True) 900000 w := fun l J Jx W hW hJ _ hY h0 => by
 refine (all_in n hn l p bf Safe Fine G (fun pre W => ∃ q : List (MvL p), q.map (·.1) = pre ∧ J q W) (fun pre W => ∃ q : List (MvL p), q.map (·.1) = pre ∧ Jx q W) ?_ W (fun s A B row ⟨q, e, h⟩ hg hr => ⟨q, e, hJ _ _ _ _ h hg hr⟩) ((hW.block _ (blk_lt hC)).trans hC) (G.s1 _ _ hW hF) (G.s2 _ _ _ hW hF hSb) ⟨[], rfl, h0⟩).mono ?_
 ·rintro pre m W1 hx hm ⟨q, e, h⟩ hl
  obtain ⟨fn, tmps, assign, body, hy, hR⟩ := hY q ⟨m, hx, hm⟩ W1 h (by rw [← e] at hl; simpa using hl)
  refine ⟨fn, tmps, assign, body, hy, hR.mono ?_⟩
  rintro e' W' (⟨rfl, hJ3, hk⟩ | ⟨rfl, hJ3⟩)
  ·exact .inl ⟨rfl, ⟨_, by simp [e], hJ3⟩, hk⟩
  ·exact .inr ⟨rfl, ⟨_, by simp [e], hJ3⟩⟩
 ·rintro e W' ⟨hv, ⟨xs, hxs, q, hq, h⟩ | ⟨pre, -, q, hq, h⟩⟩
  ·exact ⟨hv, .inl ⟨q, hq.trans hxs, h⟩⟩
  ·exact ⟨hv, .inr ⟨q, trivial, h⟩⟩
theorem none_stops (n : Nat) (Kp : World → World → Prop) (w : World) : SeqStopsK Fence.wide n Tryz.prog 105 #[] (fun x : Empty => nomatch x) Kp (fun xs => xs = []) (fun _ => False) 900000 w := fun l J Jx W hW hJ _ hY h0 => by
 refine callsIn_of_wp Tryz.func105 rfl trivial ?_ rfl
 simp only [Tryz.ntmps105, List.size_toArray, List.length_cons, List.length_nil, Nat.reduceAdd, Nat.reduceSub, Array.replicate_succ, Array.replicate_zero, List.push_toArray, List.append_toArray, List.nil_append, List.cons_append]
 gi_wp2
 go_end0
 exact ⟨⟨_, rfl⟩, h0⟩
def FineM (bo : Nat) (A : World) : Prop := ∃ v, blk A bo = some (.cells #[v] 45 (0, 0)) ∧ ∀ k, v.ownBlock = some k → k < A.heap.size
def SafeM (bo : Nat) (A : World) (k : Nat) : Prop := k ≠ bo ∧ (∃ cs t fr, A.heap[k]? = some (.cells cs t fr)) ∧ ∀ v, blk A bo = some (.cells #[v] 45 (0, 0)) → v.ownBlock ≠ some k
theorem guardsM (bo : Nat) : Guards (SafeM bo) (FineM bo) where
 s1 A B hx := by
  rintro ⟨v, h1, h2⟩
  exact ⟨v, (hx.blk _ (blk_lt h1)).trans h1, fun k hk => Nat.lt_of_lt_of_le (h2 k hk) hx.le⟩
 s2 A B k hx := by
  rintro ⟨v, h1, h2⟩ ⟨h3, ⟨cs, t, fr, h4⟩, h5⟩
  refine ⟨h3, ⟨cs, t, fr, (hx.block k (Array.getElem?_eq_some_iff.1 h4).1).trans h4⟩, fun u hu => h5 u ?_⟩
  rw [← hx.blk _ (blk_lt h1)]; exact hu
 s3 A B k cs t fr hx := by
  rintro ⟨v, h1, h2⟩ hk hc
  have hlt := blk_lt h1
  refine ⟨by omega, ⟨cs, t, fr, hc⟩, fun u hu e => ?_⟩
  rw [hx.blk _ hlt, h1] at hu
  cases hu
  have := h2 k e
  omega
theorem kpg_ext {Safe : World → Nat → Prop} {Fine : World → Prop} (G : Guards Safe Fine) {A B : World} (hx : Ext A B) (hF : Fine A) (hs : ∀ k, Safe A k → k < A.heap.size) : KpG Safe Fine A B :=
 ⟨hx.le, fun h => G.s1 _ _ hx h, fun k hk => ⟨hx.block k (hs k hk), G.s2 _ _ _ hx hF hk⟩⟩
theorem safeM_lt {bo : Nat} {A : World} {k : Nat} (h : SafeM bo A k) : k < A.heap.size := by
 obtain ⟨-, ⟨cs, t, fr, h4⟩, -⟩ := h
 exact (Array.getElem?_eq_some_iff.1 h4).1
structure InvM (p : Pos) (w : World) (B0 : Nat) (q : List (MvL p)) (v : Value) (W : World) : Prop where
 o : blk W (w.heap.size + 1) = some (.cells #[v] 45 (0, 0))
 r : W.ownsRow B0 51 3 v (q.map (·.1)).length (mvsC (q.map (·.1)))
 x : Below w.heap.size w W
 n : B0 ≤ W.heap.size
theorem InvM.fine {p : Pos} {w : World} {B0 : Nat} {q : List (MvL p)} {v : Value} {W : World} (h : InvM p w B0 q v W) : FineM (w.heap.size + 1) W :=
 ⟨v, h.o, fun k hk => (h.r.lt k hk).2⟩
theorem legalL_len (p : Pos) : (legalL p).length ≤ 300000 := Nat.le_trans (List.length_filter_le _ _) (AllL_len p)
theorem Moves_yes (p : Pos) (w : World) (hp : positionB p = true) : Calls Tryz.prog 29 #[.agg (posCells p)] w (RetMvs (legalL p) w) := by
 refine (callsIn_wide (n := 5)).1 (callsIn_of_wp_marks Tryz.func29 rfl trivial ?_ rfl)
 simp only [Tryz.ntmps29, List.size_toArray, List.length_cons, List.length_nil, Nat.reduceAdd, Nat.reduceSub, Array.replicate_succ, Array.replicate_zero, List.push_toArray, List.append_toArray, List.nil_append, List.cons_append]
 refine wpIn_wide.2 ?_
 have HP := hid hp
 clear hp
 go_wp2_with (go_at_call 69; (with_reducible refine (of_yes p _ HP.out).mono ?_); rintro e w1 ⟨bf, rfl, hbf, hx1, hC⟩)
 have hlw := hx1.le
 simp only [World.size_alloc] at hlw hbf
 have hbo : blk w1 (w.heap.size + 1) = some (.cells #[.slice none 0 0] 45 (0, 0)) := (hx1.blk _ (by simp)).trans (by simp [go_sem])
 have hEx : Ext w w1 := Ext.trans (Ext.auto) hx1
 have hlC := blk_lt hC
 refine (wpIn_wide (n := 5)).1 ?_
 have hF1 : FineM (w.heap.size + 1) w1 := ⟨_, hbo, fun k hk => by cases hk⟩
 have hS1 : SafeM (w.heap.size + 1) w1 bf := ⟨by omega, ⟨_, _, _, hC⟩, fun v hv e => by rw [hbo] at hv; cases hv; cases e⟩
 try simp only [World.size_alloc] at hC ⊢
 refine wpIn_rangeFunc_ownH rfl (by decide) (gf := 153) (lb := #[.pointer (some ⟨bf, 0, none⟩)]) rfl trivial (enters_of Tryz.func153 (by kernel_rfl) rfl)
  (all_stops 4 (by decide) p _ _ _ (guardsM (w.heap.size + 1)) w1 hC hF1 hS1) (fun h k => h.trans k) ?kb (Below.refl _ _) (fun _ => rfl)
  (fun q W => ∃ v, InvM p w w1.heap.size q v W) (fun _ _ _ => False) ?own (fun _ _ _ _ _ hs _ _ => hs) ⟨_, hbo, World.ownsRow_nil _ _ _ _, hEx, Nat.le_refl _⟩
  (fun x a' W => ∃ b, w1.heap.size ≤ b ∧ blk W b = some (.cells (mvC x.1) 51 (0, 0)) ∧ a' = { tmps := #[.agg (posCells p), .pointer (some ⟨w.heap.size, 0, none⟩), .pointer (some ⟨w.heap.size + 1, 0, none⟩), .pointer (some ⟨b, 0, none⟩), .agg (posCells p), .func (.func 153) #[] #[.pointer (some ⟨bf, 0, none⟩)], .agg (mvC x.1), .agg (posCells (movedP p x.1)), undef, undef, undef, undef, undef], defers := [] })
  ?ownA ?assign ?body ?done ?stop
 case kb =>
  intro W l o o' hl ho hc hw
  have hne : l ≠ w.heap.size + 1 := by have := blk_lt hbo; omega
  have hsz := (grownBy_putObj' W l o').size
  have hbk : blk (W.putObj l o') (w.heap.size + 1) = blk W (w.heap.size + 1) := World.putObj_heap_other (by omega)
  refine ⟨hsz, ?_, ?_⟩
  ·rintro ⟨v, h1, h2⟩
   exact ⟨v, hbk.trans h1, fun k hk => Nat.lt_of_lt_of_le (h2 k hk) hsz⟩
  ·rintro k ⟨h3, ⟨cs, t, fr, h4⟩, h5⟩
   have hkl : k ≠ l := by rintro rfl; rw [ho] at h4; cases h4; cases hc
   have hk : (W.putObj l o').heap[k]? = W.heap[k]? := World.putObj_heap_other hkl
   exact ⟨hk, h3, ⟨cs, t, fr, hk.trans h4⟩, fun v hv => h5 v (hbk.symm.trans hv)⟩
 case own =>
  rintro q A B row ⟨v, hI⟩ hg hr
  refine ⟨v, (hg.block _ (blk_lt hI.o) (fun e => by have := (hr _ e.symm).1; omega)).trans hI.o, own_grown hI.r hg (fun r e => (hr r e).2), hI.x.grown hg hI.x.size (fun r e => by have := (hr r e).1; omega), Nat.le_trans hI.n hg.size⟩
 case ownA =>
  rintro x a' _ A B row ⟨b, hb, hbb, rfl⟩ hg hr
  refine ⟨b, hb, (hg.block _ (blk_lt hbb) (fun e => ?_)).trans hbb, rfl⟩
  obtain ⟨_, o, ho, hn⟩ := hr b e.symm
  rw [show A.heap[b]? = _ from hbb] at ho; cases ho; cases hn
 case assign =>
  rintro l pre x W K ⟨v, hI⟩ hK
  have hA : Ext W (W.alloc (.cells (mvC x.1) 51 (0, 0))) := Ext.alloc (Ext.refl _) _
  have hle := hI.n
  unfold encL mvC
  gi_wp2_with (rw [Oper.semAt_eq _ _ _ (fun c h => by cases h)]; go_simp)
  exact hK _ _ (hA.keeps _) (kpg_ext (guardsM _) hA hI.fine (fun k hk => safeM_lt hk)) ⟨v, (hA.blk _ (blk_lt hI.o)).trans hI.o, own_ext hI.r hA, Below.trans hI.x (Below.mono hA hI.x.size), by simp; omega⟩ ⟨W.heap.size, hle, blk_alloc_at _ _ _ rfl, rfl⟩
 case body =>
  rintro l q0 x a' W hl ⟨r, hr⟩ ⟨v, hI⟩ ⟨b, hb, hbb, rfl⟩ hlt
  have hown := hI.r
  have hlen9 : (q0.map (·.1)).length ≤ 900000 := by rw [List.length_map]; omega
  obtain ⟨L, hLq⟩ : ∃ L, L = q0.map (·.1) := ⟨_, rfl⟩
  rw [← hLq] at hown hlen9
  obtain ⟨av, capv, rfl⟩ := (Sl.of_own hown).form
  have hc2 := blk_cell hI.o 0
  have d0 := blk_cell hbb 0
  have d1 := blk_cell hbb 1
  have d2 := blk_cell hbb 2
  simp only [mvC, List.getElem?_toArray, List.getElem?_cons_zero, List.getElem?_cons_succ] at hc2 d0 d1 d2
  have hlb := blk_lt hbb
  have hlo := blk_lt hI.o
  have HI := hid hI
  have hbw : w.heap.size + 1 < w1.heap.size := blk_lt hbo
  have hle := hI.n
  have hxW := hI.x
  clear hI
  refine wpIn_block ?_
  refine wpIn_round_list l _ ?hL ?hD ?_
  case hL => rintro ⟨_, _, h⟩; exact h
  case hD => kernel_rfl
  have hA : Ext W (W.alloc (.cells #[.int .i64 x.1.fr, .int .i64 x.1.to_, .int .i64 x.1.be] 51 (0, 0))) := Ext.alloc (Ext.refl _) _
  have hownA := own_ext hown hA
  have hboA : blk (W.alloc (.cells #[.int .i64 x.1.fr, .int .i64 x.1.to_, .int .i64 x.1.be] 51 (0, 0))) (w.heap.size + 1) = _ := (hA.blk _ hlo).trans HI.out.o
  have hsA : (W.alloc (.cells #[.int .i64 x.1.fr, .int .i64 x.1.to_, .int .i64 x.1.be] 51 (0, 0))).heap.size = W.heap.size + 1 := by simp
  have HLT := hid hlt
  have hbase9 : w1.heap.size ≤ (W.alloc (.cells #[.int .i64 x.1.fr, .int .i64 x.1.to_, .int .i64 x.1.be] 51 (0, 0))).heap.size := by rw [hsA]; omega
  have HLq := hid hLq
  clear hLq
  go_wp2_with (at_builtin; refine wpList_append_mv rfl _ _ rfl w1.heap.size _ L rfl hownA W.heap.size x.1 rfl (blk_alloc_at _ _ _ rfl) hlen9 hbase9 (fun v' w2 hown2 hg2 hf2 => ?_); obtain ⟨n', hn'⟩ : ∃ n', n' = (L ++ [x.1]).length := ⟨_, rfl⟩; rw [← hn'] at hown2; (have HN' := hid hn'); clear hn'; obtain ⟨av', cv', rfl⟩ := (Sl.of_own hown2).form; (have hbo2 : blk w2 (w.heap.size + 1) = _ := (hg2.block _ (by rw [hsA]; omega) (fun e => by have := (own_cells hownA e.symm).1; omega)).trans hboA); (have hc3 := blk_cell hbo2 0); (have hf3 := blk_froz hbo2 0); (simp only [List.getElem?_toArray, List.getElem?_cons_zero] at hc3))
  have hbs := blk_setCell_same w2 (w.heap.size + 1) 0 _ _ (.slice av' n' cv') hbo2
  have hsz2 : (W.alloc (.cells #[.int .i64 x.1.fr, .int .i64 x.1.to_, .int .i64 x.1.be] 51 (0, 0))).heap.size ≤ w2.heap.size := hg2.size
  have hst := size_set w2 ⟨w.heap.size + 1, 0, none⟩ (.slice av' n' cv')
  have hm : (q0 ++ [x]).map (·.1) = L ++ [x.1] := by rw [List.map_append, ← HLq.out]; rfl
  have hx2 : Ext w w2 := Ext.grown (Below.trans hxW (Below.mono hA hxW.size)) (own_base hownA (by omega)) hg2
  refine ⟨((hA.keeps _).trans (own_keeps hownA hg2 _)).trans ((KeepsOthers.setCell _ _ _).from _), ⟨by omega, ?_, ?_⟩, .slice av' n' cv', hbs, ?_, Ext.set hx2 (by simp) _, by omega⟩
  ·rintro -
   exact ⟨_, hbs, fun k hk => by rw [hst]; exact (hown2.lt k hk).2⟩
  ·rintro k ⟨h3, ⟨cs, t, fr, h4⟩, h5⟩
   have hk1 : k < W.heap.size := (Array.getElem?_eq_some_iff.1 h4).1
   have hno := h5 _ HI.out.o
   have e1 : (w2.setCell ⟨w.heap.size + 1, 0, none⟩ (.slice av' n' cv')).heap[k]? = W.heap[k]? := by
    refine (blk_setCell_past w2 ⟨w.heap.size + 1, 0, none⟩ (.slice av' n' cv') k h3).trans ((hg2.block k (by rw [hsA]; omega) (fun e => hno e.symm)).trans ?_)
    exact hA.block k hk1
   refine ⟨e1, h3, ⟨cs, t, fr, e1.trans h4⟩, fun u hu e => ?_⟩
   rw [hbs] at hu
   cases hu
   rcases hf2 k e with h6 | h6
   ·exact hno h6
   ·rw [hsA] at h6; omega
  ·rw [hm, ← HN'.out]
   exact own_set hown2 (by show w.heap.size + 1 < _; omega) _
 case done =>
  rintro D xs W hD hxs ⟨v, hI⟩ hK
  have hr := hI.r
  have ho := hI.o
  have hxx := hI.x
  have hnn := hI.n
  clear hI
  rw [hxs] at hr
  have hLl := legalL_len p
  obtain ⟨L, hLe⟩ : ∃ L, L = legalL p := ⟨_, rfl⟩
  rw [← hLe] at hr hLl
  have HLe := hid hLe
  clear hxs hLe
  have hc2 := blk_cell ho 0
  have hf2 := blk_froz ho 0
  simp only [List.getElem?_toArray, List.getElem?_cons_zero] at hc2
  obtain ⟨av, capv, rfl⟩ := (Sl.of_own hr).form
  have hlo := blk_lt ho
  have hbw : w.heap.size + 1 < w1.heap.size := blk_lt hbo
  have HK := hid hK
  have HO := hid ho
  clear hK ho hbo
  go_wp2
  have hK4 : (W.setCell ⟨w.heap.size + 1, 0, none⟩ (.slice av L.length capv)).heap[D]? = some (.deferred (some [])) := (blk_setCell_past W _ _ D (by simp; omega)).trans HK.out
  have hown4 := own_set hr (a := ⟨w.heap.size + 1, 0, none⟩) (by show w.heap.size + 1 < _; omega) (.slice av L.length capv)
  have hc4 : (W.setCell ⟨w.heap.size + 1, 0, none⟩ (.slice av L.length capv)).cell? ⟨w.heap.size + 1, 0, none⟩ = some (.slice av L.length capv) := World.cell?_setCell_same' _ _ _ (by rw [hc2]; rfl)
  have hx4 : Ext w (W.setCell ⟨w.heap.size + 1, 0, none⟩ (.slice av L.length capv)) := Ext.set hxx (by simp) _
  have hown5 := own_blocks hown4 (w' := (W.setCell ⟨w.heap.size + 1, 0, none⟩ (.slice av L.length capv)).putObj D (.deferred none)) (fun b hb => World.putObj_heap_other (fun e => by
   obtain ⟨_, cur, hc⟩ := own_cells hown4 hb
   rw [e, hK4] at hc; cases hc))
  have hc5 : ((W.setCell ⟨w.heap.size + 1, 0, none⟩ (.slice av L.length capv)).putObj D (.deferred none)).cell? ⟨w.heap.size + 1, 0, none⟩ = some (.slice av L.length capv) := (World.cell?_of_block (World.putObj_heap_other (by show w.heap.size + 1 ≠ D; omega))).trans hc4
  have hx5 : Ext w ((W.setCell ⟨w.heap.size + 1, 0, none⟩ (.slice av L.length capv)).putObj D (.deferred none)) := Below.grown hx4 (grownBy_putObj' _ D _) hx4.size (fun k hk => by have e := Option.some.inj hk; omega)
  refine ⟨by simp, .inl ⟨_, _, rfl, run_takeDeferred hK4, ?_⟩⟩
  refine ⟨.slice av L.length capv, ?_, ?_⟩
  ·simp [results, Tryz.f29, go_sem, hc5]
  ·refine ⟨_, rfl, ?_, hx5⟩
   rw [← HLe.out]
   exact own_base hown5 (by omega)
 case stop =>
  rintro D c pre W _ _ h _
  exact h.elim
theorem Moves_no (p : Pos) (w : World) (hp : positionB p = false) : Calls Tryz.prog 29 #[.agg (posCells p)] w (RetMvs [] w) := by
 refine (callsIn_wide (n := 5)).1 (callsIn_of_wp_marks Tryz.func29 rfl trivial ?_ rfl)
 simp only [Tryz.ntmps29, List.size_toArray, List.length_cons, List.length_nil, Nat.reduceAdd, Nat.reduceSub, Array.replicate_succ, Array.replicate_zero, List.push_toArray, List.append_toArray, List.nil_append, List.cons_append]
 refine wpIn_wide.2 ?_
 have HP := hid hp
 clear hp
 go_wp2_with (go_at_call 69; (with_reducible refine (of_no p _ HP.out).mono ?_); rintro e w1 ⟨rfl, hx1⟩)
 have hlw := hx1.le
 simp only [World.size_alloc] at hlw
 have hbo : blk w1 (w.heap.size + 1) = some (.cells #[.slice none 0 0] 45 (0, 0)) := (hx1.blk _ (by simp)).trans (by simp [go_sem])
 have hEx : Ext w w1 := Ext.trans (Ext.auto) hx1
 have hbw : w.heap.size + 1 < w1.heap.size := blk_lt hbo
 refine (wpIn_wide (n := 5)).1 ?_
 refine wpIn_rangeFunc_ownH rfl (by decide) (gf := 105) (lb := #[]) rfl trivial (enters_of Tryz.func105 (by kernel_rfl) rfl)
  (none_stops 4 (fun _ _ => True) w1) (fun _ _ => trivial) (fun _ _ _ _ _ _ _ _ => trivial) (Below.refl _ _) (fun x => nomatch x)
  (fun q W => q = [] ∧ blk W (w.heap.size + 1) = some (.cells #[.slice none 0 0] 45 (0, 0)) ∧ Below w.heap.size w W) (fun _ _ _ => False) ?own (fun _ _ _ _ _ hs _ _ => hs) ⟨rfl, hbo, hEx⟩
  (fun x a' W => False) ?ownA ?assign ?body ?done ?stop
 case own =>
  rintro q A B row ⟨rfl, h1, h2⟩ hg hr
  exact ⟨rfl, (hg.block _ (blk_lt h1) (fun e => by have := (hr _ e.symm).1; omega)).trans h1, h2.grown hg h2.size (fun r e => by have := (hr r e).1; omega)⟩
 case ownA =>
  rintro x a' _ A B row h _ _
  exact h
 case assign =>
  rintro l pre x W K _ hK
  nomatch x
 case body =>
  rintro l q0 x a' W _ _ _ h _
  exact h.elim
 case done =>
  rintro D xs W hD hxs ⟨-, ho, hxx⟩ hK
  have hc2 := blk_cell ho 0
  have hf2 := blk_froz ho 0
  simp only [List.getElem?_toArray, List.getElem?_cons_zero] at hc2
  have hlo := blk_lt ho
  have HK := hid hK
  clear hK hbo
  go_wp2
  have hK4 : (W.setCell ⟨w.heap.size + 1, 0, none⟩ (.slice none 0 0)).heap[D]? = some (.deferred (some [])) := (blk_setCell_past W _ _ D (by simp; omega)).trans HK.out
  have hc4 : (W.setCell ⟨w.heap.size + 1, 0, none⟩ (.slice none 0 0)).cell? ⟨w.heap.size + 1, 0, none⟩ = some (.slice none 0 0) := World.cell?_setCell_same' _ _ _ (by rw [hc2]; rfl)
  have hx4 : Ext w (W.setCell ⟨w.heap.size + 1, 0, none⟩ (.slice none 0 0)) := Ext.set hxx (by simp) _
  have hc5 : ((W.setCell ⟨w.heap.size + 1, 0, none⟩ (.slice none 0 0)).putObj D (.deferred none)).cell? ⟨w.heap.size + 1, 0, none⟩ = some (.slice none 0 0) := (World.cell?_of_block (World.putObj_heap_other (by show w.heap.size + 1 ≠ D; omega))).trans hc4
  have hx5 : Ext w ((W.setCell ⟨w.heap.size + 1, 0, none⟩ (.slice none 0 0)).putObj D (.deferred none)) := Below.grown hx4 (grownBy_putObj' _ D _) hx4.size (fun k hk => by have e := Option.some.inj hk; omega)
  refine ⟨by simp, .inl ⟨_, _, rfl, run_takeDeferred hK4, ?_⟩⟩
  refine ⟨.slice none 0 0, ?_, ?_⟩
  ·simp [results, Tryz.f29, go_sem, hc5]
  ·exact ⟨_, rfl, World.ownsRow_nil _ _ _ _, hx5⟩
 case stop =>
  rintro D c pre W _ h _ _
  exact h.elim
theorem Moves_any (p : Pos) (w : World) : Calls Tryz.prog 29 #[.agg (posCells p)] w (RetMvs (movesP p) w) := by
 cases hp : positionB p
 ·have e : movesP p = [] := by unfold movesP; rw [hp]; rfl
  rw [e]; exact Moves_no p w hp
 ·have e : movesP p = legalL p := by unfold movesP; rw [hp]; rfl
  rw [e]; exact Moves_yes p w hp
def allUp (p : Pos) (n : Nat) : List Mv := (List.range n).flatMap fun (a : Nat) => rFromL p (a : Int)
theorem allUp_succ (p : Pos) (n : Nat) : allUp p (n + 1) = allUp p n ++ rFromL p (n : Int) := by simp [allUp, List.range_succ]
theorem rFrom_len (p : Pos) (a : Int) : (rFromL p a).length ≤ 256 := fromUp_len p a 64
theorem allUp_len (p : Pos) : ∀ n, (allUp p n).length ≤ n * 256
 | 0 => by simp [allUp]
 | n + 1 => by
   have h := allUp_len p n
   have h2 := rFrom_len p (n : Int)
   rw [allUp_succ, List.length_append]; omega
theorem rAll_any (p : Pos) (w : World) : Calls Tryz.prog 74 #[.agg (posCells p)] w (RetMvs (AllL p) w) := by
 have HE := hid (show AllL p = allUp p 64 from All_eq p)
 go_enter Tryz.func74, Tryz.ntmps74
 go_wp2
 go_loopw [3, 4] (fun u i wr => ∃ k : Nat, i = .int .i64 k ∧ k ≤ 64 ∧ MSf9 p w u (allUp p k) wr) (fun _ i _ => 64 - (intOf i).toNat)
 case atStart => exact ⟨0, rfl, by omega, by simp [go_sem], (Ext.auto), World.ownsRow_nil _ _ _ _⟩
 case round =>
  obtain ⟨k, rfl, hk, hM⟩ := hrel
  have hmb := hM.1
  have hlb := blk_lt hM.1
  have hlen := allUp_len p k
  have HM := hid hM
  by_cases hlt : k < 64
  ·have HS := hid (allUp_succ p k)
   have hl2 := rFrom_len p (k : Int)
   have hrow := hM.2.2
   generalize hA : allUp p k = A at *
   generalize hB : rFromL p (k : Int) = B at *
   have HB := hid hB
   obtain ⟨av, cv, rfl⟩ := (Sl.of_own hrow).form
   clear hM hA hB
   have HF : ∀ w, Calls Tryz.prog 113 #[.agg (posCells p), .int .i64 k] w (RetMvs B w) := fun w => by rw [← HB.out]; exact rFrom_any p k w (by omega) (by omega)
   have hAB : A.length + B.length ≤ 1000000 := by omega
   go_wp2_with (first | (go_at_call 113; (with_reducible refine (HF _).mono ?_); rintro e w1 ⟨v1, rfl, hown1, hx⟩; (have hown1' := hown1); obtain ⟨a1', c1', rfl⟩ := (Sl.of_own hown1).form; (have hxs := Ext.le hx)) | (at_builtin; refine wpList_append_sl Tryz.underlying45 info_mv rfl (by decide) (by decide) rfl _ _ rfl (w.heap.size + 1) _ A.length (mvsC A) rfl (own_ext hrow hx) _ B.length (mvsC B) rfl (Sl.of_own hown1') (mvs_one _) hAB (Nat.le_trans (Nat.succ_le_of_lt hlb) hxs) (fun v' w2 hown2 hg2 hf2 => ?_)))
   go_roundw
   case rel => exact ⟨k + 1, by go_num, by omega, by rw [HS.out]; exact (HM.out.ext hx).put (by rw [List.length_append, mvsC_append]; exact hown2) hg2⟩
   case measure => simp [intOf]; omega
  ·obtain rfl : k = 64 := by omega
   clear hM hmb
   go_wp2
   go_ret
   exact RetMvs.mk' HM.out.2.2 (by rw [HE.out]) (by rw [HE.out]) (by omega) HM.out.2.1
theorem cell_at {p : Pos} {W : World} {b : Nat} {t : TypeId} (h : blk W b = some (.cells (posCells p) t (0, 0))) (s : Int) (h0 : 0 ≤ s) (h1 : s < 64) : W.cell? ⟨b, s.toNat * 2, none⟩ = some (.int .i64 (p.kind s.toNat)) ∧ W.cell? ⟨b, s.toNat * 2 + 1, none⟩ = some (.int .i64 (p.side s.toNat)) := by
 rw [blk_cell h, blk_cell h]; exact ⟨posCells_kind p _ (by omega), posCells_side p _ (by omega)⟩
theorem overB_at {p : Pos} (h0 : 0 ≤ p.over) (h1 : p.over < 64) (ht : p.turn = 0 ∨ p.turn = 1) (hh : p.half = 0) : overB p = (p.over / 8 == overRank p && (p.kind p.over.toNat == 0 && p.side p.over.toNat == 0) && (p.kind (p.over + 8 * overOn p).toNat == 0 && p.side (p.over + 8 * overOn p).toNat == 0) && (p.kind (p.over - 8 * overOn p).toNat == 1 && p.side (p.over - 8 * overOn p).toNat == otherOf p.turn)) := by
 have e0 : decide (p.over = -1) = false := by simp; omega
 have e1 : rankOf p.over = p.over / 8 := if_pos ⟨h0, h1⟩
 unfold overB standsB
 rw [e0, e1, hh]
 simp only [Bool.false_or, decide_true, Bool.and_true]
 by_cases hr : p.over / 8 = overRank p
 ·have e2 : stepOf p.over 0 (overOn p) = p.over + 8 * overOn p := by
   apply step_up h0 h1 <;> (unfold overOn overRank at *; rcases ht with e | e <;> rw [e] at hr ⊢ <;> simp at hr ⊢ <;> omega)
  have e3 : stepOf p.over 0 (-overOn p) = p.over - 8 * overOn p := by
   rw [show p.over - 8 * overOn p = p.over + 8 * (-overOn p) by omega]
   apply step_up h0 h1 <;> (unfold overOn overRank at *; rcases ht with e | e <;> rw [e] at hr ⊢ <;> simp at hr ⊢ <;> omega)
  rw [e2, e3]
  simp [hr]
 ·have e4 : (p.over / 8 == overRank p) = false := by simpa using hr
  rw [e4]; simp [hr]
theorem rOver_any (p : Pos) (w : World) (ht : p.turn = 0 ∨ p.turn = 1) : Calls Tryz.prog 161 #[.agg (posCells p)] w (Ret (.bool (overB p)) w) := by
 have HN : ∀ k s w, Calls Tryz.prog 182 #[.agg #[.int .i64 k, .int .i64 s]] w (Ret (.bool (k == 0 && s == 0)) w) := fun k s w => rNone_any k s w
 by_cases o1 : p.over = -1
 ·have HE := hid (show overB p = true by simp [overB, o1])
  go_enter Tryz.func161, Tryz.ntmps161
  go_wp2
  all_goals (go_ret; exact Ret.mk' (vbool (by rw [HE.out])) (Ext.auto))
 have n1 : (p.over == -1) = false := by simpa using o1
 by_cases o2 : p.over < 0
 ·have HE := hid (show overB p = false by unfold overB; rw [show rankOf p.over = -1 from if_neg (by omega)]; unfold overRank; simp [o1]; intro h; split at h <;> omega)
  clear o1
  go_enter Tryz.func161, Tryz.ntmps161
  go_wp2
  all_goals (go_ret; exact Ret.mk' (vbool (by rw [HE.out])) (Ext.auto))
 by_cases o3 : 63 < p.over
 ·have HE := hid (show overB p = false by unfold overB; rw [show rankOf p.over = -1 from if_neg (by omega)]; unfold overRank; simp [o1]; intro h; split at h <;> omega)
  clear o1
  go_enter Tryz.func161, Tryz.ntmps161
  go_wp2
  all_goals (go_ret; exact Ret.mk' (vbool (by rw [HE.out])) (Ext.auto))
 by_cases o4 : p.half = 0
 ·have h0 : 0 ≤ p.over := by omega
  have h1 : p.over < 64 := by omega
  have HE := hid (overB_at h0 h1 ht o4)
  have q8 : p.over.tdiv 8 = p.over / 8 := Int.tdiv_eq_ediv_of_nonneg h0
  have e4 : (p.half != 0) = false := by simpa using o4
  have x0 : p.over.toNat < 64 := by omega
  clear o1 o4
  rcases ht with et | et
  ·have et2 : (p.turn == 1) = false := by simp [et]
   have HE := hid (HE.out.trans (show _ = (p.over / 8 == 5 && (p.kind p.over.toNat == 0 && p.side p.over.toNat == 0) && (p.kind (p.over + 8).toNat == 0 && p.side (p.over + 8).toNat == 0) && (p.kind (p.over - 8).toNat == 1 && p.side (p.over - 8).toNat == 1)) by unfold overOn overRank otherOf; simp [et]))
   clear et
   cases c1 : (p.over / 8 == 5)
   ·rw [c1] at HE
    go_enter Tryz.func161, Tryz.ntmps161
    go_upto_region 8 with (fail)
    obtain ⟨W1, hW1⟩ : ∃ W1, W1 = (w.alloc (.cells (posCells p) 30)).alloc (.cells #[.int .i64 1, .int .i64 1] 26) := ⟨_, rfl⟩
    have hb1 : blk W1 w.heap.size = some (.cells (posCells p) 30 (0, 0)) := by rw [hW1]; simp [go_sem]
    have hb2 : blk W1 (w.heap.size + 1) = some (.cells #[.int .i64 1, .int .i64 1] 26 (0, 0)) := by rw [hW1]; simp [go_sem]
    have hE1 : Ext w W1 := by rw [hW1]; exact (Ext.auto)
    rw [← hW1]
    clear hW1
    obtain ⟨z0, z1⟩ := cell_at hb1 p.over h0 h1
    have z6 := blk_cell hb1 130
    have z7 := blk_cell hb2 0
    have z8 := blk_cell hb2 1
    have l1 := blk_lt hb1
    have l2 := blk_lt hb2
    simp only [go_sem, List.getElem?_toArray, List.getElem?_cons_zero, List.getElem?_cons_succ] at z6 z7 z8
    refine wp_quiet (by kernel_rfl) (by kernel_rfl) ?_; (repeat (first | go_big_quiet_step ((first | (go_at_call 182; with_reducible exact Calls.reg (HN _ _ _)))) | quiet_step ((first | (go_at_call 182; with_reducible exact Calls.reg (HN _ _ _)))))); refine wpQuiet_nil ?_; intro w1 hx; obtain ⟨hxc, hxf, hxb, hxs⟩ := hx.als; (try have := sW w w1)
    go_wp2
    all_goals (go_ret; exact Ret.mk' (vbool (by rw [HE.out]; (try simp_all))) (hE1.trans hx))
   ·have c1' : p.over / 8 = 5 := by simpa using c1
    have y0 : 0 ≤ p.over + 8 := by omega
    have y1 : p.over + 8 < 64 := by omega
    have y2 : 0 ≤ p.over - 8 := by omega
    have y3 : p.over - 8 < 64 := by omega
    clear c1'
    cases c2 : (p.kind p.over.toNat == 0 && p.side p.over.toNat == 0)
    ·rw [c1, c2] at HE
     go_enter Tryz.func161, Tryz.ntmps161
     go_upto_region 8 with (fail)
     obtain ⟨W1, hW1⟩ : ∃ W1, W1 = (w.alloc (.cells (posCells p) 30)).alloc (.cells #[.int .i64 1, .int .i64 1] 26) := ⟨_, rfl⟩
     have hb1 : blk W1 w.heap.size = some (.cells (posCells p) 30 (0, 0)) := by rw [hW1]; simp [go_sem]
     have hb2 : blk W1 (w.heap.size + 1) = some (.cells #[.int .i64 1, .int .i64 1] 26 (0, 0)) := by rw [hW1]; simp [go_sem]
     have hE1 : Ext w W1 := by rw [hW1]; exact (Ext.auto)
     rw [← hW1]
     clear hW1
     obtain ⟨z0, z1⟩ := cell_at hb1 p.over h0 h1
     obtain ⟨z2, z3⟩ := cell_at hb1 (p.over + 8) y0 y1
     obtain ⟨z4, z5⟩ := cell_at hb1 (p.over - 8) y2 y3
     have z6 := blk_cell hb1 130
     have z7 := blk_cell hb2 0
     have z8 := blk_cell hb2 1
     have l1 := blk_lt hb1
     have l2 := blk_lt hb2
     simp only [go_sem, List.getElem?_toArray, List.getElem?_cons_zero, List.getElem?_cons_succ] at z6 z7 z8
     refine wp_quiet (by kernel_rfl) (by kernel_rfl) ?_; (repeat (first | go_big_quiet_step ((first | (go_at_call 182; with_reducible exact Calls.reg (HN _ _ _)))) | quiet_step ((first | (go_at_call 182; with_reducible exact Calls.reg (HN _ _ _)))))); refine wpQuiet_nil ?_; intro w1 hx; obtain ⟨hxc, hxf, hxb, hxs⟩ := hx.als; (try have := sW w w1)
     go_wp2
     all_goals (go_ret; exact Ret.mk' (vbool (by rw [HE.out]; (try simp_all))) (hE1.trans hx))
    ·cases c3 : (p.kind (p.over + 8).toNat == 0 && p.side (p.over + 8).toNat == 0)
     ·rw [c1, c2, c3] at HE
      go_enter Tryz.func161, Tryz.ntmps161
      go_upto_region 8 with (fail)
      obtain ⟨W1, hW1⟩ : ∃ W1, W1 = (w.alloc (.cells (posCells p) 30)).alloc (.cells #[.int .i64 1, .int .i64 1] 26) := ⟨_, rfl⟩
      have hb1 : blk W1 w.heap.size = some (.cells (posCells p) 30 (0, 0)) := by rw [hW1]; simp [go_sem]
      have hb2 : blk W1 (w.heap.size + 1) = some (.cells #[.int .i64 1, .int .i64 1] 26 (0, 0)) := by rw [hW1]; simp [go_sem]
      have hE1 : Ext w W1 := by rw [hW1]; exact (Ext.auto)
      rw [← hW1]
      clear hW1
      obtain ⟨z0, z1⟩ := cell_at hb1 p.over h0 h1
      obtain ⟨z2, z3⟩ := cell_at hb1 (p.over + 8) y0 y1
      obtain ⟨z4, z5⟩ := cell_at hb1 (p.over - 8) y2 y3
      have z6 := blk_cell hb1 130
      have z7 := blk_cell hb2 0
      have z8 := blk_cell hb2 1
      have l1 := blk_lt hb1
      have l2 := blk_lt hb2
      simp only [go_sem, List.getElem?_toArray, List.getElem?_cons_zero, List.getElem?_cons_succ] at z6 z7 z8
      refine wp_quiet (by kernel_rfl) (by kernel_rfl) ?_; (repeat (first | go_big_quiet_step ((first | (go_at_call 182; with_reducible exact Calls.reg (HN _ _ _)))) | quiet_step ((first | (go_at_call 182; with_reducible exact Calls.reg (HN _ _ _)))))); refine wpQuiet_nil ?_; intro w1 hx; obtain ⟨hxc, hxf, hxb, hxs⟩ := hx.als; (try have := sW w w1)
      go_wp2
      all_goals (go_ret; exact Ret.mk' (vbool (by rw [HE.out]; (try simp_all))) (hE1.trans hx))
     ·rw [c1, c2, c3] at HE
      go_enter Tryz.func161, Tryz.ntmps161
      go_upto_region 8 with (fail)
      obtain ⟨W1, hW1⟩ : ∃ W1, W1 = (w.alloc (.cells (posCells p) 30)).alloc (.cells #[.int .i64 1, .int .i64 1] 26) := ⟨_, rfl⟩
      have hb1 : blk W1 w.heap.size = some (.cells (posCells p) 30 (0, 0)) := by rw [hW1]; simp [go_sem]
      have hb2 : blk W1 (w.heap.size + 1) = some (.cells #[.int .i64 1, .int .i64 1] 26 (0, 0)) := by rw [hW1]; simp [go_sem]
      have hE1 : Ext w W1 := by rw [hW1]; exact (Ext.auto)
      rw [← hW1]
      clear hW1
      obtain ⟨z0, z1⟩ := cell_at hb1 p.over h0 h1
      obtain ⟨z2, z3⟩ := cell_at hb1 (p.over + 8) y0 y1
      obtain ⟨z4, z5⟩ := cell_at hb1 (p.over - 8) y2 y3
      have z6 := blk_cell hb1 130
      have z7 := blk_cell hb2 0
      have z8 := blk_cell hb2 1
      have l1 := blk_lt hb1
      have l2 := blk_lt hb2
      simp only [go_sem, List.getElem?_toArray, List.getElem?_cons_zero, List.getElem?_cons_succ] at z6 z7 z8
      refine wp_quiet (by kernel_rfl) (by kernel_rfl) ?_; (repeat (first | go_big_quiet_step ((first | (go_at_call 182; with_reducible exact Calls.reg (HN _ _ _)))) | quiet_step ((first | (go_at_call 182; with_reducible exact Calls.reg (HN _ _ _)))))); refine wpQuiet_nil ?_; intro w1 hx; obtain ⟨hxc, hxf, hxb, hxs⟩ := hx.als; (try have := sW w w1)
      go_wp2
      all_goals (go_ret; exact Ret.mk' (vbool (by rw [HE.out]; (try simp_all))) (hE1.trans hx))
  ·have et2 : (p.turn == 1) = true := by simp [et]
   have HE := hid (HE.out.trans (show _ = (p.over / 8 == 2 && (p.kind p.over.toNat == 0 && p.side p.over.toNat == 0) && (p.kind (p.over + -8).toNat == 0 && p.side (p.over + -8).toNat == 0) && (p.kind (p.over - -8).toNat == 1 && p.side (p.over - -8).toNat == 0)) by unfold overOn overRank otherOf; simp [et]))
   rw [show p.over - -8 = p.over + 8 by omega] at HE
   clear et
   cases c1 : (p.over / 8 == 2)
   ·rw [c1] at HE
    go_enter Tryz.func161, Tryz.ntmps161
    go_upto_region 8 with (fail)
    obtain ⟨W1, hW1⟩ : ∃ W1, W1 = (w.alloc (.cells (posCells p) 30)).alloc (.cells #[.int .i64 1, .int .i64 0] 26) := ⟨_, rfl⟩
    have hb1 : blk W1 w.heap.size = some (.cells (posCells p) 30 (0, 0)) := by rw [hW1]; simp [go_sem]
    have hb2 : blk W1 (w.heap.size + 1) = some (.cells #[.int .i64 1, .int .i64 0] 26 (0, 0)) := by rw [hW1]; simp [go_sem]
    have hE1 : Ext w W1 := by rw [hW1]; exact (Ext.auto)
    rw [← hW1]
    clear hW1
    obtain ⟨z0, z1⟩ := cell_at hb1 p.over h0 h1
    have z6 := blk_cell hb1 130
    have z7 := blk_cell hb2 0
    have z8 := blk_cell hb2 1
    have l1 := blk_lt hb1
    have l2 := blk_lt hb2
    simp only [go_sem, List.getElem?_toArray, List.getElem?_cons_zero, List.getElem?_cons_succ] at z6 z7 z8
    refine wp_quiet (by kernel_rfl) (by kernel_rfl) ?_; (repeat (first | go_big_quiet_step ((first | (go_at_call 182; with_reducible exact Calls.reg (HN _ _ _)))) | quiet_step ((first | (go_at_call 182; with_reducible exact Calls.reg (HN _ _ _)))))); refine wpQuiet_nil ?_; intro w1 hx; obtain ⟨hxc, hxf, hxb, hxs⟩ := hx.als; (try have := sW w w1)
    go_wp2
    all_goals (go_ret; exact Ret.mk' (vbool (by rw [HE.out]; (try simp_all))) (hE1.trans hx))
   ·have c1' : p.over / 8 = 2 := by simpa using c1
    have y0 : 0 ≤ p.over + -8 := by omega
    have y1 : p.over + -8 < 64 := by omega
    have y2 : 0 ≤ p.over - -8 := by omega
    have y3 : p.over - -8 < 64 := by omega
    clear c1'
    cases c2 : (p.kind p.over.toNat == 0 && p.side p.over.toNat == 0)
    ·rw [c1, c2] at HE
     go_enter Tryz.func161, Tryz.ntmps161
     go_upto_region 8 with (fail)
     obtain ⟨W1, hW1⟩ : ∃ W1, W1 = (w.alloc (.cells (posCells p) 30)).alloc (.cells #[.int .i64 1, .int .i64 0] 26) := ⟨_, rfl⟩
     have hb1 : blk W1 w.heap.size = some (.cells (posCells p) 30 (0, 0)) := by rw [hW1]; simp [go_sem]
     have hb2 : blk W1 (w.heap.size + 1) = some (.cells #[.int .i64 1, .int .i64 0] 26 (0, 0)) := by rw [hW1]; simp [go_sem]
     have hE1 : Ext w W1 := by rw [hW1]; exact (Ext.auto)
     rw [← hW1]
     clear hW1
     obtain ⟨z0, z1⟩ := cell_at hb1 p.over h0 h1
     obtain ⟨z2, z3⟩ := cell_at hb1 (p.over + -8) y0 y1
     obtain ⟨z4, z5⟩ := cell_at hb1 (p.over - -8) y2 y3
     simp only [Int.sub_neg] at z4 z5
     have z6 := blk_cell hb1 130
     have z7 := blk_cell hb2 0
     have z8 := blk_cell hb2 1
     have l1 := blk_lt hb1
     have l2 := blk_lt hb2
     simp only [go_sem, List.getElem?_toArray, List.getElem?_cons_zero, List.getElem?_cons_succ] at z6 z7 z8
     refine wp_quiet (by kernel_rfl) (by kernel_rfl) ?_; (repeat (first | go_big_quiet_step ((first | (go_at_call 182; with_reducible exact Calls.reg (HN _ _ _)))) | quiet_step ((first | (go_at_call 182; with_reducible exact Calls.reg (HN _ _ _)))))); refine wpQuiet_nil ?_; intro w1 hx; obtain ⟨hxc, hxf, hxb, hxs⟩ := hx.als; (try have := sW w w1)
     go_wp2
     all_goals (go_ret; exact Ret.mk' (vbool (by rw [HE.out]; (try simp_all))) (hE1.trans hx))
    ·cases c3 : (p.kind (p.over + -8).toNat == 0 && p.side (p.over + -8).toNat == 0)
     ·rw [c1, c2, c3] at HE
      go_enter Tryz.func161, Tryz.ntmps161
      go_upto_region 8 with (fail)
      obtain ⟨W1, hW1⟩ : ∃ W1, W1 = (w.alloc (.cells (posCells p) 30)).alloc (.cells #[.int .i64 1, .int .i64 0] 26) := ⟨_, rfl⟩
      have hb1 : blk W1 w.heap.size = some (.cells (posCells p) 30 (0, 0)) := by rw [hW1]; simp [go_sem]
      have hb2 : blk W1 (w.heap.size + 1) = some (.cells #[.int .i64 1, .int .i64 0] 26 (0, 0)) := by rw [hW1]; simp [go_sem]
      have hE1 : Ext w W1 := by rw [hW1]; exact (Ext.auto)
      rw [← hW1]
      clear hW1
      obtain ⟨z0, z1⟩ := cell_at hb1 p.over h0 h1
      obtain ⟨z2, z3⟩ := cell_at hb1 (p.over + -8) y0 y1
      obtain ⟨z4, z5⟩ := cell_at hb1 (p.over - -8) y2 y3
      simp only [Int.sub_neg] at z4 z5
      have z6 := blk_cell hb1 130
      have z7 := blk_cell hb2 0
      have z8 := blk_cell hb2 1
      have l1 := blk_lt hb1
      have l2 := blk_lt hb2
      simp only [go_sem, List.getElem?_toArray, List.getElem?_cons_zero, List.getElem?_cons_succ] at z6 z7 z8
      refine wp_quiet (by kernel_rfl) (by kernel_rfl) ?_; (repeat (first | go_big_quiet_step ((first | (go_at_call 182; with_reducible exact Calls.reg (HN _ _ _)))) | quiet_step ((first | (go_at_call 182; with_reducible exact Calls.reg (HN _ _ _)))))); refine wpQuiet_nil ?_; intro w1 hx; obtain ⟨hxc, hxf, hxb, hxs⟩ := hx.als; (try have := sW w w1)
      go_wp2
      all_goals (go_ret; exact Ret.mk' (vbool (by rw [HE.out]; (try simp_all))) (hE1.trans hx))
     ·rw [c1, c2, c3] at HE
      go_enter Tryz.func161, Tryz.ntmps161
      go_upto_region 8 with (fail)
      obtain ⟨W1, hW1⟩ : ∃ W1, W1 = (w.alloc (.cells (posCells p) 30)).alloc (.cells #[.int .i64 1, .int .i64 0] 26) := ⟨_, rfl⟩
      have hb1 : blk W1 w.heap.size = some (.cells (posCells p) 30 (0, 0)) := by rw [hW1]; simp [go_sem]
      have hb2 : blk W1 (w.heap.size + 1) = some (.cells #[.int .i64 1, .int .i64 0] 26 (0, 0)) := by rw [hW1]; simp [go_sem]
      have hE1 : Ext w W1 := by rw [hW1]; exact (Ext.auto)
      rw [← hW1]
      clear hW1
      obtain ⟨z0, z1⟩ := cell_at hb1 p.over h0 h1
      obtain ⟨z2, z3⟩ := cell_at hb1 (p.over + -8) y0 y1
      obtain ⟨z4, z5⟩ := cell_at hb1 (p.over - -8) y2 y3
      simp only [Int.sub_neg] at z4 z5
      have z6 := blk_cell hb1 130
      have z7 := blk_cell hb2 0
      have z8 := blk_cell hb2 1
      have l1 := blk_lt hb1
      have l2 := blk_lt hb2
      simp only [go_sem, List.getElem?_toArray, List.getElem?_cons_zero, List.getElem?_cons_succ] at z6 z7 z8
      refine wp_quiet (by kernel_rfl) (by kernel_rfl) ?_; (repeat (first | go_big_quiet_step ((first | (go_at_call 182; with_reducible exact Calls.reg (HN _ _ _)))) | quiet_step ((first | (go_at_call 182; with_reducible exact Calls.reg (HN _ _ _)))))); refine wpQuiet_nil ?_; intro w1 hx; obtain ⟨hxc, hxf, hxb, hxs⟩ := hx.als; (try have := sW w w1)
      go_wp2
      all_goals (go_ret; exact Ret.mk' (vbool (by rw [HE.out]; (try simp_all))) (hE1.trans hx))
 ·have HE := hid (show overB p = false by unfold overB; simp [o1, o4])
  have e4 : (p.half != 0) = true := by simpa using o4
  clear o1 o4
  go_enter Tryz.func161, Tryz.ntmps161
  go_wp2
  all_goals (go_ret; exact Ret.mk' (vbool (by rw [HE.out])) (Ext.auto))
theorem rRight_any (p : Pos) (w : World) : Calls Tryz.prog 110 #[.agg (posCells p)] w (Ret (.bool (rightB p)) w) := by
 have HPc : ∀ w, Calls Tryz.prog 159 #[.agg (posCells p)] w (Ret (.bool (piecesB p)) w) := fun w => rPieces_any p w
 have HCs : ∀ w, Calls Tryz.prog 160 #[.agg (posCells p)] w (Ret (.bool (castlesB p)) w) := fun w => rCastles_any p w
 have HE := hid (show rightB p = (piecesB p && castlesB p && overB p && decide (0 ≤ p.half ∧ p.half ≤ 1024 ∧ 1 ≤ p.full ∧ p.full ≤ 16384)) from rfl)
 cases h1 : piecesB p
 ·rw [h1] at HPc HE
  go_enter Tryz.func110, Tryz.ntmps110
  go_wp2_with (first | (go_at_call 159; with_reducible refine arm (HPc _) fun w1 hx hxc hxf hxb hxs => ?_; (try have := sW w w1)))
  all_goals (go_ret; exact Ret.mk' (vbool (by rw [HE.out]; simp)) (Ext.auto))
 ·have ht := (pieces_iff.1 h1).2.2.2
  have HOv : ∀ w, Calls Tryz.prog 161 #[.agg (posCells p)] w (Ret (.bool (overB p)) w) := fun w => rOver_any p w ht
  clear ht
  rw [h1] at HPc HE
  cases h2 : castlesB p
  ·rw [h2] at HCs HE
   go_enter Tryz.func110, Tryz.ntmps110
   go_wp2_with (first | (go_at_call 159; with_reducible refine arm (HPc _) fun w1 hx hxc hxf hxb hxs => ?_; (try have := sW w w1)) | (go_at_call 160; with_reducible refine arm (HCs _) fun w1 hx hxc hxf hxb hxs => ?_; (try have := sW w w1)))
   all_goals (go_ret; exact Ret.mk' (vbool (by rw [HE.out]; simp)) (Ext.auto))
  ·rw [h2] at HCs HE
   cases h3 : overB p
   ·rw [h3] at HOv HE
    go_enter Tryz.func110, Tryz.ntmps110
    go_wp2_with (first | (go_at_call 159; with_reducible refine arm (HPc _) fun w1 hx hxc hxf hxb hxs => ?_; (try have := sW w w1)) | (go_at_call 160; with_reducible refine arm (HCs _) fun w1 hx hxc hxf hxb hxs => ?_; (try have := sW w w1)) | (go_at_call 161; with_reducible refine arm (HOv _) fun w1 hx hxc hxf hxb hxs => ?_; (try have := sW w w1)))
    all_goals (go_ret; exact Ret.mk' (vbool (by rw [HE.out]; simp)) (Ext.auto))
   ·rw [h3] at HOv HE
    go_enter Tryz.func110, Tryz.ntmps110
    go_wp2_with (first | (go_at_call 159; with_reducible refine arm (HPc _) fun w1 hx hxc hxf hxb hxs => ?_; (try have := sW w w1)) | (go_at_call 160; with_reducible refine arm (HCs _) fun w1 hx hxc hxf hxb hxs => ?_; (try have := sW w w1)) | (go_at_call 161; with_reducible refine arm (HOv _) fun w1 hx hxc hxf hxb hxs => ?_; (try have := sW w w1)))
    all_goals (go_ret; exact Ret.mk' (vbool (by rw [HE.out]; rw [Bool.eq_iff_iff]; simp [*]; try omega)) (Ext.auto))
theorem rPosition_any (p : Pos) (w : World) : Calls Tryz.prog 73 #[.agg (posCells p)] w (Ret (.bool (positionB p)) w) := by
 have HR : ∀ w, Calls Tryz.prog 110 #[.agg (posCells p)] w (Ret (.bool (rightB p)) w) := fun w => rRight_any p w
 have HC : ∀ s w, Calls Tryz.prog 111 #[.agg (posCells p), .int .i64 s] w (Ret (.bool (checkB p s)) w) := fun s w => rCheck_any p s w
 have HO : ∀ s w, Calls Tryz.prog 112 #[.int .i64 s] w (Ret (.int .i64 (otherOf s)) w) := fun s w => rOther_any s w
 cases h1 : rightB p
 ·have HE := hid (show positionB p = false by unfold positionB; rw [h1]; rfl)
  rw [h1] at HR
  go_enter Tryz.func73, Tryz.ntmps73
  go_wp2
  refine wp_quiet (by kernel_rfl) (by kernel_rfl) ?_; (repeat (first | go_big_quiet_step ((first | (go_at_call 110; with_reducible exact Calls.reg (HR _)) | (go_at_call 112; with_reducible exact Calls.reg (HO _ _)) | (go_at_call 111; with_reducible exact Calls.reg (HC _ _)))) | quiet_step ((first | (go_at_call 110; with_reducible exact Calls.reg (HR _)) | (go_at_call 112; with_reducible exact Calls.reg (HO _ _)) | (go_at_call 111; with_reducible exact Calls.reg (HC _ _)))))); refine wpQuiet_nil ?_; intro w1 hx; obtain ⟨hxc, hxf, hxb, hxs⟩ := hx.als; (try have := sW w w1)
  go_wp2
  go_ret
  exact Ret.mk' (vbool HE.out.symm) (Ext.auto)
 ·have HE := hid (show positionB p = !checkB p (otherOf p.turn) by unfold positionB; rw [h1]; rfl)
  rw [h1] at HR
  go_enter Tryz.func73, Tryz.ntmps73
  go_wp2
  refine wp_quiet (by kernel_rfl) (by kernel_rfl) ?_; (repeat (first | go_big_quiet_step ((first | (go_at_call 110; with_reducible exact Calls.reg (HR _)) | (go_at_call 112; with_reducible exact Calls.reg (HO _ _)) | (go_at_call 111; with_reducible exact Calls.reg (HC _ _)))) | quiet_step ((first | (go_at_call 110; with_reducible exact Calls.reg (HR _)) | (go_at_call 112; with_reducible exact Calls.reg (HO _ _)) | (go_at_call 111; with_reducible exact Calls.reg (HC _ _)))))); refine wpQuiet_nil ?_; intro w1 hx; obtain ⟨hxc, hxf, hxb, hxs⟩ := hx.als; (try have := sW w w1)
  go_wp2
  go_ret
  exact Ret.mk' (vbool HE.out.symm) (Ext.auto)
end Go.Proofs.YtdmgimfgoajmjaaGreatDoor
