/- Positions that are the same have the same legal moves; how far a game has gone. -/
import Derived.Test.YtdmgimfgoajmjaaGreatDoorC32
import Derived.Test.YtdmgimfgoajmjaaGreatDoorC49
import Derived.Test.YtdmgimfgoajmjaaGreatDoorC40
import Derived.Test.YtdmgimfgoajmjaaGreatDoorC24
import Derived.Test.YtdmgimfgoajmjaaGreatDoorC01
import Derived.Test.YtdmgimfgoajmjaaGreatDoorC37
import Derived.Test.YtdmgimfgoajmjaaGreatDoorC39
import Derived.Test.YtdmgimfgoajmjaaGreatDoorC46
import Derived.Test.YtdmgimfgoajmjaaGreatDoorC47
set_option linter.unusedVariables false
set_option linter.unusedSimpArgs false
namespace Go.Proofs.YtdmgimfgoajmjaaGreatDoor
open Go.RowKit
def weight : Int → Int → Nat → Int := fun k sd i => if k = 0 then 0 else if k = 1 then (if sd = 1 then 1 + (i : Int) / 8 else 8 - (i : Int) / 8) else 1
def phi (p : Pos) : Int := total weight p 64 + p.castle
theorem ck_notle : ((List.range 16).all fun (c : Nat) => (List.range 16).all fun (l : Nat) => decide (notI c l ≤ c)) = true := by decide +kernel
theorem notI_le {c l : Int} (c0 : 0 ≤ c) (c1 : c ≤ 15) (l0 : 0 ≤ l) (l1 : l ≤ 15) : notI c l ≤ c := by
  have h1 := (List.all_eq_true.1 ck_notle) c.toNat (List.mem_range.2 (by omega))
  have h2 := (List.all_eq_true.1 h1) l.toNat (List.mem_range.2 (by omega))
  rw [Int.toNat_of_nonneg c0, Int.toNat_of_nonneg l0, decide_eq_true_eq] at h2
  exact h2
theorem weight_pos {k s : Int} {i : Nat} (hi : i < 64) (hk : k ≠ 0) : 1 ≤ weight k s i := by
  unfold weight
  rw [if_neg hk]
  split
  · split <;> omega
  · omega
theorem phi_falls {p : Pos} {m : Mv} (hp : positionB p = true) (hm : m ∈ legalL p) : phi (movedP p m) ≤ phi p ∧ ((movedP p m).half = 0 ∨ (movedP p m).castle ≠ p.castle → phi (movedP p m) < phi p) := by
  have H := parts_iff.1 hp
  obtain ⟨hA, hE, hC⟩ := legal_parts hm
  have K := known H.over hA hE
  have hT := stood_total weight (by intro i; rfl) (by intro s i j; rfl) K rfl rfl
  have he := moved_eq H hE
  obtain ⟨c0, c1, -, -, -, -⟩ := castle_iff.1 H.castles
  obtain ⟨l0, l1, -⟩ := lost_two m.fr m.to_
  have hn := notI_le c0 c1 l0 l1
  obtain ⟨hok, -, -, -⟩ := pieces_iff.1 H.pieces
  have hhalf : (movedP p m).half = halfOf p m (p.kind m.fr.toNat) := by rw [he]; rfl
  have hcas : (movedP p m).castle = notI p.castle (lostL [m.fr, m.to_]) := by rw [he]; rfl
  have hphi : phi (movedP p m) = total weight (stood p m (p.kind m.fr.toNat) (p.side m.fr.toNat)) 64 + notI p.castle (lostL [m.fr, m.to_]) := by
    have hw : ∀ (q r : Pos) n, q.kind = r.kind → q.side = r.side → total weight q n = total weight r n := by
      intro q r n h1 h2
      induction n with
      | zero => rfl
      | succ n ih => simp only [total, ih, h1, h2]
    unfold phi
    rw [hcas]
    congr 1
    rw [he]
    exact hw _ _ _ rfl rfl
  rw [hhalf, hcas, hphi, hT]
  have hq : halfOf p m (p.kind m.fr.toNat) = 0 → ¬ (takesOf p m (p.kind m.fr.toNat) = -1 ∧ p.kind m.fr.toNat ≠ 1) := by
    rintro h ⟨h1, h2⟩
    unfold halfOf quietB at h
    rw [h1] at h
    have h0 := H.h0; have h1' := H.h1
    rw [if_pos (by simpa using h2), upTo_bd (by omega) (by omega) h0 (by omega)] at h
    split at h <;> omega
  obtain ⟨b0, b1, b2, b3⟩ := be_bd K
  obtain ⟨a0, a1, a2⟩ := K.at_bd
  have hcap : (if takesOf p m (p.kind m.fr.toNat) = -1 then 0 else weight (p.kind (takesOf p m (p.kind m.fr.toNat)).toNat) (p.side (takesOf p m (p.kind m.fr.toNat)).toNat) (takesOf p m (p.kind m.fr.toNat)).toNat) ≥ (if takesOf p m (p.kind m.fr.toNat) = -1 then 0 else 1) := by
    split
    · omega
    · rename_i h
      refine weight_pos (by omega) (fun h0 => ?_)
      rcases K.at0 with h' | h' | h'
      · exact h h'.1
      · have hb := h'.2.1
        rw [← h'.1] at hb
        have ho := okSq_iff.1 (hok (takesOf p m (p.kind m.fr.toNat)).toNat (by omega))
        have hside : p.side (takesOf p m (p.kind m.fr.toNat)).toNat = 0 := by omega
        unfold bareB at hb; rw [h0, hside] at hb; cases hb
      · rw [h'.2.2.2.1] at h0; cases h0
  have hmv : weight (beOf m (p.kind m.fr.toNat)) (p.side m.fr.toNat) m.to_.toNat ≤ weight (p.kind m.fr.toNat) (p.side m.fr.toNat) m.fr.toNat ∧ (p.kind m.fr.toNat = 1 → weight (beOf m (p.kind m.fr.toNat)) (p.side m.fr.toNat) m.to_.toNat < weight (p.kind m.fr.toNat) (p.side m.fr.toNat) m.fr.toNat) := by
    have f0 := K.f0; have f1 := K.f1; have t0 := K.t0; have t1 := K.t1
    have ho := okSq_iff.1 (hok m.fr.toNat (by omega))
    have k0 := K.k0
    by_cases hk : p.kind m.fr.toNat = 1
    · have hpw := K.pawn hk
      have hs := K.s0
      have hlt : weight (beOf m (p.kind m.fr.toNat)) (p.side m.fr.toNat) m.to_.toNat < weight (p.kind m.fr.toNat) (p.side m.fr.toNat) m.fr.toNat := by
        generalize beOf m (p.kind m.fr.toNat) = be at *
        generalize takesOf p m (p.kind m.fr.toNat) = at_ at *
        have hed : 8 ≤ m.fr ∧ m.fr < 56 := by omega
        unfold weight
        rw [if_neg (show ¬ be = 0 by omega), if_neg (show ¬ p.kind m.fr.toNat = 0 by omega), if_pos hk, Int.toNat_of_nonneg f0, Int.toNat_of_nonneg t0]
        unfold onOfS at hpw
        rcases hs with e | e <;> rw [e] at hpw ⊢ <;> simp at hpw ⊢ <;> split <;> omega
      exact ⟨by omega, fun _ => hlt⟩
    · have hbe : beOf m (p.kind m.fr.toNat) = p.kind m.fr.toNat := by
        rcases K.be0 with h | h
        · exact h.1
        · exact absurd h.1 hk
      rw [hbe]
      have : weight (p.kind m.fr.toNat) (p.side m.fr.toNat) m.to_.toNat = weight (p.kind m.fr.toNat) (p.side m.fr.toNat) m.fr.toNat := by
        unfold weight; rw [if_neg (by omega), if_neg hk, if_neg (by omega), if_neg hk]
      exact ⟨by omega, fun h => absurd h hk⟩
  unfold phi
  generalize weight (beOf m (p.kind m.fr.toNat)) (p.side m.fr.toNat) m.to_.toNat = A at *
  generalize weight (p.kind m.fr.toNat) (p.side m.fr.toNat) m.fr.toNat = B at *
  generalize takesOf p m (p.kind m.fr.toNat) = at_ at *
  generalize (if at_ = -1 then 0 else weight (p.kind at_.toNat) (p.side at_.toNat) at_.toNat) = C at *
  constructor
  · split at hcap <;> omega
  · rintro (h | h)
    · have := hq h
      by_cases e : at_ = -1
      · have := hmv.2 (by omega)
        rw [if_pos e] at hcap
        omega
      · rw [if_neg e] at hcap
        omega
    · split at hcap <;> omega
structure Sim (p q : Pos) : Prop where
  kind : p.kind = q.kind
  side : p.side = q.side
  turn : p.turn = q.turn
  castle : p.castle = q.castle
theorem Sim.symm {p q : Pos} (h : Sim p q) : Sim q p := ⟨h.kind.symm, h.side.symm, h.turn.symm, h.castle.symm⟩
theorem Sim.bare {p q : Pos} (h : Sim p q) (t : Int) : bareB p t = bareB q t := by unfold bareB; rw [h.kind, h.side]
theorem Sim.upto {p q : Pos} (h : Sim p q) : ∀ l, upto p l = upto q l
  | [] => rfl
  | x :: r => by unfold Go.Proofs.YtdmgimfgoajmjaaGreatDoor.upto; rw [h.upto r]; unfold emptyAt; rw [h.kind, h.side]
theorem Sim.from {p q : Pos} (h : Sim p q) (s : Int) : fromL p s = fromL q s := by
  have ha : ∀ W, alongL p s W = alongL q s W := by
    intro W; unfold alongL; congr 1; funext x; exact h.upto _
  unfold fromL
  rw [h.kind, h.side, ha, ha, ha]
theorem Sim.attackers {p q : Pos} (h : Sim p q) (s b : Int) (n : Nat) : attackersL p s b n = attackersL q s b n := by
  unfold attackersL
  congr 2; funext a
  unfold attacksB; rw [h.side, h.from]
theorem Sim.attacked {p q : Pos} (h : Sim p q) (b : Int) (l : List Int) : attacked p b l = attacked q b l := by
  unfold Go.Proofs.YtdmgimfgoajmjaaGreatDoor.attacked; congr 1; funext s; rw [h.attackers]
theorem Sim.check {p q : Pos} (h : Sim p q) (s : Int) : checkB p s = checkB q s := by
  unfold checkB findL; rw [h.attacked, h.kind, h.side]
theorem Sim.att {p q : Pos} (h : Sim p q) (a t : Int) : rAttB p a t = rAttB q a t := by
  have ho : openB p a t = openB q a t := by unfold openB; congr 1; funext x; exact h.bare x
  unfold rAttB; rw [h.kind, h.side, ho]
theorem Sim.freeAt {p q : Pos} (h : Sim p q) (t : Int) : freeAt p t = freeAt q t := by unfold Go.Proofs.YtdmgimfgoajmjaaGreatDoor.freeAt; rw [h.bare]
theorem Sim.castling {p q : Pos} (h : Sim p q) (a t : Int) : rCastleB p a t = rCastleB q a t := by
  unfold rCastleB standsB; simp only [h.kind, h.side, h.castle, h.freeAt]
theorem Sim.can {p q : Pos} (h : Sim p q) (m : Mv) : takenE p m = takenE q m := by
  unfold takenE canB; rw [h.kind, h.side, h.turn]
theorem Sim.rook {p q : Pos} (h : Sim p q) (m : Mv) (k s : Int) : rookOf p m k s = rookOf q m k s := by
  unfold rookOf; rw [h.castle]
def epB (p : Pos) (m : Mv) : Bool := p.kind m.fr.toNat == 1 && m.fr % 8 != m.to_ % 8 && bareB p m.to_
theorem Sim.ep {p q : Pos} (h : Sim p q) (m : Mv) : epB p m = epB q m := by unfold epB; rw [h.kind, h.bare]
theorem goes_ep {p : Pos} {m : Mv} (hm : m ∈ AllL p) (he : epB p m = true) : m.to_ = p.over := by
  obtain ⟨f0, f1, t0, t1, hg, -⟩ := AllL_goes hm
  simp only [epB, Bool.and_eq_true, beq_iff_eq, bne_iff_ne] at he
  obtain ⟨⟨e1, e2⟩, e3⟩ := he
  unfold rGoesB at hg
  split at hg
  · have hon : onOfS (p.side m.fr.toNat) = 8 ∨ onOfS (p.side m.fr.toNat) = -8 := by unfold onOfS; split <;> omega
    unfold rPawnB at hg
    dsimp only at hg
    try rw [if_pos e1] at hg
    rw [if_neg (by omega), if_neg (by omega)] at hg
    split at hg
    · rw [e3] at hg
      simp at hg; exact hg.2
    · cases hg
  · cases hg
theorem goes_sim {p q : Pos} (h : Sim p q) {m : Mv} (ho : epB p m = true → p.over = q.over) : rGoesB p m.fr m.to_ = rGoesB q m.fr m.to_ := by
  by_cases hx : p.over = q.over
  · unfold rGoesB rPawnB
    simp only [h.kind, h.side, h.turn, h.att, h.bare, h.castling, h.freeAt, hx]
  · have he : epB p m = false := by rw [Bool.eq_false_iff]; exact fun e => hx (ho e)
    have he2 : epB q m = false := by rw [← h.ep]; exact he
    unfold rGoesB
    simp only [h.kind, h.side, h.turn, h.att, h.bare, h.castling]
    by_cases hc : mayB (q.kind m.fr.toNat) (q.side m.fr.toNat) = true ∧ q.side m.fr.toNat = q.turn ∧ m.fr ≠ m.to_
    · rw [if_pos hc, if_pos hc]
      by_cases hk : q.kind m.fr.toNat = 1
      · rw [if_pos hk, if_pos hk]
        unfold rPawnB
        simp only [h.kind, h.side, h.att, h.bare, h.freeAt]
        generalize (if q.side m.fr.toNat = 1 then (6 : Int) else 1) = z
        split
        · rfl
        · split
          · rfl
          · split
            · rename_i hA
              obtain ⟨g1, -⟩ := att_pawn hA hk
              have hfd : m.fr % 8 ≠ m.to_ % 8 := by
                intro e; unfold fd at g1; rw [e] at g1; simp [absOf] at g1
              have hb : bareB q m.to_ = false := by
                unfold epB at he2; rw [hk] at he2
                have : (m.fr % 8 != m.to_ % 8) = true := by simpa using hfd
                rw [this] at he2; simpa using he2
              have hf : freeAt q m.to_ = false := by unfold freeAt; rw [hb]; simp
              rw [hf]; simp
            · rfl
      · rw [if_neg hk, if_neg hk]
    · rw [if_neg hc, if_neg hc]
theorem mem_All {p : Pos} {m : Mv} : m ∈ AllL p ↔ 0 ≤ m.fr ∧ m.fr < 64 ∧ 0 ≤ m.to_ ∧ m.to_ < 64 ∧ rGoesB p m.fr m.to_ = true ∧ m ∈ toOne m.fr (p.kind m.fr.toNat) (p.side m.fr.toNat) m.to_ := by
  refine ⟨AllL_goes, ?_⟩
  rintro ⟨f0, f1, t0, t1, hg, hm⟩
  rw [All_eq]
  unfold rAllL
  rw [List.mem_flatMap]
  refine ⟨m.fr.toNat, List.mem_range.2 (by omega), mem_rFrom.2 ⟨m.to_, t0, t1, ?_, ?_⟩⟩
  · rw [Int.toNat_of_nonneg f0]; exact hg
  · rw [Int.toNat_of_nonneg f0]; exact hm
theorem takes_sim {p q : Pos} (h : Sim p q) {m : Mv} (ho : epB p m = true → p.over = q.over) (hE : takenE p m = 0) : takesOf p m (p.kind m.fr.toNat) = takesOf q m (q.kind m.fr.toNat) := by
  have hr : 0 ≤ m.fr ∧ m.fr < 64 ∧ 0 ≤ m.to_ ∧ m.to_ < 64 := by
    unfold takenE at hE
    split at hE
    · rename_i h; unfold rangeB at h; rw [decide_eq_true_eq] at h; omega
    · cases hE
  have htn : turnsOf m ≠ 0 ↔ m.fr % 8 ≠ m.to_ % 8 := by
    unfold turnsOf fileOf
    rw [if_pos (by omega), if_pos (by omega)]; omega
  have ha : takesAt p m (p.kind m.fr.toNat) = takesAt q m (q.kind m.fr.toNat) := by
    unfold takesAt
    by_cases hx : p.over = q.over
    · rw [h.kind, h.bare, hx]
    · have he : ¬ epB p m = true := fun e => hx (ho e)
      have he' : ¬ (p.kind m.fr.toNat = 1 ∧ turnsOf m ≠ 0 ∧ bareB p m.to_ = true) := by
        rintro ⟨h1, h2, h3⟩
        exact he (by simp only [epB, Bool.and_eq_true, beq_iff_eq, bne_iff_ne]; exact ⟨⟨h1, htn.1 h2⟩, h3⟩)
      rw [if_neg (fun c => he' ⟨c.1, c.2.1, c.2.2.2⟩), if_neg (fun c => he' ⟨by rw [h.kind]; exact c.1, c.2.1, by rw [h.bare]; exact c.2.2.2⟩)]
  unfold takesOf
  rw [ha, h.bare]
theorem moved_sim {p q : Pos} (h : Sim p q) (hp : castlesB p = true) (hq : castlesB q = true) {m : Mv} (ho : epB p m = true → p.over = q.over) (hE : takenE p m = 0) : Sim (movedP p m) (movedP q m) ∧ (movedP p m).over = (movedP q m).over := by
  have hE2 : takenE q m = 0 := by rw [← h.can]; exact hE
  have ht := takes_sim h ho hE
  have hk : p.kind m.fr.toNat = q.kind m.fr.toNat := by rw [h.kind]
  have hs : p.side m.fr.toNat = q.side m.fr.toNat := by rw [h.side]
  have hput : ∀ (a b : Pos) x y (l : List Int), a.kind = b.kind → a.side = b.side → (putAll a x y l).kind = (putAll b x y l).kind ∧ (putAll a x y l).side = (putAll b x y l).side := by
    intro a b x y l
    induction l generalizing a b with
    | nil => intro h1 h2; exact ⟨h1, h2⟩
    | cons t r ih =>
      intro h1 h2
      unfold putAll
      split
      · exact ih _ _ (by simp only [Pos.put, h1]) (by simp only [Pos.put, h2])
      · exact ih _ _ h1 h2
  have hst : (stood p m (p.kind m.fr.toNat) (p.side m.fr.toNat)).kind = (stood q m (q.kind m.fr.toNat) (q.side m.fr.toNat)).kind ∧ (stood p m (p.kind m.fr.toNat) (p.side m.fr.toNat)).side = (stood q m (q.kind m.fr.toNat) (q.side m.fr.toNat)).side := by
    unfold stood
    rw [ht, hk, hs, h.rook]
    dsimp only
    obtain ⟨a1, a2⟩ := hput p q 0 0 [takesOf q m (q.kind m.fr.toNat), m.fr] h.kind h.side
    obtain ⟨b1, b2⟩ := hput _ _ (beOf m (q.kind m.fr.toNat)) (q.side m.fr.toNat) [m.to_] a1 a2
    split
    · obtain ⟨c1, c2⟩ := hput _ _ 0 0 [(rookOf q m (q.kind m.fr.toNat) (q.side m.fr.toNat)).1] b1 b2
      exact hput _ _ _ _ _ c1 c2
    · exact ⟨b1, b2⟩
  unfold movedP moveP
  rw [if_pos hE, if_pos hE2, fixC_id hp, fixC_id hq]
  refine ⟨⟨hst.1, hst.2, ?_, ?_⟩, ?_⟩
  · show otherOf p.turn = otherOf q.turn; rw [h.turn]
  · show notI p.castle _ = notI q.castle _; rw [h.castle]
  · show overOf m _ _ = overOf m _ _; rw [hk, hs]
theorem legal_mem {p q : Pos} (h : Sim p q) (hp : castlesB p = true) (hq : castlesB q = true) {m : Mv} (ho : epB p m = true → p.over = q.over) (hm : m ∈ legalL p) : m ∈ legalL q := by
  obtain ⟨hA, hE, hC⟩ := legal_parts hm
  unfold legalL at hm ⊢
  rw [List.mem_filter] at hm ⊢
  obtain ⟨-, hl⟩ := hm
  obtain ⟨f0, f1, t0, t1, hg, ht⟩ := AllL_goes hA
  refine ⟨mem_All.2 ⟨f0, f1, t0, t1, by rw [← goes_sim h ho]; exact hg, by rw [← h.kind, ← h.side]; exact ht⟩, ?_⟩
  rw [← hl]
  unfold legalB castlesMB safeB
  rw [← h.can, h.kind, h.turn, h.attacked, (moved_sim h hp hq ho hE).1.check]
theorem legal_sorted (p : Pos) : (legalL p).Pairwise (fun x y => mvLe x y = true) := by
  unfold legalL; rw [All_eq]; exact (rAll_sorted p).sublist List.filter_sublist
theorem legal_nodup (p : Pos) : (legalL p).Nodup := by
  unfold legalL; rw [All_eq]; exact (rAll_nodup p).sublist List.filter_sublist
theorem legal_ext {p q : Pos} (h : ∀ m, m ∈ legalL p ↔ m ∈ legalL q) : legalL p = legalL q := by
  refine List.Perm.eq_of_pairwise ?_ (legal_sorted p) (legal_sorted q) ((List.perm_ext_iff_of_nodup (legal_nodup p) (legal_nodup q)).2 h)
  intro a b _ _ h1 h2
  rw [mvLe_iff] at h1 h2
  obtain ⟨a1, a2, a3⟩ := a
  obtain ⟨b1, b2, b3⟩ := b
  simp only [Mv.mk.injEq]
  dsimp only at h1 h2
  omega
theorem over_of_ep {p : Pos} (hp : positionB p = true) {m : Mv} (hm : m ∈ legalL p) (he : epB p m = true) : p.over ≠ -1 ∧ overA p = p.over := by
  have hto := goes_ep (legal_parts hm).1 he
  obtain ⟨f0, f1, t0, t1, -, -⟩ := AllL_goes (legal_parts hm).1
  have hne : p.over ≠ -1 := by omega
  refine ⟨hne, ?_⟩
  rw [← overA_eq]
  unfold rOverA
  rw [if_neg hne, if_pos]
  rw [List.any_eq_true]
  refine ⟨m, by unfold movesP; rw [if_pos hp]; exact hm, ?_⟩
  simp only [epB, Bool.and_eq_true, beq_iff_eq] at he
  unfold rOverM
  simp only [Bool.and_eq_true, beq_iff_eq]
  exact ⟨⟨⟨hto, he.1.1⟩, he.1.2⟩, he.2⟩
theorem overA_or (p : Pos) : overA p = -1 ∨ overA p = p.over := by
  unfold overA; split
  · exact .inl rfl
  · split
    · exact .inr rfl
    · exact .inl rfl
theorem same_legal {p q : Pos} (h : Sim p q) (hp : positionB p = true) (hq : positionB q = true) (ho : overA p = overA q) :
    legalL p = legalL q ∧ ∀ m ∈ legalL p, Sim (movedP p m) (movedP q m) ∧ (movedP p m).over = (movedP q m).over := by
  have cp := (parts_iff.1 hp).castles
  have cq := (parts_iff.1 hq).castles
  have h1 : ∀ m ∈ legalL p, epB p m = true → p.over = q.over := by
    intro m hm he
    obtain ⟨hne, e⟩ := over_of_ep hp hm he
    rcases overA_or q with h' | h' <;> omega
  have h2 : ∀ m ∈ legalL q, epB q m = true → q.over = p.over := by
    intro m hm he
    obtain ⟨hne, e⟩ := over_of_ep hq hm he
    rcases overA_or p with h' | h' <;> omega
  refine ⟨legal_ext fun m => ⟨fun hm => legal_mem h cp cq (h1 m hm) hm, fun hm => legal_mem h.symm cq cp (h2 m hm) hm⟩, fun m hm => ?_⟩
  exact moved_sim h cp cq (h1 m hm) (legal_parts hm).2.1
theorem over_sim {p q : Pos} (h : Sim p q) (hp : positionB p = true) (hq : positionB q = true) (ho : p.over = q.over) : overA p = overA q := by
  have cp := (parts_iff.1 hp).castles
  have cq := (parts_iff.1 hq).castles
  have hl : legalL p = legalL q := legal_ext fun m => ⟨fun hm => legal_mem h cp cq (fun _ => ho) hm, fun hm => legal_mem h.symm cq cp (fun _ => ho.symm) hm⟩
  rw [← overA_eq, ← overA_eq]
  unfold rOverA movesP
  rw [hp, hq, hl, ho]
  have e : rOverM p = rOverM q := by
    funext m
    unfold rOverM
    rw [h.kind, h.bare, ho]
  rw [e]
end Go.Proofs.YtdmgimfgoajmjaaGreatDoor
namespace Go.Proofs.YtdmgimfgoajmjaaGreatDoor
open Go.RowKit
def catA (l : List (Array Value)) : Array Value := (l.flatMap Array.toList).toArray
theorem fillN : ∀ (vs : List (Array Value)) (k : Nat) (z : Array Value), (∀ v ∈ vs, v.size = 133) → k * 133 + vs.length * 133 ≤ z.size →
    Instr.fill (fun i => some (i * 133, 133)) z ((vs.zipIdx k).map fun x => (x.2, Value.agg x.1)) = some ((z.toList.take (k * 133) ++ vs.flatMap Array.toList ++ z.toList.drop (k * 133 + vs.length * 133)).toArray)
  | [], k, z, _, _ => by simp [Instr.fill]
  | v :: r, k, z, hs, hz => by
    have hv : v.size = 133 := hs v (by simp)
    simp only [List.length_cons] at hz
    have hf := fold_at v z (k * 133) (by omega)
    have hc : ¬ (decide ((Value.agg v).cells.size ≠ 133) || decide (k * 133 + (Value.agg v).cells.size > z.size)) = true := by
      have : (Value.agg v).cells.size = 133 := hv
      simp [this]; omega
    simp only [List.zipIdx_cons, List.map_cons, Instr.fill]
    refine (if_neg hc).trans ?_
    rw [show (Value.agg v).cells = v from rfl, hf]
    have hl : v.toList.length = 133 := by simpa using hv
    have h1 : (z.toList.take (k * 133)).length = k * 133 := by rw [List.length_take, Array.length_toList]; omega
    rw [fillN r (k + 1) _ (fun x hx => hs x (by simp [hx])) (by simp; omega)]
    congr 2
    simp only [List.flatMap_cons, List.length_cons, hv]
    rw [show (k + 1) * 133 = (z.toList.take (k * 133) ++ v.toList).length by rw [List.length_append, h1, hl]; omega, List.take_left,
      show (z.toList.take (k * 133) ++ v.toList).length + r.length * 133 = (z.toList.take (k * 133) ++ v.toList).length + r.length * 133 from rfl, List.drop_append, List.drop_drop, List.drop_eq_nil_of_le (by omega), List.nil_append]
    rw [List.append_assoc, List.append_assoc, List.append_assoc, List.append_assoc]
    congr 4
    rw [List.length_append, h1, hl]; omega
theorem exec_slN (ρ : Operand → Value) (dst : Option Tmp) (n : Nat) (args : Array (Nat × Operand)) (vs : List (Array Value)) (ty : TypeId) (pos : String) (af : Array Edge) (g : Option (Nat × Bool)) (w : World)
    (hv : (args.map fun x => (x.1, ρ x.2)).toList = vs.zipIdx.map fun x => (x.2, Value.agg x.1)) (hs : ∀ v ∈ vs, v.size = 133) (hn : vs.length = n) (h0 : 0 < n) (h2 : n ≤ 1000) :
    (execOp ρ ⟨dst, .buildSlice 22 n args, ty, pos, af, g⟩).run Tryz.prog w = .ok (.value (.slice (some ⟨w.heap.size, 0, none⟩) n n)) (w.alloc (.cells (catA vs) 30)) := by
  have h := zero_api_Position
  have h3 : (Tryz.prog.info? 30).map (·.size) = some 133 := by kernel_rfl
  cases hq : Tryz.prog.info? 30 with
  | none => simp [hq] at h
  | some i =>
    have hz : i.zero = some (.agg (Array.replicate 133 (.int .i64 0))) := by simpa [hq] using h
    have hsz : i.size = 133 := by simpa [hq] using h3
    have hsize : (sizeOf 30).run Tryz.prog w = .ok 133 w := by simp [sizeOf, typeInfo, hq, hsz]
    have hzero : (zeroValue 30).run Tryz.prog w = .ok (.agg (Array.replicate 133 (.int .i64 0))) w := by simp [zeroValue, typeInfo, hq, hz]
    have hm : ∀ z : Array Value, ((Array.range (n * 133)).map (z[· % z.size]!)).size = n * 133 := by intro z; simp
    have hfill : ∀ (z : Array Value), z.size = n * 133 → Instr.fill (fun i => some (i * 133, 133)) z (args.map fun x => (x.1, ρ x.2)).toList = some (catA vs) := by
      intro z hzz
      rw [hv, fillN vs 0 z hs (by omega)]
      rw [Nat.zero_mul, List.take_zero, List.nil_append, List.drop_eq_nil_of_le (by simp; omega), List.append_nil]
      rfl
    simp only [execOp, Instr.buildSlice, Sem.run_bind, run_underlying Tryz.underlying22 w, Result.andThen_ok, hsize]
    rw [if_neg (by omega), if_neg (by omega)]
    simp only [Sem.run_bind, Sem.run_pure, hzero, Result.andThen_ok, Value.cells]
    have hfl := hfill _ (hm (Array.replicate 133 (.int .i64 0)))
    have e : (args.map fun (x : Nat × Operand) => match x with | (i, x) => (i, ρ x)) = args.map fun x => (x.1, ρ x.2) := rfl
    rw [e, hfl]
    rfl
noncomputable def dfltSl3 (a b c : Value) (w : World) : Result Next := (execOp (fun x => match x with | .tmp 0 => a | .tmp 1 => b | _ => c) { dst := none, op := .buildSlice 22 3 #[(0, .tmp 0), (1, .tmp 1), (2, .tmp 2)], type := 22, pos := "", after := #[], guard := none }).run Tryz.prog w
@[go_sem] noncomputable def sl3 (a b c : Value) (w : World) (d : Result Next) : Result Next :=
  match a, b, c with
  | .agg x, .agg y, .agg z => if x.size = 133 ∧ y.size = 133 ∧ z.size = 133 then .ok (.value (.slice (some ⟨w.heap.size, 0, none⟩) 3 3)) (w.alloc (.cells (catA [x, y, z]) 30)) else d
  | _, _, _ => d
@[go_sem ↓] theorem exec_sl3 (ρ : Operand → Value) (dst : Option Tmp) (a b c : Operand) (ty : TypeId) (pos : String) (af : Array Edge) (g : Option (Nat × Bool)) (w : World) :
    (execOp ρ ⟨dst, .buildSlice 22 3 #[(0, a), (1, b), (2, c)], ty, pos, af, g⟩).run Tryz.prog w = sl3 (ρ a) (ρ b) (ρ c) w (dfltSl3 (ρ a) (ρ b) (ρ c) w) := by
  unfold sl3
  split
  · rename_i x y z hx hy hz
    split
    · rename_i hs
      exact exec_slN ρ dst 3 #[(0, a), (1, b), (2, c)] [x, y, z] ty pos af g w (by simp [hx, hy, hz]) (by simp [hs]) rfl (by omega) (by omega)
    · simp [dfltSl3, execOp]
  · simp [dfltSl3, execOp]
theorem exec_sl8 (ρ : Operand → Value) (dst : Option Tmp) (a b c d e f h i : Operand) (x : Array Value) (ty : TypeId) (pos : String) (af : Array Edge) (g : Option (Nat × Bool)) (w : World) (hx : x.size = 133)
    (ha : ρ a = .agg x) (hb : ρ b = .agg x) (hc : ρ c = .agg x) (hd : ρ d = .agg x) (he : ρ e = .agg x) (hf : ρ f = .agg x) (hh : ρ h = .agg x) (hi : ρ i = .agg x) :
    (execOp ρ ⟨dst, .buildSlice 22 8 #[(0, a), (1, b), (2, c), (3, d), (4, e), (5, f), (6, h), (7, i)], ty, pos, af, g⟩).run Tryz.prog w = .ok (.value (.slice (some ⟨w.heap.size, 0, none⟩) 8 8)) (w.alloc (.cells (catA [x, x, x, x, x, x, x, x]) 30)) :=
  exec_slN ρ dst 8 _ [x, x, x, x, x, x, x, x] ty pos af g w (by simp [ha, hb, hc, hd, he, hf, hh, hi]) (by simp [hx]) rfl (by omega) (by omega)
theorem catA_pos (Ps : List Pos) : catA (Ps.map posCells) = (posL Ps).toArray := by
  unfold catA posL
  rw [List.flatMap_map]
theorem SlP.of_row {w : World} {g n : Nat} {Ps : List Pos} {T : TypeId} {fr : Nat × Nat} (h : blk w g = some (.cells (posL Ps).toArray T fr)) (hn : Ps.length = n) (c : Nat) : SlP w (.slice (some ⟨g, 0, none⟩) n c) Ps := by
  subst hn
  refine .inr ⟨g, 0, c, _, T, fr, rfl, h, fun k x hx => ?_⟩
  have hk := (List.getElem?_eq_some_iff.1 hx).1
  refine ⟨by rw [List.size_toArray, posL_len]; omega, ?_⟩
  apply Array.ext_getElem?
  intro j
  rw [Array.getElem?_extract, List.getElem?_toArray]
  by_cases hj : j < 133
  · rw [if_pos (by rw [List.size_toArray, posL_len]; omega), Nat.zero_add]; exact posL_at hx j hj
  · rw [if_neg (by rw [List.size_toArray, posL_len]; omega), Array.getElem?_eq_none (by rw [posCells_size]; omega)]
theorem posL_set {Ps : List Pos} {k j : Nat} {x y : Pos} {v : Value} (hk : Ps[k]? = some x) (hj : j < 133) (h : (posCells x).setIfInBounds j v = posCells y) : (posL Ps).toArray.setIfInBounds (k * 133 + j) v = (posL (Ps.set k y)).toArray := by
  have hl := (List.getElem?_eq_some_iff.1 hk).1
  apply Array.ext_getElem?
  intro i
  rw [Array.getElem?_setIfInBounds, List.getElem?_toArray, List.getElem?_toArray, List.size_toArray, posL_len]
  by_cases hi : i < Ps.length * 133
  · obtain ⟨a, b, hb, rfl⟩ : ∃ a b, b < 133 ∧ i = a * 133 + b := ⟨i / 133, i % 133, Nat.mod_lt _ (by omega), by omega⟩
    by_cases ha : a = k
    · subst ha
      have hs : (Ps.set a y)[a]? = some y := by rw [List.getElem?_set_self hl]
      rw [posL_at hs b hb, posL_at hk b hb, ← h, Array.getElem?_setIfInBounds, posCells_size]
      by_cases e : j = b
      · subst e; rw [if_pos rfl, if_pos rfl, if_pos (by omega), if_pos hb]
      · rw [if_neg (by omega), if_neg e]
    · obtain ⟨z, hz⟩ : ∃ z, Ps[a]? = some z := ⟨_, List.getElem?_eq_getElem (by omega)⟩
      have hs : (Ps.set k y)[a]? = some z := by rw [List.getElem?_set_ne (fun e => ha e.symm)]; exact hz
      rw [posL_at hs b hb, posL_at hz b hb, if_neg (by omega)]
  · rw [List.getElem?_eq_none (by rw [posL_len]; omega), List.getElem?_eq_none (by rw [posL_len, List.length_set]; omega)]
    split
    · rw [if_neg (by omega)]
    · rfl
end Go.Proofs.YtdmgimfgoajmjaaGreatDoor
namespace Go.Proofs.YtdmgimfgoajmjaaGreatDoor
open Go.RowKit Go.Maps
set_option maxRecDepth 100000 in
set_option maxHeartbeats 2000000 in
theorem Copy_any (b m n : Nat) (D : DataW Unit) (w : World) (hb : blk w b = some (.cells #[.map (some m)] 101 (0, 0))) (hown : Cnt w m n D) :
    Calls Tryz.prog 32 #[.pointer (some ⟨b, 0, none⟩)] w (fun e w' => ∃ b2 m2, e = .returned (.pointer (some ⟨b2, 0, none⟩)) ∧ w.heap.size ≤ b2 ∧ w.heap.size ≤ m2 ∧ b2 ≠ m2 ∧ blk w' b2 = some (.cells #[.map (some m2)] 101 (0, 0)) ∧ Cnt w' m2 n D ∧ Ext w w') := by
  have hlb := blk_lt hb
  have hTH := there_any b m _ hb
  have hCL := fun W (h : Cnt W m n D) => AnyW.maps_Clone_owns Tryz.layClone 9 (plainElem Tryz.prog 3) m n D W h
  go_enter Tryz.func32, Tryz.ntmps32
  go_wp2_with (first
    | (go_at_call 64; (with_reducible refine hTH.mono ?_); rintro e w1 ⟨rfl, hx1⟩; (have hb1 := (hx1.blk _ hlb).trans hb); (have hc1 := blk_cell hb1 0); (simp only [List.getElem?_toArray, List.getElem?_cons_zero] at hc1); (have hown1 := hown.ext hx1))
    | (go_at_call 70; (refine (hCL _ hown1).mono ?_); rintro e w2 ⟨rfl, hc2, hc3, hB2⟩))
  have hc4 : Cnt w2 w1.heap.size n D := hc2
  have l1 := hx1.le
  have l2 := hB2.size
  have l3 := hc4.lt
  have hE2 : Ext w w2 := hx1.trans hB2
  go_ret
  exact ⟨_, _, rfl, by omega, by omega, by omega, blk_alloc_at _ _ _ rfl, hc4.ext (Ext.alloc (Ext.refl _) _), hE2.alloc _⟩
end Go.Proofs.YtdmgimfgoajmjaaGreatDoor
namespace Go.Proofs.YtdmgimfgoajmjaaGreatDoor
open Go.RowKit
def pickI (x n : Int) : Int := if n < 1 then 0 else x % n
theorem tmod_fix {x n : Int} (hn : 0 < n) : (if Int.tmod x n < 0 then Int.tmod x n + n else Int.tmod x n) = x % n ∧ -n < Int.tmod x n := by
  have h1 := Int.emod_nonneg x (show n ≠ 0 by omega)
  have h2 := Int.emod_lt_of_pos x hn
  have e := Int.tmod_eq_emod (a := x) (b := n)
  split at e
  · have e' : Int.tmod x n = x % n := by omega
    rw [e', if_neg (by omega)]; exact ⟨rfl, by omega⟩
  · rename_i h
    have h3 : x % n ≠ 0 := fun h0 => h (Or.inr (Int.dvd_of_emod_eq_zero h0))
    have h4 : ((n.natAbs : Nat) : Int) = n := by omega
    rw [h4] at e
    rw [e, if_pos (by omega)]; exact ⟨by omega, by omega⟩
theorem Pick_any (x n : Int) (w : World) (hx : -9223372036854775808 ≤ x ∧ x ≤ 9223372036854775807) (hn : n ≤ 4611686018427387904) : Calls Tryz.prog 31 #[.int .i64 x, .int .i64 n] w (Ret (.int .i64 (pickI x n)) w) := by
  by_cases h1 : n < 1
  · rw [show pickI x n = 0 from if_pos h1]
    go_enter Tryz.func31, Tryz.ntmps31
    go_wp2
    go_ret
    exact Ret.mk' rfl (Ext.refl _)
  · have HE := hid (show pickI x n = x % n from if_neg h1)
    obtain ⟨hT, hb2⟩ := tmod_fix (x := x) (show 0 < n by omega)
    have hb1 := Int.tmod_lt_of_pos x (show 0 < n by omega)
    generalize hr : Int.tmod x n = r at *
    by_cases hr0 : r < 0
    · rw [if_pos hr0] at hT
      have HT := hid hT
      clear hT
      go_enter Tryz.func31, Tryz.ntmps31
      go_wp2
      go_ret
      exact Ret.mk' (vint (HT.out.trans HE.out.symm)) (Ext.refl _)
    · rw [if_neg hr0] at hT
      have HT := hid hT
      clear hT
      go_enter Tryz.func31, Tryz.ntmps31
      go_wp2
      go_ret
      exact Ret.mk' (vint (HT.out.trans HE.out.symm)) (Ext.refl _)
end Go.Proofs.YtdmgimfgoajmjaaGreatDoor
namespace Go.Proofs.YtdmgimfgoajmjaaGreatDoor
open Go.RowKit
def FinePl (b1 b2 : Nat) (A : World) : Prop := b1 < A.heap.size ∧ b2 < A.heap.size
def SafePl (b1 b2 : Nat) (A : World) (k : Nat) : Prop := k ≠ b1 ∧ k ≠ b2 ∧ ∃ cs t fr, A.heap[k]? = some (.cells cs t fr)
theorem guardsPl (b1 b2 : Nat) : Guards (SafePl b1 b2) (FinePl b1 b2) where
  s1 A B hx h := ⟨Nat.lt_of_lt_of_le h.1 hx.le, Nat.lt_of_lt_of_le h.2 hx.le⟩
  s2 A B k hx _ := by
    rintro ⟨h3, h4, cs, t, fr, h5⟩
    exact ⟨h3, h4, cs, t, fr, (hx.block k (Array.getElem?_eq_some_iff.1 h5).1).trans h5⟩
  s3 A B k cs t fr hx h hk hc := ⟨by have := h.1; omega, by have := h.2; omega, cs, t, fr, hc⟩
theorem Marks.setRow {n0 r : Nat} {l : List Nat} {w : World} (h : Marks n0 l w) (hr : r < n0) (cs : Array Value) : Marks n0 l (w.setRow r cs) :=
  ⟨h.nd, h.ge, fun D hD => (setRow_other w r D cs (by have := h.ge D hD; omega)).trans (h.open_ D hD)⟩
structure XPl (w0 W : World) (n8 pb : Nat) (q : Pos) : Prop where
  os : W.os = w0.os
  tape : W.tape = w0.tape
  output : W.output = w0.output
  size : w0.heap.size ≤ W.heap.size
  keep : ∀ k, k < w0.heap.size → k ≠ n8 → k ≠ pb → blk W k = blk w0 k
  found : blk W n8 = some (.cells #[.bool true] 4 (0, 0))
  pos : blk W pb = some (.cells (posCells q) 30 (0, 0))
set_option maxRecDepth 100000 in
set_option maxHeartbeats 4000000 in
theorem Play_any (p : Pos) (L : List Mv) (v : Value) (w : World) (hS : Sl w 3 v L.length (mvsC L)) (hn : L.length ≤ 300000) :
    Calls Tryz.prog 30 #[.agg (posCells p), v] w (Ret (.tuple #[.agg (posCells (playR p L).1), .int .i64 (playR p L).2]) w) := by
  obtain ⟨a, c, rfl⟩ := hS.form
  have HP : ∀ w, Calls Tryz.prog 28 #[.agg (posCells p)] w (Ret (.bool (positionB p)) w) := fun w => Position_any p w
  cases hp : positionB p
  · have HE := hid (show playR p L = (Pos.zero, 2) by unfold playR; rw [hp]; rfl)
    rw [hp] at HP
    clear hp
    go_enter Tryz.func30, Tryz.ntmps30
    go_wp2_with (go_at_call 28; (with_reducible refine (HP _).mono ?_); rintro e w1 ⟨rfl, hx⟩; have hz1 := (hx.blk (w.heap.size + 1) (by simp)).trans (show blk _ (w.heap.size + 1) = some (.cells (posCells Pos.zero) 30 (0, 0)) from by simp [go_sem]))
    exact bodyPost_ret (v := .tuple #[.agg (posCells Pos.zero), .int .i64 2]) (results_cell2 rfl rfl rfl (load_pos (setRow_blk hz1))) rfl ⟨by rw [HE.out], Ext.setRow (Ext.trans (Ext.auto) hx) (by omega) _⟩
  · have HE := hid (show playR p L = playGo p L by unfold playR; rw [hp]; rfl)
    rw [hp] at HP
    have HPP := hid hp
    clear hp
    refine (callsIn_wide (n := 5)).1 (callsIn_of_wp_marks Tryz.func30 rfl trivial ?_ rfl)
    simp only [Tryz.ntmps30, List.size_toArray, List.length_cons, List.length_nil, Nat.reduceAdd, Nat.reduceSub, Array.replicate_succ, Array.replicate_zero, List.push_toArray, List.append_toArray, List.nil_append, List.cons_append]
    refine wpIn_wide.2 ?_
    go_wp2_with (go_at_call 28; (with_reducible refine (HP _).mono ?_); rintro e w1 ⟨rfl, hx⟩; have hz1 := (hx.blk (w.heap.size + 1) (by simp)).trans (show blk _ (w.heap.size + 1) = some (.cells (posCells Pos.zero) 30 (0, 0)) from by simp [go_sem]); have hp1 := (hx.blk w.heap.size (by simp; omega)).trans (show blk _ w.heap.size = some (.cells (posCells p) 30 (0, 0)) from by simp [go_sem]))
    have hEw : Ext w w1 := Ext.trans (Ext.auto) hx
    have hlp := blk_lt hp1
    have hlz := blk_lt hz1
    clear hx
    refine wp_loop (fun a' w' => ∃ (k : Nat) (l : List Nat) (q : Pos) (u7 u8 u9 u10 u18 u19 u20 u21 u22 u23 u24 u25 u26 u27 u28 u29 u30 u31 u32 u33 u34 : Value), a' = { tmps := List.toArray ((Value.agg (posCells p)) :: (Value.slice a L.length c) :: (Value.pointer (some ⟨w.heap.size, 0, none⟩)) :: undef :: (Value.pointer (some ⟨w.heap.size + 1, 0, none⟩)) :: (Value.int .i64 0) :: undef :: u7 :: u8 :: u9 :: u10 :: (Value.agg (posCells p)) :: (Value.bool true) :: (Value.bool false) :: undef :: (Value.slice a L.length c) :: (Value.int .i64 (L.length : Int)) :: (Value.int .i64 (k : Int)) :: u18 :: u19 :: u20 :: u21 :: u22 :: u23 :: u24 :: u25 :: u26 :: u27 :: u28 :: u29 :: u30 :: u31 :: u32 :: u33 :: u34 :: []), defers := l.map markOf } ∧ k ≤ L.length ∧ positionB q = true ∧ playGo q (L.drop k) = playGo p L ∧ blk w' w.heap.size = some (.cells (posCells q) 30 (0, 0)) ∧ blk w' (w.heap.size + 1) = some (.cells (posCells Pos.zero) 30 (0, 0)) ∧ Ext w w' ∧ w1.heap.size ≤ w'.heap.size ∧ Marks w1.heap.size l w') (fun a' _ => L.length - (intOf (a'.tmps.getD 17 undef)).toNat) ?h0 ?round
    case h0 => exact ⟨0, [], p, _, _, _, _, _, _, _, _, _, _, _, _, _, _, _, _, _, _, _, _, _, rfl, by omega, HPP.out, by rw [List.drop_zero], hp1, hz1, hEw, Nat.le_refl _, ⟨by simp, by simp, by simp⟩⟩
    case round =>
      rintro a' w' ⟨k, l, q, u7, u8, u9, u10, u18, u19, u20, u21, u22, u23, u24, u25, u26, u27, u28, u29, u30, u31, u32, u33, u34, rfl, hk, hq, hgo, hb0, hb1, hxr, hle1, hm⟩
      clear hp1 hz1
      by_cases hlt : k < L.length
      · obtain ⟨m, hmk⟩ : ∃ m, L[k]? = some m := ⟨_, List.getElem?_eq_getElem hlt⟩
        obtain ⟨g, o, rfl, hg, hcl⟩ := hS.pos (by omega)
        have d0 := hcl (k * 3) _ (mvsC_at hmk 0 (by omega))
        have d1 := hcl (k * 3 + 1) _ (mvsC_at hmk 1 (by omega))
        have d2 := hcl (k * 3 + 2) _ (mvsC_at hmk 2 (by omega))
        simp only [mvE, List.getElem!_cons_zero, List.getElem!_cons_succ] at d0 d1 d2
        rw [← Nat.add_assoc] at d1 d2
        have hgr : g < w'.heap.size := Nat.lt_of_lt_of_le hg hxr.le
        rw [← hxr.cell _ _ hg] at d0 d1 d2
        have hOF := fun W => of_yes q W hq
        have lb0 := blk_lt hb0
        have HGO := hid hgo
        have HMM := hid hmk
        have HXR := hid hxr
        have HS := hid hS
        have HM := hid hm
        have HQ := hid hq
        clear hgo hcl hmk hS hm hxr hq
        go_wp2_with (go_at_call 69; (with_reducible refine (hOF _).mono ?_); rintro e w2 ⟨bf, rfl, hbf, hx2, hC⟩)
        have hE5 : Ext w' ((w'.alloc (.cells #[.int .i64 m.fr, .int .i64 m.to_, .int .i64 m.be] 51)).alloc (.cells #[.bool false] 4)) := (Ext.auto)
        have h7 : blk w2 w'.heap.size = some (.cells (mvC m) 51 (0, 0)) := (hx2.blk _ (by simp; omega)).trans (by simp [go_sem]; rfl)
        have h8 : blk w2 (w'.heap.size + 1) = some (.cells #[.bool false] 4 (0, 0)) := (hx2.blk _ (by simp)).trans (blk_alloc_at _ _ _ (by simp))
        have hx5 : Ext w' w2 := hE5.trans hx2
        have hb0' := (hx5.blk _ lb0).trans hb0
        have hb1' := (hx5.blk _ (blk_lt hb1)).trans hb1
        simp only [World.size_alloc] at hbf
        have hm2 := HM.out.below hx5
        have hl5 := hx5.le
        have l8 := blk_lt h8
        have lbf := blk_lt hC
        clear hE5 hx2
        refine (wpIn_wide (n := 5)).1 ?_
        refine wpIn_rangeFunc_ownH rfl (by decide) (gf := 153) (lb := #[.pointer (some ⟨bf, 0, none⟩)]) rfl trivial (enters_of Tryz.func153 (by kernel_rfl) rfl)
          (all_stops 4 (by decide) q _ _ _ (guardsPl (w'.heap.size + 1) w.heap.size) w2 hC ⟨l8, blk_lt hb0'⟩ ⟨by omega, by omega, _, _, _, hC⟩) (fun h k => h.trans k) ?kb (Below.refl _ _) (fun _ => rfl)
          (fun pre W => (∀ x ∈ pre, x.1 ≠ m) ∧ Ext w2 W) (fun c pre W => c = .exit 2 ∧ m ∈ legalL q ∧ XPl w2 W (w'.heap.size + 1) w.heap.size (movedP q m)) ?own (fun c => ?ownx) ⟨by simp, Ext.refl _⟩
          (fun x a' W => ∃ b9 b10, w2.heap.size ≤ b9 ∧ w2.heap.size ≤ b10 ∧ blk W b9 = some (.cells (mvC x.1) 51 (0, 0)) ∧ blk W b10 = some (.cells (posCells (movedP q x.1)) 30 (0, 0)) ∧ a' = { tmps := List.toArray (Value.agg (posCells p) :: Value.slice (some ⟨g, o, none⟩) L.length c :: Value.pointer (some ⟨w.heap.size, 0, none⟩) :: undef :: Value.pointer (some ⟨w.heap.size + 1, 0, none⟩) :: Value.int .i64 0 :: undef :: Value.pointer (some ⟨w'.heap.size, 0, none⟩) :: Value.pointer (some ⟨w'.heap.size + 1, 0, none⟩) :: Value.pointer (some ⟨b9, 0, none⟩) :: Value.pointer (some ⟨b10, 0, none⟩) :: Value.agg (posCells p) :: Value.bool true :: Value.bool false :: undef :: Value.slice (some ⟨g, o, none⟩) L.length c :: Value.int .i64 (L.length : Int) :: Value.int .i64 (k : Int) :: Value.bool true :: Value.pointer (some ⟨g, o + k * 3, none⟩) :: Value.agg #[.int .i64 m.fr, .int .i64 m.to_, .int .i64 m.be] :: Value.agg (posCells q) :: Value.func (.func 153) #[] #[.pointer (some ⟨bf, 0, none⟩)] :: Value.agg (mvC x.1) :: Value.agg (posCells (movedP q x.1)) :: u25 :: u26 :: u27 :: u28 :: u29 :: u30 :: u31 :: u32 :: u33 :: u34 :: []), defers := [] })
          ?ownA ?assign ?body ?done ?stop
        case kb =>
          intro W l0 ob ob' hl ho hc hw
          have hsz := (grownBy_putObj' W l0 ob').size
          refine ⟨hsz, fun h => ⟨Nat.lt_of_lt_of_le h.1 hsz, Nat.lt_of_lt_of_le h.2 hsz⟩, ?_⟩
          rintro k' ⟨h3, h4, cs, t, fr, h5⟩
          have hkl : k' ≠ l0 := by rintro rfl; rw [ho] at h5; cases h5; cases hc
          have hk' : (W.putObj l0 ob').heap[k']? = W.heap[k']? := World.putObj_heap_other hkl
          exact ⟨hk', h3, h4, cs, t, fr, hk'.trans h5⟩
        case own =>
          rintro pre A B row ⟨hne, hE⟩ hg hr
          exact ⟨hne, Below.grown hE hg hE.size (fun r e => (hr r e).1)⟩
        case ownx =>
          rintro pre A B row ⟨hc, hml, hX⟩ hg hr
          have kp : ∀ k', k' < w2.heap.size → blk B k' = blk A k' := fun k' h => hg.block k' (Nat.lt_of_lt_of_le h hX.size) (fun e => by have := (hr _ e.symm).1; omega)
          exact ⟨hc, hml, hg.os.trans hX.os, hg.tape.trans hX.tape, hg.output.trans hX.output, Nat.le_trans hX.size hg.size, fun k' h1 h2 h3 => (kp k' h1).trans (hX.keep k' h1 h2 h3), (kp _ l8).trans hX.found, (kp _ (blk_lt hb0')).trans hX.pos⟩
        case ownA =>
          rintro x a' _ A B row ⟨b9, b10, h1, h2, h3, h4, rfl⟩ hg hr
          have kp : ∀ k' cs t fr, blk A k' = some (.cells cs t fr) → blk B k' = some (.cells cs t fr) := fun k' cs t fr h => (hg.block k' (blk_lt h) (fun e => by
            obtain ⟨_, ob, ho, hn⟩ := hr k' e.symm
            rw [show A.heap[k']? = _ from h] at ho; cases ho; cases hn)).trans h
          exact ⟨b9, b10, h1, h2, kp _ _ _ _ h3, kp _ _ _ _ h4, rfl⟩
        case assign =>
          rintro l0 pre x W K ⟨hne, hE⟩ hK
          have hA : Ext W ((W.alloc (.cells (mvC x.1) 51 (0, 0))).alloc (.cells (posCells (movedP q x.1)) 30 (0, 0))) := ((Ext.refl W).alloc _).alloc _
          have hle := hE.le
          unfold encL mvC
          gi_wp2_with (first
            | ((with_reducible refine wpListIn_store_new (q := movedP q x.1) ?_ ?_ ?_ ?_); exact rfl; exact rfl; kernel_rfl)
            | (rw [Oper.semAt_eq _ _ _ (fun c h => by cases h)]; go_simp))
          exact hK _ _ (hA.keeps _) (kpg_ext (guardsPl _ _) hA ⟨Nat.lt_of_lt_of_le l8 hle, Nat.lt_of_lt_of_le (blk_lt hb0') hle⟩ (fun k' hk' => by obtain ⟨_, _, _, _, _, h⟩ := hk'; exact (Array.getElem?_eq_some_iff.1 h).1)) ⟨hne, hE.trans hA⟩ ⟨W.heap.size, W.heap.size + 1, hle, by omega, (blk_alloc_past _ _ _ (by simp)).trans (blk_alloc_at _ _ _ rfl), blk_alloc_at _ _ _ (by simp), rfl⟩
        case body =>
          rintro l0 pre x a' W hl ⟨r, hr⟩ ⟨hne, hE⟩ ⟨b9, b10, h9, h10, hb9, hb10, rfl⟩ _
          have hW7 := (hE.blk _ (blk_lt h7)).trans h7
          have hW8 := (hE.blk _ (blk_lt h8)).trans h8
          have hWp := (hE.blk _ (blk_lt hb0')).trans hb0'
          have c70 := blk_cell hW7 0
          have c71 := blk_cell hW7 1
          have c72 := blk_cell hW7 2
          have c90 := blk_cell hb9 0
          have c91 := blk_cell hb9 1
          have c92 := blk_cell hb9 2
          have c8 := blk_cell hW8 0
          have f8 := blk_froz hW8 0
          simp only [mvC, List.getElem?_toArray, List.getElem?_cons_zero, List.getElem?_cons_succ] at c70 c71 c72 c90 c91 c92 c8
          by_cases hxm : x.1 = m
          · subst hxm
            have HE9 := hid hE
            clear hE hne
            have hlp2 := blk_lt hWp
            have hq10 : b10 ≠ w'.heap.size + 1 := by omega
            have hqp : w.heap.size ≠ w'.heap.size + 1 := by omega
            gi_wp2_with (rw [Oper.semAt_eq _ _ _ (fun c h => by cases h)]; go_simp)
            have kp : ∀ k', k' ≠ w'.heap.size + 1 → k' ≠ w.heap.size → blk ((W.setCell ⟨w'.heap.size + 1, 0, none⟩ (.bool true)).setRow w.heap.size (posCells (movedP q x.1))) k' = blk W k' := fun k' h1 h2 => (setRow_other _ _ _ _ h2).trans (blk_setCell_past W ⟨w'.heap.size + 1, 0, none⟩ _ k' h1)
            have hE := HE9.out
            refine ⟨⟨by simp [size_set], fun k' ob hB hk' _ => (kp k' (by omega) (by omega)).trans hk'⟩, rfl, List.mem_filter.2 ⟨x.2.1, x.2.2⟩, hE.os, hE.tape, hE.output, by simpa [size_set] using hE.size, fun k' h1 h2 h3 => (kp k' h2 h3).trans (hE.blk k' h1), (setRow_other _ _ _ _ (fun e => hqp e.symm)).trans (blk_setCell_same W _ 0 _ _ (.bool true) hW8), setRow_blk ((blk_setCell_past W ⟨w'.heap.size + 1, 0, none⟩ (.bool true) w.heap.size hqp).trans hWp)⟩
          · have hxm2 : x.1.fr ≠ m.fr ∨ (x.1.fr = m.fr ∧ x.1.to_ ≠ m.to_) ∨ (x.1.fr = m.fr ∧ x.1.to_ = m.to_ ∧ x.1.be ≠ m.be) := by
              by_cases a1 : x.1.fr = m.fr
              · by_cases a2 : x.1.to_ = m.to_
                · refine .inr (.inr ⟨a1, a2, fun a3 => hxm ?_⟩)
                  cases m; cases hx1 : x.1; simp_all
                · exact .inr (.inl ⟨a1, a2⟩)
              · exact .inl a1
            have hE2 : Ext w2 (W.setCell ⟨w'.heap.size + 1, 0, none⟩ (.bool false)) := ⟨hE.os, hE.tape, hE.output, by rw [size_set]; exact hE.size, fun k' hk' => by
              by_cases e : k' = w'.heap.size + 1
              · subst e
                exact (blk_setCell_same W _ 0 _ _ (.bool false) hW8).trans h8.symm
              · exact (blk_setCell_past W ⟨w'.heap.size + 1, 0, none⟩ _ k' e).trans (hE.blk k' hk')⟩
            have hne2 : ∀ y ∈ pre ++ [x], y.1 ≠ m := fun y hy => by
              rcases List.mem_append.1 hy with h | h
              · exact hne y h
              · simp at h; rw [h]; exact hxm
            have hKG : KpG (SafePl (w'.heap.size + 1) w.heap.size) (FinePl (w'.heap.size + 1) w.heap.size) W (W.setCell ⟨w'.heap.size + 1, 0, none⟩ (.bool false)) := ⟨by rw [size_set]; exact Nat.le_refl _, fun h => ⟨by rw [size_set]; exact h.1, by rw [size_set]; exact h.2⟩, fun k' h => by
              have e1 : (W.setCell ⟨w'.heap.size + 1, 0, none⟩ (.bool false)).heap[k']? = W.heap[k']? := blk_setCell_past W ⟨w'.heap.size + 1, 0, none⟩ _ k' h.1
              obtain ⟨h3, h4, cs, t, fr, h5⟩ := h
              exact ⟨e1, h3, h4, cs, t, fr, e1.trans h5⟩⟩
            have HR := hid (And.intro hKG (And.intro hne2 hE2))
            clear hE hne hE2 hne2 hKG
            clear hxm
            rcases hxm2 with a1 | ⟨a1, a2⟩ | ⟨a1, a2, a3⟩
            all_goals gi_wp2_with (rw [Oper.semAt_eq _ _ _ (fun c h => by cases h)]; go_simp)
            all_goals exact ⟨(KeepsOthers.setCell _ _ _).from _, HR.out.1, HR.out.2.1, HR.out.2.2⟩
        case done =>
          rintro D xs W hD hxs ⟨hne, hE⟩ hKD
          have hnl : m ∉ legalL q := by
            rw [← hxs]
            intro h
            obtain ⟨y, hy, e⟩ := List.mem_map.1 h
            exact hne y hy e
          have hiB : isB q m = false := by
            unfold isB movesP
            rw [if_pos HQ.out, List.any_eq_false]
            intro y hy
            simp only [decide_eq_true_eq]
            rintro rfl
            exact hnl hy
          have HN := hid ((playGo_no HMM.out hiB).symm.trans HGO.out)
          have hW8 := (hE.blk _ l8).trans h8
          have hW1 := (hE.blk _ (blk_lt hb1')).trans hb1'
          have c8 := blk_cell hW8 0
          simp only [List.getElem?_toArray, List.getElem?_cons_zero] at c8
          have hlD : D ∉ l := fun h => by have := (Array.getElem?_eq_some_iff.1 (hm2.open_ D h)).1; omega
          have hMD : Marks w1.heap.size (D :: l) W := (hm2.below hE).cons (by omega) hlD hKD
          have hxW : Ext w W := HXR.out.trans (hx5.trans hE)
          have HMD := hid hMD
          have HXW := hid hxW
          clear hne hE hMD hxW hiB hnl hxs
          go_wp2
          refine leaves_marks (D :: l) _ (HMD.out.setRow (by omega) _) fun w'' hw'' => ?_
          have hz : blk w'' (w.heap.size + 1) = some (.cells (posCells Pos.zero) 30 (0, 0)) := (hw''.block _ hlz).trans (setRow_blk hW1)
          exact ⟨.tuple #[.agg (posCells Pos.zero), .int .i64 8], results_cell2 rfl rfl rfl (load_pos hz), by rw [HE.out, ← HN.out], Below.trans (Ext.setRow HXW.out (by omega) _) (hw''.mono (by omega))⟩
        case stop =>
          rintro D c pre W hD _ ⟨rfl, hml, hX⟩ hKD
          have hiB : isB q m = true := by
            unfold isB movesP
            rw [if_pos HQ.out, List.any_eq_true]
            exact ⟨m, hml, by simp⟩
          have HN := hid ((playGo_yes HMM.out hiB).symm.trans HGO.out)
          have hq2 := legal_keeps HQ.out hml
          have hW1 := (hX.keep _ (blk_lt hb1') (by omega) (by omega)).trans hb1'
          have c8 := blk_cell hX.found 0
          simp only [List.getElem?_toArray, List.getElem?_cons_zero] at c8
          have hlD : D ∉ l := fun h => by have := (Array.getElem?_eq_some_iff.1 (hm2.open_ D h)).1; omega
          have hMD : Marks w1.heap.size (D :: l) W := ⟨List.nodup_cons.2 ⟨hlD, hm2.nd⟩, fun E hE => (List.mem_cons.1 hE).elim (fun e => by omega) (hm2.ge E), fun E hE => (List.mem_cons.1 hE).elim (fun e => by rw [e]; exact hKD) (fun h => by
            have h1 := hm2.open_ E h
            have h2 := (Array.getElem?_eq_some_iff.1 h1).1
            refine (hX.keep E h2 ?_ ?_).trans h1
            · rintro rfl; rw [show w2.heap[w'.heap.size + 1]? = _ from h8] at h1; cases h1
            · rintro rfl; rw [show w2.heap[w.heap.size]? = _ from hb0'] at h1; cases h1)⟩
          have hxw2 : Ext w w2 := HXR.out.trans hx5
          have hxW : Ext w W := ⟨hX.os.trans hxw2.os, hX.tape.trans hxw2.tape, hX.output.trans hxw2.output, Nat.le_trans hxw2.le hX.size, fun k' hk' => (hX.keep k' (Nat.lt_of_lt_of_le hk' hxw2.le) (by omega) (by omega)).trans (hxw2.blk k' hk')⟩
          have HMD := hid hMD
          have HXW := hid hxW
          have HQ2 := hid hq2
          have HXP := hid hX.pos
          have hszW : w1.heap.size ≤ W.heap.size := Nat.le_trans hle1 (Nat.le_trans hl5 hX.size)
          clear hMD hxW hiB hml hX hq2 hxw2
          gi_wp2
          go_wp2
          refine ⟨⟨k + 1, D :: l, movedP q m, _, _, _, _, _, _, _, _, _, _, _, _, _, _, _, _, _, _, _, _, _, rfl, by omega, HQ2.out, HN.out, HXP.out, hW1, HXW.out, hszW, HMD.out⟩, ?_⟩
          simp [intOf]; omega
      · obtain rfl : k = L.length := by omega
        rw [List.drop_length, playGo] at hgo
        have HGO := hid hgo
        clear hgo
        have HM := hid hm
        clear hm
        go_wp2
        refine leaves_marks l _ (HM.out.setRow (by omega) _) fun w'' hw'' => ?_
        have hz : blk w'' (w.heap.size + 1) = some (.cells (posCells q) 30 (0, 0)) := (hw''.block _ hlz).trans (setRow_blk hb1)
        exact ⟨.tuple #[.agg (posCells q), .int .i64 0], results_cell2 rfl rfl rfl (load_pos hz), by rw [HE.out, ← HGO.out], Below.trans (Ext.setRow hxr (by omega) _) (hw''.mono (by omega))⟩
end Go.Proofs.YtdmgimfgoajmjaaGreatDoor
namespace Go.Proofs.YtdmgimfgoajmjaaGreatDoor
theorem sqL_at {p q : Pos} : ∀ k, sqL p k = sqL q k → ∀ i, i < k → p.kind i = q.kind i ∧ p.side i = q.side i
  | 0, _, i, hi => by omega
  | k + 1, h, i, hi => by
    rw [sqL_snoc, sqL_snoc] at h
    have hl : (sqL p k).length = (sqL q k).length := by rw [sqL_len, sqL_len]
    obtain ⟨h1, h2⟩ := List.append_inj h hl
    simp at h2
    by_cases e : i = k
    · subst e; exact h2
    · exact sqL_at k h1 i (by omega)
theorem same_parts {p q : Pos} (h : sameB p q = true) : (∀ i, i < 64 → p.kind i = q.kind i ∧ p.side i = q.side i) ∧ p.turn = q.turn ∧ p.castle = q.castle ∧ overA p = overA q := by
  have e : keyL p = keyL q := of_decide_eq_true h
  unfold keyL at e
  obtain ⟨h1, h2⟩ := List.append_inj e (by rw [sqL_len, sqL_len])
  simp at h2
  exact ⟨sqL_at 64 h1, h2.1, h2.2.1, h2.2.2⟩
theorem same_refl (p : Pos) : sameB p p = true := decide_eq_true rfl
theorem total_same (f : Int → Int → Nat → Int) {p q : Pos} : ∀ n, (∀ i, i < n → p.kind i = q.kind i ∧ p.side i = q.side i) → total f p n = total f q n
  | 0, _ => rfl
  | n + 1, h => by
    unfold total
    rw [total_same f n (fun i hi => h i (by omega)), (h n (by omega)).1, (h n (by omega)).2]
theorem same_phi {p q : Pos} (h : sameB p q = true) : phi p = phi q := by
  obtain ⟨h1, -, h3, -⟩ := same_parts h
  unfold phi
  rw [total_same weight 64 h1, h3]
structure Run (Ps : List Pos) (q : Pos) (fr : Nat) : Prop where
  ok : positionB q = true
  mono : ∀ x ∈ Ps, phi q ≤ phi x
  far : ∀ (k : Nat) x, k < fr → Ps[k]? = some x → phi q < phi x
  le : fr ≤ Ps.length
theorem Run.start {p : Pos} (h : positionB p = true) : Run [p] p 0 :=
  ⟨h, fun x hx => by simp at hx; rw [hx]; exact Int.le_refl _, fun k x hk => by omega, by simp⟩
def fromI (q q' : Pos) (fr n : Nat) : Nat := if q'.half = 0 ∨ q'.castle ≠ q.castle then n else fr
theorem Run.step {Ps : List Pos} {q : Pos} {fr : Nat} {m : Mv} (h : Run Ps q fr) (hm : m ∈ legalL q) :
    Run (Ps ++ [movedP q m]) (movedP q m) (fromI q (movedP q m) fr Ps.length) ∧ ∀ (k : Nat) x, k < fromI q (movedP q m) fr Ps.length → Ps[k]? = some x → sameB x (movedP q m) = false := by
  obtain ⟨h1, h2⟩ := phi_falls h.ok hm
  have key : ∀ (k : Nat) x, k < fromI q (movedP q m) fr Ps.length → Ps[k]? = some x → phi (movedP q m) < phi x := by
    intro k x hk hx
    unfold fromI at hk
    split at hk
    · rename_i hi
      have := h2 hi
      have := h.mono x (List.mem_of_getElem? hx)
      omega
    · have := h.far k x hk hx
      omega
  have hle : fromI q (movedP q m) fr Ps.length ≤ Ps.length := by
    unfold fromI
    split
    · exact Nat.le_refl _
    · exact h.le
  refine ⟨⟨legal_keeps h.ok hm, fun x hx => ?_, fun k x hk hx => ?_, by rw [List.length_append]; omega⟩, fun k x hk hx => ?_⟩
  · rcases List.mem_append.1 hx with hx | hx
    · have := h.mono x hx; omega
    · simp at hx; rw [hx]; exact Int.le_refl _
  · exact key k x hk (by rw [List.getElem?_append_left (by omega)] at hx; exact hx)
  · cases e : sameB x (movedP q m)
    · rfl
    · have := same_phi e
      have := key k x hk hx
      omega
theorem many_last (Ps : List Pos) (q : Pos) : manyB (Ps ++ [q]) q = manyB Ps q + 1 := by rw [many_add, if_pos rfl]
theorem most_last (Ps : List Pos) (q : Pos) : manyB Ps q + 1 ≤ mostB (Ps ++ [q]) := by
  rw [← many_last]
  exact many_le_most (by simp)
theorem play_one {q : Pos} {m : Mv} (hq : positionB q = true) (hm : m ∈ legalL q) : playR q [m] = (movedP q m, 0) := by
  have hi : isB q m = true := by
    unfold isB movesP
    rw [if_pos hq, List.any_eq_true]
    exact ⟨m, hm, by simp⟩
  unfold playR
  rw [if_pos hq]
  unfold playGo
  rw [if_pos hi]
  rfl
end Go.Proofs.YtdmgimfgoajmjaaGreatDoor
