/- Plain: along a run a measure falls; same positions have the same measure. -/
import Derived.Test.YtdmgimfgoajmjaaGreatDoorC27
import Derived.Test.YtdmgimfgoajmjaaGreatDoorC34
import Derived.Test.YtdmgimfgoajmjaaGreatDoorC32
import Derived.Test.YtdmgimfgoajmjaaGreatDoorC37
import Derived.Test.YtdmgimfgoajmjaaGreatDoorC28
import Derived.Test.YtdmgimfgoajmjaaGreatDoorC09
import Derived.Test.YtdmgimfgoajmjaaGreatDoorC30
import Derived.Test.YtdmgimfgoajmjaaGreatDoorC07
import Derived.Test.YtdmgimfgoajmjaaGreatDoorC31
set_option linter.unusedVariables false
set_option linter.unusedSimpArgs false
set_option maxRecDepth 100000
namespace Go.Proofs.YtdmgimfgoajmjaaGreatDoor
theorem sqL_at {p q : Pos} : ∀ k, sqL p k = sqL q k → ∀ i, i < k → p.kind i = q.kind i ∧ p.side i = q.side i
 | 0, _, i, hi => by omega
 | k + 1, h, i, hi => by
   rw [sqL_snoc, sqL_snoc] at h
   have hl : (sqL p k).length = (sqL q k).length := by rw [sqL_len, sqL_len]
   obtain ⟨h1, h2⟩ := List.append_inj h hl
   simp at h2
   by_cases e : i = k
   ·subst e; exact h2
   ·exact sqL_at k h1 i (by omega)
theorem same_parts {p q : Pos} (h : sameB p q = true) : (∀ i, i < 64 → p.kind i = q.kind i ∧ p.side i = q.side i) ∧ p.turn = q.turn ∧ p.castle = q.castle ∧ overA p = overA q := by
 have e : keyL p = keyL q := of_decide_eq_true h
 unfold keyL at e
 obtain ⟨h1, h2⟩ := List.append_inj e (by rw [sqL_len, sqL_len])
 simp at h2
 exact ⟨sqL_at 64 h1, h2.1, h2.2.1, h2.2.2⟩
theorem same_refl (p : Pos) : sameB p p = true := decide_eq_true rfl
theorem total_same (f : Int → Int → Nat → Int) {p q : Pos} : ∀ n, (∀ i, i < n → p.kind i = q.kind i ∧ p.side i = q.side i) → total f p n = total f q n
 | 0, _ => rfl
 | n + 1, h => by
   unfold total
   rw [total_same f n (fun i hi => h i (by omega)), (h n (by omega)).1, (h n (by omega)).2]
theorem same_phi {p q : Pos} (h : sameB p q = true) : phi p = phi q := by
 obtain ⟨h1, -, h3, -⟩ := same_parts h
 unfold phi
 rw [total_same weight 64 h1, h3]
structure Run (Ps : List Pos) (q : Pos) (fr : Nat) : Prop where
 ok : positionB q = true
 mono : ∀ x ∈ Ps, phi q ≤ phi x
 far : ∀ (k : Nat) x, k < fr → Ps[k]? = some x → phi q < phi x
 le : fr ≤ Ps.length
theorem Run.start {p : Pos} (h : positionB p = true) : Run [p] p 0 :=
 ⟨h, fun x hx => by simp at hx; rw [hx]; exact Int.le_refl _, fun k x hk => by omega, by simp⟩
def fromI (q q' : Pos) (fr n : Nat) : Nat := if q'.half = 0 ∨ q'.castle ≠ q.castle then n else fr
theorem Run.step {Ps : List Pos} {q : Pos} {fr : Nat} {m : Mv} (h : Run Ps q fr) (hm : m ∈ legalL q) :
 Run (Ps ++ [movedP q m]) (movedP q m) (fromI q (movedP q m) fr Ps.length) ∧ ∀ (k : Nat) x, k < fromI q (movedP q m) fr Ps.length → Ps[k]? = some x → sameB x (movedP q m) = false := by
 obtain ⟨h1, h2⟩ := phi_falls h.ok hm
 have key : ∀ (k : Nat) x, k < fromI q (movedP q m) fr Ps.length → Ps[k]? = some x → phi (movedP q m) < phi x := by
  intro k x hk hx
  unfold fromI at hk
  split at hk
  ·rename_i hi
   have := h2 hi
   have := h.mono x (List.mem_of_getElem? hx)
   omega
  ·have := h.far k x hk hx
   omega
 have hle : fromI q (movedP q m) fr Ps.length ≤ Ps.length := by
  unfold fromI
  split
  ·exact Nat.le_refl _
  ·exact h.le
 refine ⟨⟨legal_keeps h.ok hm, fun x hx => ?_, fun k x hk hx => ?_, by rw [List.length_append]; omega⟩, fun k x hk hx => ?_⟩
 ·rcases List.mem_append.1 hx with hx | hx
  ·have := h.mono x hx; omega
  ·simp at hx; rw [hx]; exact Int.le_refl _
 ·exact key k x hk (by rw [List.getElem?_append_left (by omega)] at hx; exact hx)
 ·cases e : sameB x (movedP q m)
  ·rfl
  ·have := same_phi e
   have := key k x hk hx
   omega
theorem many_last (Ps : List Pos) (q : Pos) : manyB (Ps ++ [q]) q = manyB Ps q + 1 := by rw [many_add, if_pos rfl]
theorem most_last (Ps : List Pos) (q : Pos) : manyB Ps q + 1 ≤ mostB (Ps ++ [q]) := by
 rw [← many_last]
 exact many_le_most (by simp)
theorem play_one {q : Pos} {m : Mv} (hq : positionB q = true) (hm : m ∈ legalL q) : playR q [m] = (movedP q m, 0) := by
 have hi : isB q m = true := by
  unfold isB movesP
  rw [if_pos hq, List.any_eq_true]
  exact ⟨m, hm, by simp⟩
 unfold playR
 rw [if_pos hq]
 unfold playGo
 rw [if_pos hi]
 rfl
end Go.Proofs.YtdmgimfgoajmjaaGreatDoor
namespace Go.Proofs.YtdmgimfgoajmjaaGreatDoor
open Go.RowKit
structure GS where
 at_ : Pos
 ps : List Pos
 ms : List Mv
 res : Int
 why : Int
def outY (n : Int) (p : Pos) : Int := if endY p ≠ 0 then endY p else if deadB (leftUp p 64) then 3 else if 5 ≤ n then 4 else if beyondB p [150] then 5 else 0
def outR (n : Int) (p : Pos) : Int := if endY p ≠ 0 then endR p else if outY n p = 0 then 0 else 3
def comeS (s : GS) (p : Pos) : GS := { at_ := p, ps := s.ps ++ [p], ms := s.ms, res := outR (manyB (s.ps ++ [p]) p) p, why := outY (manyB (s.ps ++ [p]) p) p }
theorem end_zero {p : Pos} (h : endY p = 0) : endR p = 0 := by
 unfold endY at h; unfold endR
 split
 ·rename_i hs; rw [if_pos hs] at h; split at h <;> cases h
 ·rfl
def askR (b : Bool) : Int := if b then 3 else 0
def askY (b : Bool) (y : Int) : Int := if b then y else 0
def ask (b : Bool) (y : Int) : Value := .tuple #[.int .i64 (askR b), .int .i64 (askY b y)]
theorem drawn_any (b : Bool) (y : Int) (w : World) : Calls Tryz.prog 132 #[.bool b, .int .i64 y] w (Ret (ask b y) w) := by
 cases b
 all_goals
  go_enter Tryz.func132, Tryz.ntmps132
  go_wp2
  go_ret2
  exact Ret.mk' rfl (Ext.auto)
theorem come1_any (p : Pos) (b : Nat) (w : World) (hb : blk w b = some (.cells (posCells p) 30 (0, 0))) : Calls Tryz.prog 130 #[.pointer (some ⟨b, 0, none⟩)] w (Ret (.tuple #[.int .i64 (endR p), .int .i64 (endY p)]) w) := by
 have h := fun W => endsOf_any p W
 go_enter Tryz.func130, Tryz.ntmps130
 go_wp2_with (go_at_call 44; (with_reducible refine (h _).mono ?_); rintro e w1 ⟨rfl, hx⟩)
 go_ret2
 exact Ret.mk' rfl hx
theorem come2_any (p : Pos) (b : Nat) (w : World) (hb : blk w b = some (.cells (posCells p) 30 (0, 0))) : Calls Tryz.prog 131 #[.pointer (some ⟨b, 0, none⟩)] w (Ret (ask (deadB (leftUp p 64)) 3) w) := by
 have h := fun W => deadIs_any p W
 have hd := fun W => drawn_any (deadB (leftUp p 64)) 3 W
 generalize deadB (leftUp p 64) = d at *
 simp only [ask] at *
 go_enter Tryz.func131, Tryz.ntmps131
 go_wp2_with (first
  | (go_at_call 45; (with_reducible refine (h _).mono ?_); rintro e w1 ⟨rfl, hx⟩)
  | (go_at_call 132; (with_reducible refine (hd _).mono ?_); rintro e w2 ⟨rfl, hx2⟩))
 go_ret2
 exact Ret.mk' rfl (hx.trans hx2)
theorem come3_any (n : Int) (b : Nat) (w : World) (hb : w.cell? ⟨b, 0, none⟩ = some (.int .i64 n)) : Calls Tryz.prog 133 #[.pointer (some ⟨b, 0, none⟩)] w (Ret (ask (decide (5 ≤ n)) 4) w) := by
 have hd := fun W => drawn_any (decide (5 ≤ n)) 4 W
 simp only [ask] at *
 go_enter Tryz.func133, Tryz.ntmps133
 go_wp2_with (go_at_call 132; (with_reducible refine (hd _).mono ?_); rintro e w2 ⟨rfl, hx2⟩)
 go_ret2
 exact Ret.mk' rfl hx2
theorem come4_any (p : Pos) (b : Nat) (w : World) (hb : blk w b = some (.cells (posCells p) 30 (0, 0))) : Calls Tryz.prog 134 #[.pointer (some ⟨b, 0, none⟩)] w (Ret (ask (beyondB p [150]) 5) w) := by
 have h := fun W => Seventy_any p W
 have hd := fun W => drawn_any (beyondB p [150]) 5 W
 generalize beyondB p [150] = d at *
 simp only [ask] at *
 go_enter Tryz.func134, Tryz.ntmps134
 go_wp2_with (first
  | (go_at_call 46; (with_reducible refine (h _).mono ?_); rintro e w1 ⟨rfl, hx⟩)
  | (go_at_call 132; (with_reducible refine (hd _).mono ?_); rintro e w2 ⟨rfl, hx2⟩))
 go_ret2
 exact Ret.mk' rfl (hx.trans hx2)
end Go.Proofs.YtdmgimfgoajmjaaGreatDoor
namespace Go.Proofs.YtdmgimfgoajmjaaGreatDoor
open Go.RowKit Go.Maps
theorem own_type {w : World} {B n size : Nat} {e : TypeId} {v : Value} {xs : List Value} (h : w.ownsRow B e size v n xs) : ∀ k, v.ownBlock = some k → B ≤ k ∧ ∃ cs fr, blk w k = some (.cells cs e fr) := by
 intro k hk
 rcases h.2 with ⟨rfl, _⟩ | ⟨g, cap, cur, rfl, hg, hw, _⟩
 ·cases hk
 ·simp [Value.ownBlock] at hk
  subst hk
  exact ⟨hg, _, _, hw⟩
theorem own_ne {w : World} {B n b size : Nat} {e : TypeId} {v : Value} {xs : List Value} {cs : Array Value} {T0 : TypeId} {fr : Nat × Nat} (h : w.ownsRow B e size v n xs) (hb : blk w b = some (.cells cs T0 fr)) (hT : T0 ≠ e) : v.ownBlock ≠ some b := fun h1 => by
 obtain ⟨-, cs2, fr2, h2⟩ := own_type h b h1
 rw [hb] at h2
 injection h2 with h2
 injection h2 with _ h2
 exact hT h2
theorem blk_ne3 {W : World} {a b : Nat} {cs ds : Array Value} {S T : TypeId} {fr gr : Nat × Nat} (ha : blk W a = some (.cells cs S fr)) (hb : blk W b = some (.cells ds T gr)) (h : S ≠ T) : b ≠ a := fun e => by
 subst e
 rw [ha] at hb
 injection hb with hb
 injection hb with _ hb
 exact h hb
def CntG (W : World) (m : Nat) (Ps : List Pos) : Prop := ∃ D, Cnt W m Ps.length D ∧ Good D Ps
theorem CntG.keep {w w' : World} {m : Nat} {Ps : List Pos} (h : CntG w m Ps) (hk : blk w' m = blk w m) : CntG w' m Ps := by
 obtain ⟨D, ⟨es, cl, h1, h2⟩, hg⟩ := h
 exact ⟨D, ⟨es, cl, hk.trans h1, h2⟩, hg⟩
theorem CntG.lt {w : World} {m : Nat} {Ps : List Pos} (h : CntG w m Ps) : m < w.heap.size := by
 obtain ⟨D, ⟨es, cl, h1, h2⟩, hg⟩ := h
 exact blk_lt h1
theorem CntG.ext {w w' : World} {m : Nat} {Ps : List Pos} (h : CntG w m Ps) (hx : Ext w w') : CntG w' m Ps := h.keep (hx.blk _ h.lt)
theorem CntG.ne {w : World} {m b : Nat} {Ps : List Pos} {cs : Array Value} {T : TypeId} {fr : Nat × Nat} (h : CntG w m Ps) (hb : blk w b = some (.cells cs T fr)) : b ≠ m := fun e => by
 obtain ⟨D, ⟨es, cl, h1, h2⟩, hg⟩ := h
 subst e
 rw [show w.heap[b]? = _ from hb] at h1
 cases h1
theorem Fr.below {F : Nat → Prop} {B : Nat} {w W : World} (h : Fr F w W) (hF : ∀ k, F k → B ≤ k) (hB : B ≤ w.heap.size) : Below B w W := ⟨h.os, h.tape, h.output, h.size, fun k hk => h.keep k (Nat.lt_of_lt_of_le hk hB) fun e => by have := hF k e; omega⟩
theorem Tab10.mono {B C : Nat} {w : World} (h : Tab10 B w) (hBC : B ≤ C) : Tab10 C w := fun w' hb => h w' (Below.mono hb hBC)
theorem Tab10.fr {F : Nat → Prop} {B : Nat} {w W : World} (ht : Tab10 B w) (h : Fr F w W) (hF : ∀ k, F k → B ≤ k) (hB : B ≤ w.heap.size) : Tab10 B W := ht.on (h.below hF hB)
structure PG (g b m : Nat) (mv : Value) (s : GS) (W : World) : Prop where
 game : blk W g = some (.cells (gmC (.pointer (some ⟨b, 0, none⟩)) s.at_ mv s.res s.why) 142 (0, 0))
 book : blk W b = some (.cells #[.map (some m)] 101 (0, 0))
 cnt : CntG W m s.ps
 own : W.ownsRow 0 51 3 mv s.ms.length (mvsC s.ms)
def footG (g b m : Nat) (mv : Value) (k : Nat) : Prop := k = g ∨ k = b ∨ k = m ∨ mv.ownBlock = some k
theorem PG.keep {g b m : Nat} {mv : Value} {s : GS} {W W' : World} (h : PG g b m mv s W) (hk : ∀ k, footG g b m mv k → k < W.heap.size → blk W' k = blk W k) : PG g b m mv s W' :=
 ⟨(hk g (.inl rfl) (blk_lt h.game)).trans h.game, (hk b (.inr (.inl rfl)) (blk_lt h.book)).trans h.book, h.cnt.keep (hk m (.inr (.inr (.inl rfl))) h.cnt.lt), own_blocks h.own fun k e => hk k (.inr (.inr (.inr e))) (by obtain ⟨-, cs, fr, h⟩ := own_type h.own k e; exact blk_lt h)⟩
theorem PG.ext {g b m : Nat} {mv : Value} {s : GS} {W W' : World} (h : PG g b m mv s W) (hx : Ext W W') : PG g b m mv s W' := h.keep fun k _ hk => hx.blk k hk
theorem PG.foot_lt {g b m : Nat} {mv : Value} {s : GS} {W : World} (h : PG g b m mv s W) : ∀ k, footG g b m mv k → k < W.heap.size := by
 rintro k (rfl | rfl | rfl | e)
 ·exact blk_lt h.game
 ·exact blk_lt h.book
 ·exact h.cnt.lt
 ·obtain ⟨-, cs, fr, h⟩ := own_type h.own k e; exact blk_lt h
theorem PG.fr {g b m : Nat} {mv : Value} {s : GS} {W W' : World} {F : Nat → Prop} (h : PG g b m mv s W) (hf : Fr F W W') (hd : ∀ k, footG g b m mv k → ¬ F k) : PG g b m mv s W' := h.keep fun k hk hl => hf.keep k hl (hd k hk)
theorem came_any (b m : Nat) (Ps : List Pos) (x : Pos) (w : World) (hb : blk w b = some (.cells #[.map (some m)] 101 (0, 0))) (hc : CntG w m Ps) (hx : Rng x) (ht : Tab10 w.heap.size w) (hn : Ps.length ≤ 1000) :
 Calls Tryz.prog 129 #[.agg #[.pointer (some ⟨b, 0, none⟩)], .agg (posCells x)] w (fun e w' => e = .returned (.int .i64 ((manyB (Ps ++ [x]) x : Nat) : Int)) ∧ CntG w' m (Ps ++ [x]) ∧ Fr (fun k => k = m) w w') := by
 obtain ⟨D, hcn, hg⟩ := hc
 have hl := many_le Ps x
 have hE : Ext w ((w.alloc (.cells #[.pointer (some ⟨b, 0, none⟩)] 140)).alloc (.cells (posCells x) 30)) := (Ext.auto)
 have hP := Put_any b m Ps.length D x (manyB Ps x) _ ((hE.blk _ (blk_lt hb)).trans hb) (hcn.ext hE) (by omega) hx (ht.up hE) (hg.at_ x) (by omega) (by omega)
 have HM := hid (many_last Ps x)
 go_enter Tryz.func129, Tryz.ntmps129
 go_wp2_with (go_at_call 19; (with_reducible refine hP.mono ?_); rintro e w5 ⟨rfl, hc5, hg5⟩)
 go_ret
 exact ⟨by rw [HM.out]; rfl, ⟨_, by rw [List.length_append]; exact hc5, hg.put x⟩, (Fr.ext hE).trans (Fr.grown (F := fun k => k = m) hg5 (fun k e => (Option.some.inj e).symm)) (fun _ _ h => h)⟩
end Go.Proofs.YtdmgimfgoajmjaaGreatDoor
