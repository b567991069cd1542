/- Whether squares are safe; whether a move castles. -/
import Derived.Test.YtdmgimfgoajmjaaGreatDoorC23
import Derived.Test.YtdmgimfgoajmjaaGreatDoorC12
import Derived.Test.YtdmgimfgoajmjaaGreatDoorC24
import Derived.BigFrameIn
import Derived.BigGuardIn
import Derived.Deep.DeepCutAuto
set_option linter.unusedVariables false
set_option linter.unusedSimpArgs false
set_option maxRecDepth 100000
set_option maxHeartbeats 20000000
namespace Go.Proofs.YtdmgimfgoajmjaaGreatDoor
open Go.RowKit
def safeB (p : Pos) (l : List Int) : Bool := !attacked p (otherOf p.turn) l
abbrev MSf.T (p : Pos) (w0 w W : World) : Prop := Ext w0 W ∧ Ext w W ∧ blk W w.heap.size = some (.cells (posCells p) 167 (0, 0)) ∧ W.cell? ⟨w.heap.size, 128, none⟩ = some (.int .i64 p.turn)
def MSf (p : Pos) (w0 w W : World) : Prop := MSf.T p w0 w W
theorem MSf.u {p w0 w} (W) (h : MSf p w0 w W) : MSf.T p w0 w W := h
theorem MSf.mk' {p : Pos} {w0 w W : World} (h0 : Ext w0 W) (h : Ext w W) (h1 : blk W w.heap.size = some (.cells (posCells p) 167 (0, 0))) : MSf p w0 w W := ⟨h0, h, h1, by rw [blk_cell h1]; simp [go_sem]⟩
theorem MSf.ext {p : Pos} {w0 w W W' : World} (h : MSf p w0 w W) (hx : Ext W W') : MSf p w0 w W' := MSf.mk' (h.1.trans hx) (h.2.1.trans hx) ((hx.blk _ (blk_lt h.2.2.1)).trans h.2.2.1)
theorem safe_any (p : Pos) (L : List Int) (v : Value) (w : World) (hS : Sl w 1 v L.length (ints L)) (hn : L.length ≤ 1000000) : Calls Tryz.prog 156 #[.agg (posCells p), v] w (Ret (.bool (safeB p L)) w) := by
 have HE := hid (show safeB p L = !attacked p (otherOf p.turn) L from rfl)
 have HS := hid hS
 clear hS
 go_enter Tryz.func156, Tryz.ntmps156
 go_wp2
 have hW : Ext w (w.alloc (.cells (posCells p) 167 (0, 0))) := Ext.alloc (Ext.refl _) _
 refine wp_region_held_drew (S := MSf p w w) (by kernel_rfl) ((MSf.mk' hW hW (blk_alloc_at _ _ _ rfl)).ext (Ext.drew (Ext.refl _))) (fun hH => ?_)
 refine hTz MSf.u 0 ?_; (try go_frame)
 refine hTz MSf.u 1 ?_; (try go_frame)
 refine hTz MSf.u 2 ?_; (try go_frame)
 refine hTz MSf.u 3 ?_; (try go_frame)
 refine hTz MSf.u 4 ?_; (try go_frame)
 refine hTz MSf.u 6 ?_; (try go_frame)
 refine hRy [5] (hCp (fun K hK => ?_) AllReadyH.nil); go_simp
 refine (Other_any _ _).mono ?_
 rintro e w8 ⟨rfl, hx8⟩
 refine hK.out _ _ (hH.ext (by first | assumption | exact Ext.alloc (Ext.refl _) _)) (fun hH => ?_); clear hK; (try go_frame)
 refine hRy [7] (hCp (fun K hK => ?_) AllReadyH.nil); go_simp
 refine (attackIs_any p _ L _ _ (HS.out.ext hH.1) hn).mono ?_
 rintro e w9 ⟨rfl, hx9⟩
 refine hK.out _ _ (hH.ext (by first | assumption | exact Ext.alloc (Ext.refl _) _)) (fun hH => ?_); clear hK; (try go_frame)
 refine hTz MSf.u 8 ?_; (try go_frame)
 refine hTz MSf.u 9 ?_; (try go_frame)
 refine wpAnyH_done (by kernel_rfl) ?_ _
 go_wp2
 go_ret
 exact Ret.mk' (by rw [HE.out]; rfl) hH.1
def castlesMB (p : Pos) (m : Mv) : Bool := p.kind m.fr.toNat == 6 && (m.to_ - m.fr == 2 || m.to_ - m.fr == -2)
theorem castlesJ_any (p : Pos) (m : Mv) (w : World) (h0 : 0 ≤ m.fr) (h1 : m.fr < 64) (h2 : 0 ≤ m.to_) (h3 : m.to_ < 64) : Calls Tryz.prog 155 #[.agg (posCells p), .agg (mvC m)] w (Ret (.bool (castlesMB p m)) w) := by
 obtain ⟨f, t, b⟩ := m
 dsimp only at h0 h1 h2 h3
 obtain ⟨k, rfl⟩ : ∃ k : Nat, f = k := ⟨f.toNat, by omega⟩
 have k1 : k < 64 := by omega
 have z : IntKind.i64.wrap (t - k) = t - k := IntWalk.i64_in _ (by omega)
 have E := hid (show castlesMB p ⟨k, t, b⟩ = (p.kind k == 6 && (t - k == 2 || t - k == -2)) by simp [castlesMB])
 simp only [mvC]
 go_enter Tryz.func155, Tryz.ntmps155
 go_wp2
 all_goals (go_ret; exact Ret.mk' (vbool (by rw [E.out]; simp [*])) (Ext.auto))
theorem wpListIn_store_new {F : Fence} {n : Nat} {ops : Array Oper} {rest : List Oper} {a : Act} {W : World} {Q : Exit → Act → World → Prop} {dst : Option Tmp} {x y : Operand} {ty : TypeId} {pos : String} {af : Array Edge} {q : Pos}
 (hx : a.eval x = .pointer (some ⟨W.heap.size, 0, none⟩)) (hy : a.eval y = .agg (posCells q)) {cs : Array Value} (hs : cs.size = 133) {t : TypeId}
 (h : wpListIn F n Tryz.prog ops Q rest (a.put dst undef) (W.alloc (.cells (posCells q) t (0, 0)))) : wpListIn F n Tryz.prog ops Q (⟨dst, .store 30 x y, ty, pos, af, none⟩ :: rest) a (W.alloc (.cells cs t (0, 0))) := by
 refine wpListIn_plain rfl fun K hK' => ?_
 have hrun : (execOp a.eval ⟨dst, .store 30 x y, ty, pos, af, none⟩).run Tryz.prog (W.alloc (.cells cs t (0, 0))) = .ok .skip (W.alloc (.cells (posCells q) t (0, 0))) := by
  rw [store_api_Position, hx, hy]
  have hb : blk (W.alloc (.cells cs t (0, 0))) W.heap.size = some (.cells cs t (0, 0)) := blk_alloc_at _ _ _ rfl
  simp only [storeSub, hb]
  rw [if_pos (posCells_size q), if_pos (by omega), if_pos trivial, if_pos (posCells_one q), setRow_alloc_at _ _ _ _ _ _ rfl, putAt_whole _ _ (by rw [posCells_size, hs])]
 unfold Oper.wpIn
 refine ⟨?_, ?_⟩
 ·intro f hf; simp [Oper.about] at hf
 ·rw [Oper.semAt_plain F _ _ (by intro c hc'; cases hc'), hrun]
  exact hK' _ _ h
def legalB (p : Pos) (m : Mv) : Bool := !(castlesMB p m && !safeB p [m.fr, Int.tdiv (m.fr + m.to_) 2]) && (takenE p m == 0 && !checkB (movedP p m) p.turn)
def legalL (p : Pos) : List Mv := (AllL p).filter (legalB p)
def legalUp (p : Pos) (k : Nat) : List Mv := ((AllL p).take k).filter (legalB p)
theorem legalUp_succ {p : Pos} {k : Nat} {m : Mv} (h : (AllL p)[k]? = some m) : legalUp p (k + 1) = legalUp p k ++ if legalB p m = true then [m] else [] := by
 unfold legalUp
 rw [List.take_add_one, h, List.filter_append]
 congr 1
 simp only [Option.toList_some, List.filter_cons, List.filter_nil]
theorem mvsC_at {l : List Mv} {k : Nat} {m : Mv} (h : l[k]? = some m) (i : Nat) (hi : i < 3) : (mvsC l)[k * 3 + i]? = some ((mvE m)[i]!) := by
 have hk : k < l.length := (List.getElem?_eq_some_iff.1 h).1
 rw [mvsC_get l (k * 3 + i) (by omega), show (k * 3 + i) / 3 = k by omega, show (k * 3 + i) % 3 = i by omega]
 rw [getElem!_def l k, h]
theorem flat_len (p : Pos) : ∀ l : List Nat, (l.flatMap (movesOf p)).length ≤ l.length * 4000
 | [] => by simp
 | x :: r => by
   have h1 := movesOf_len p x
   have h2 := flat_len p r
   simp only [List.flatMap_cons, List.length_append, List.length_cons]; omega
theorem AllL_len (p : Pos) : (AllL p).length ≤ 300000 := by
 have h1 := flat_len p (moversL p 64)
 have h2 := moversL_len p 64
 unfold AllL
 rw [sortMv_len]; omega
def freeAt (p : Pos) (t : Int) : Bool := isSq t && bareB p t
def onOfS (s : Int) : Int := if s = 1 then -8 else 8
def rPawnB (p : Pos) (a t : Int) : Bool :=
 let s := p.side a.toNat
 if t = a + onOfS s then freeAt p t
 else if t = a + 2 * onOfS s ∧ a / 8 = (if s = 1 then 6 else 1) then freeAt p (a + onOfS s) && freeAt p t
 else if rAttB p a t = true then (!bareB p t && p.side t.toNat == otherOf s) || (freeAt p t && t == p.over)
 else false
def rCastleB (p : Pos) (a t : Int) : Bool :=
 let s := p.side a.toNat
 if a = homeOf s ∧ 0 ≤ p.castle ∧ p.castle ≤ 15 then
  if t = homeOf s + 2 then p.castle / (if s = 1 then 4 else 1) % 2 == 1 && standsB p 4 s (homeOf s + 3) && freeAt p (homeOf s + 1) && freeAt p (homeOf s + 2)
  else t == homeOf s - 2 && p.castle / (if s = 1 then 8 else 2) % 2 == 1 && standsB p 4 s (homeOf s - 4) && freeAt p (homeOf s - 1) && freeAt p (homeOf s - 2) && freeAt p (homeOf s - 3)
 else false
def rGoesB (p : Pos) (a t : Int) : Bool :=
 if mayB (p.kind a.toNat) (p.side a.toNat) = true ∧ p.side a.toNat = p.turn ∧ a ≠ t then
  if p.kind a.toNat = 1 then rPawnB p a t
  else if (rAttB p a t && (bareB p t || p.side t.toNat != p.side a.toNat)) = true then true
  else p.kind a.toNat == 6 && rCastleB p a t
 else false
theorem mem_FromL (p : Pos) {a t : Int} (a0 : 0 ≤ a) (a1 : a < 64) : t ∈ FromL p a ↔ 0 ≤ t ∧ t < 64 ∧ rAttB p a t = true := by
 unfold FromL
 rw [if_pos ⟨a0, a1⟩, ← mem_fromL p a0 a1]
 unfold sortL; exact List.mem_mergeSort
theorem att_king {p : Pos} {a t : Int} (h : rAttB p a t = true) (hk : p.kind a.toNat = 6) : absOf (fd a t) ≤ 1 := by
 unfold rAttB at h
 split at h
 ·simp [hk] at h; exact h.1
 ·cases h
theorem att_pawn {p : Pos} {a t : Int} (h : rAttB p a t = true) (hk : p.kind a.toNat = 1) : absOf (fd a t) = 1 ∧ (p.side a.toNat = 0 ∧ rd a t = 1 ∨ p.side a.toNat = 1 ∧ rd a t = -1) := by
 unfold rAttB at h
 split at h
 ·simp [hk] at h; exact h
 ·cases h
theorem step_on {a s : Int} (a0 : 0 ≤ a) (a1 : a < 64) (hs : s = 0 ∨ s = 1) : stepOf a 0 (1 - 2 * s) = (if 0 ≤ a + onOfS s ∧ a + onOfS s < 64 then a + onOfS s else -1) := by
 unfold stepOf onOf
 rw [if_pos (show 0 ≤ a ∧ a < 64 from ⟨a0, a1⟩)]
 unfold numOf onOfS
 rcases hs with rfl | rfl <;> simp <;> split <;> split <;> omega
theorem step_on2 {a s : Int} (a0 : 0 ≤ a) (a1 : a < 64) (hs : s = 0 ∨ s = 1) : stepOf a 0 (2 * (1 - 2 * s)) = (if 0 ≤ a + 2 * onOfS s ∧ a + 2 * onOfS s < 64 then a + 2 * onOfS s else -1) := by
 unfold stepOf onOf
 rw [if_pos (show 0 ≤ a ∧ a < 64 from ⟨a0, a1⟩)]
 unfold numOf onOfS
 rcases hs with rfl | rfl <;> simp <;> split <;> split <;> omega
theorem free1 (p : Pos) (t : Int) : freeB p [t] = freeAt p t := by simp [freeB, freeAt]
theorem free_step {p : Pos} {x : Int} : freeB p [if 0 ≤ x ∧ x < 64 then x else -1] = freeAt p x := by
 rw [free1]
 split
 ·rfl
 ·rename_i h
  simp [freeAt, isSq, h]
theorem mem_steps (p : Pos) {a t : Int} (a0 : 0 ≤ a) (a1 : a < 64) (hk : p.kind a.toNat = 1) (hs : p.side a.toNat = 0 ∨ p.side a.toNat = 1) :
 t ∈ stepsL p a (p.side a.toNat) ↔ 0 ≤ t ∧ t < 64 ∧ a ≠ t ∧ rPawnB p a t = true := by
 have hA := fun h => att_pawn (p := p) (a := a) (t := t) h hk
 have hF := mem_FromL p (t := t) a0 a1
 unfold stepsL rPawnB
 dsimp only
 generalize p.side a.toNat = s at *
 rw [step_on a0 a1 hs, step_on2 a0 a1 hs]
 have hr : (rankOf a == 1 + 5 * s) = decide (a / 8 = (if s = 1 then 6 else 1)) := by
  unfold rankOf; rw [if_pos ⟨a0, a1⟩]
  rcases hs with rfl | rfl <;> rfl
 have hon : onOfS s = 8 ∨ onOfS s = -8 := by unfold onOfS; split <;> omega
 generalize (if s = 1 then (6 : Int) else 1) = fr at *
 rw [free_step, hr]
 have h2 : freeB p [if 0 ≤ a + onOfS s ∧ a + onOfS s < 64 then a + onOfS s else -1, if 0 ≤ a + 2 * onOfS s ∧ a + 2 * onOfS s < 64 then a + 2 * onOfS s else -1] = (freeAt p (a + onOfS s) && freeAt p (a + 2 * onOfS s)) := by
  rw [← free_step, ← free_step (x := a + 2 * onOfS s)]
  simp [freeB]
 rw [h2]
 simp only [List.mem_append, List.mem_filter, hF]
 have f1 : freeAt p (a + onOfS s) = true → 0 ≤ a + onOfS s ∧ a + onOfS s < 64 := by
  intro h; simp [freeAt, isSq] at h; exact h.1
 have f2 : freeAt p (a + 2 * onOfS s) = true → 0 ≤ a + 2 * onOfS s ∧ a + 2 * onOfS s < 64 := by
  intro h; simp [freeAt, isSq] at h; exact h.1
 have hft : 0 ≤ t → t < 64 → freeAt p t = bareB p t := by
  intro t0 t1; simp [freeAt, isSq, t0, t1]
 constructor
 ·rintro ((h | h) | ⟨⟨t0, t1, h⟩, h'⟩)
  ·split at h
   ·rename_i hf
    obtain ⟨q0, q1⟩ := f1 hf
    rw [if_pos ⟨q0, q1⟩, List.mem_singleton] at h
    subst h
    exact ⟨q0, q1, by omega, by rw [if_pos rfl]; exact hf⟩
   ·cases h
  ·split at h
   ·rename_i hf
    simp only [Bool.and_eq_true, decide_eq_true_eq] at hf
    obtain ⟨q0, q1⟩ := f2 hf.2.2
    rw [if_pos ⟨q0, q1⟩, List.mem_singleton] at h
    subst h
    refine ⟨q0, q1, by omega, ?_⟩
    rw [if_neg (by omega), if_pos ⟨rfl, hf.1⟩, hf.2.1, hf.2.2]; rfl
   ·cases h
  ·obtain ⟨g1, g2⟩ := hA h
   have hfd : fd a t ≠ 0 := by intro e; rw [e] at g1; cases g1
   unfold fd at hfd
   refine ⟨t0, t1, by rintro rfl; omega, ?_⟩
   rw [if_neg (by omega), if_neg (by omega), if_pos h, hft t0 t1]
   exact h'
 ·rintro ⟨t0, t1, hne, h⟩
  split at h
  ·rename_i e; subst e
   left; left
   rw [if_pos h, if_pos ⟨t0, t1⟩]; simp
  ·split at h
   ·rename_i e
    obtain ⟨rfl, e⟩ := e
    left; right
    simp only [Bool.and_eq_true] at h
    rw [if_pos (by simp [h, e]), if_pos ⟨t0, t1⟩]; simp
   ·split at h
    ·right
     refine ⟨⟨t0, t1, by assumption⟩, ?_⟩
     rw [hft t0 t1] at h
     exact h
    ·cases h
theorem mem_castlings (p : Pos) {a t : Int} (a0 : 0 ≤ a) (a1 : a < 64) (hs : p.side a.toNat = 0 ∨ p.side a.toNat = 1) :
 t ∈ castlingsL p a (p.kind a.toNat) (p.side a.toNat) ↔ 0 ≤ t ∧ t < 64 ∧ a ≠ t ∧ (p.kind a.toNat == 6 && rCastleB p a t) = true := by
 unfold castlingsL rCastleB
 dsimp only
 generalize p.side a.toNat = s at *
 generalize p.kind a.toNat = k at *
 have hh : homeOf s = 4 ∨ homeOf s = 60 := by unfold homeOf; split <;> omega
 have hf : shortB p s = (p.castle / (if s = 1 then 4 else 1) % 2 == 1 && standsB p 4 s (homeOf s + 3) && freeAt p (homeOf s + 1) && freeAt p (homeOf s + 2)) := by
  unfold shortB freeB; simp [freeAt, Bool.and_assoc]
 have hg : farB p s = (p.castle / (if s = 1 then 8 else 2) % 2 == 1 && standsB p 4 s (homeOf s - 4) && freeAt p (homeOf s - 1) && freeAt p (homeOf s - 2) && freeAt p (homeOf s - 3)) := by
  unfold farB freeB; simp [freeAt, Bool.and_assoc]
 rw [← hf]
 have hg' : ∀ b, (b && p.castle / (if s = 1 then 8 else 2) % 2 == 1 && standsB p 4 s (homeOf s - 4) && freeAt p (homeOf s - 1) && freeAt p (homeOf s - 2) && freeAt p (homeOf s - 3)) = (b && farB p s) := by
  intro b; rw [hg]; simp only [Bool.and_assoc]
 rw [hg']
 by_cases hk : k = 6
 ·by_cases hc : a = homeOf s ∧ 0 ≤ p.castle ∧ p.castle ≤ 15
  ·rw [if_pos ⟨hk, hc⟩, if_pos hc, hk]
   simp only [beq_self_eq_true, Bool.true_and, List.mem_append]
   constructor
   ·rintro (h | h)
    ·split at h
     ·rw [List.mem_singleton] at h; subst h
      refine ⟨by omega, by omega, by omega, ?_⟩
      rw [if_pos rfl]; assumption
     ·cases h
    ·split at h
     ·rw [List.mem_singleton] at h; subst h
      refine ⟨by omega, by omega, by omega, ?_⟩
      rw [if_neg (by omega)]; simpa
     ·cases h
   ·rintro ⟨t0, t1, hne, h⟩
    split at h
    ·left; rw [if_pos h]; simpa
    ·right
     simp only [Bool.and_eq_true, beq_iff_eq] at h
     rw [if_pos h.2]; simpa using h.1
  ·rw [if_neg (by rintro ⟨_, h⟩; exact hc h), if_neg hc]; simp
 ·rw [if_neg (by rintro ⟨h, _⟩; exact hk h)]
  simp [hk]
theorem mem_squares (p : Pos) {a t : Int} (a0 : 0 ≤ a) (a1 : a < 64) (hm : mayB (p.kind a.toNat) (p.side a.toNat) = true) (hs : p.side a.toNat = p.turn) :
 t ∈ squaresL p a (p.kind a.toNat) (p.side a.toNat) ↔ 0 ≤ t ∧ t < 64 ∧ rGoesB p a t = true := by
 have hsd : p.side a.toNat = 0 ∨ p.side a.toNat = 1 := by simp [mayB] at hm; exact hm.2.2
 have key : ∀ b : Bool, (0 ≤ t ∧ t < 64 ∧ a ≠ t ∧ b = true) ↔ (0 ≤ t ∧ t < 64 ∧ (if mayB (p.kind a.toNat) (p.side a.toNat) = true ∧ p.side a.toNat = p.turn ∧ a ≠ t then b else false) = true) := by
  intro b
  by_cases hne : a = t
  ·simp [hne]
  ·rw [if_pos ⟨hm, hs, hne⟩]; simp [hne]
 unfold squaresL rGoesB
 by_cases hk : p.kind a.toNat = 1
 ·rw [if_pos hk, if_pos hk, ← key, mem_steps p a0 a1 hk hsd]
 ·rw [if_neg hk, if_neg hk, ← key, List.mem_append, mem_castlings p a0 a1 hsd, List.mem_filter, mem_FromL p a0 a1]
  have ho : (!ownB p (p.side a.toNat) t) = (bareB p t || p.side t.toNat != p.side a.toNat) := by
   unfold ownB; simp [bne]
  rw [ho]
  constructor
  ·rintro (⟨⟨t0, t1, h⟩, h'⟩ | ⟨t0, t1, hne, h⟩)
   ·refine ⟨t0, t1, ?_, ?_⟩
    ·rintro rfl; unfold rAttB at h; simp at h
    ·rw [h, h', Bool.and_self, if_pos rfl]
   ·refine ⟨t0, t1, hne, ?_⟩
    split
    ·rfl
    ·exact h
  ·rintro ⟨t0, t1, hne, h⟩
   split at h
   ·rename_i h'
    rw [Bool.and_eq_true] at h'
    exact .inl ⟨⟨t0, t1, h'.1⟩, h'.2⟩
   ·exact .inr ⟨t0, t1, hne, h⟩
def rFromL (p : Pos) (a : Int) : List Mv := (((List.range 64).map (Nat.cast : Nat → Int)).filter (rGoesB p a)).flatMap (toOne a (p.kind a.toNat) (p.side a.toNat))
def rAllL (p : Pos) : List Mv := (List.range 64).flatMap fun (a : Nat) => rFromL p (a : Int)
def rings4 (a : Int) : Bool := decide (ringL a jumpsW).Nodup && decide (ringL a (straightW ++ slantW)).Nodup && decide (ringL a [(-1, 1), (1, 1)]).Nodup && decide (ringL a [(-1, -1), (1, -1)]).Nodup && decide ((straightW ++ slantW).flatMap fun x => rayOf a x.1 x.2).Nodup
theorem ck_rings : ((List.range 64).all fun (a : Nat) => rings4 (a : Int)) = true := by decide +kernel
theorem rings_at {a : Int} (a0 : 0 ≤ a) (a1 : a < 64) : (ringL a jumpsW).Nodup ∧ (ringL a (straightW ++ slantW)).Nodup ∧ (ringL a [(-1, 1), (1, 1)]).Nodup ∧ (ringL a [(-1, -1), (1, -1)]).Nodup ∧ ((straightW ++ slantW).flatMap fun x => rayOf a x.1 x.2).Nodup := by
 have h := (List.all_eq_true.1 ck_rings) a.toNat (List.mem_range.2 (by omega))
 rw [Int.toNat_of_nonneg a0] at h
 simp only [rings4, Bool.and_eq_true, decide_eq_true_eq] at h
 exact ⟨h.1.1.1.1, h.1.1.1.2, h.1.1.2, h.1.2, h.2⟩
theorem upto_sublist (p : Pos) : ∀ l : List Int, (upto p l).Sublist l
 | [] => by simp [upto]
 | x :: r => by
   unfold upto
   refine List.Sublist.cons_cons _ ?_
   split
   ·exact upto_sublist p r
   ·exact List.nil_sublist _
theorem along_sublist (p : Pos) (a : Int) : ∀ W : List (Int × Int), (alongL p a W).Sublist (W.flatMap fun x => rayOf a x.1 x.2)
 | [] => by simp [alongL]
 | x :: r => by
   unfold alongL
   rw [List.flatMap_cons, List.flatMap_cons]
   exact (upto_sublist p _).append (along_sublist p a r)
theorem fromL_nodup (p : Pos) {a : Int} (a0 : 0 ≤ a) (a1 : a < 64) : (fromL p a).Nodup := by
 obtain ⟨h1, h2, h3, h4, h5⟩ := rings_at a0 a1
 have h6 := h5
 rw [List.flatMap_append, List.nodup_append] at h6
 unfold fromL
 dsimp only
 split
 ·split
  ·split
   ·exact h4
   ·exact h3
  ·split
   ·exact h1
   ·split
    ·exact h2
    ·split
     ·exact h6.1.sublist (along_sublist p a _)
     ·split
      ·exact h6.2.1.sublist (along_sublist p a _)
      ·split
       ·exact h5.sublist (along_sublist p a _)
       ·exact List.nodup_nil
 ·exact List.nodup_nil
theorem FromL_nodup (p : Pos) {a : Int} (a0 : 0 ≤ a) (a1 : a < 64) : (FromL p a).Nodup := by
 unfold FromL
 rw [if_pos ⟨a0, a1⟩]
 unfold sortL
 exact (List.mergeSort_perm _ _).nodup_iff.2 (fromL_nodup p a0 a1)
theorem nodup_opt (c : Prop) [Decidable c] (x : Int) : (if c then [x] else []).Nodup := by split <;> simp
theorem squares_nodup (p : Pos) {a : Int} (a0 : 0 ≤ a) (a1 : a < 64) (hm : mayB (p.kind a.toNat) (p.side a.toNat) = true) :
 (squaresL p a (p.kind a.toNat) (p.side a.toNat)).Nodup := by
 have hsd : p.side a.toNat = 0 ∨ p.side a.toNat = 1 := by simp [mayB] at hm; exact hm.2.2
 have hF := fun t => mem_FromL p (t := t) a0 a1
 have hN := FromL_nodup p a0 a1
 have hon : onOfS (p.side a.toNat) = 8 ∨ onOfS (p.side a.toNat) = -8 := by unfold onOfS; split <;> omega
 unfold squaresL
 split
 ·rename_i hk
  have hA := fun t h => att_pawn (p := p) (a := a) (t := t) h hk
  unfold stepsL
  rw [step_on a0 a1 hsd, step_on2 a0 a1 hsd]
  have f1 : ∀ t, t ∈ (FromL p a).filter (pawnTakes p (p.side a.toNat)) → t % 8 ≠ a % 8 ∧ 0 ≤ t := by
   intro t ht
   rw [List.mem_filter, hF] at ht
   obtain ⟨g, -⟩ := hA t ht.1.2.2
   refine ⟨fun e => ?_, ht.1.1⟩
   unfold fd at g; rw [e] at g; simp [absOf] at g
  have g0 : ∀ x z, z = (if 0 ≤ a + x ∧ a + x < 64 then a + x else -1) → freeB p [z] = true → z = a + x ∧ 0 ≤ z := by
   intro x z hz hf
   rw [hz, free_step] at hf
   have hr : 0 ≤ a + x ∧ a + x < 64 := by simp [freeAt, isSq] at hf; exact hf.1
   rw [if_pos hr] at hz; omega
  have g1 : ∀ x z t, z = (if 0 ≤ a + x ∧ a + x < 64 then a + x else -1) → t ∈ (if freeB p [z] = true then [z] else []) → t = a + x ∧ 0 ≤ t := by
   intro x z t hz ht
   split at ht
   ·rename_i hf
    rw [List.mem_singleton] at ht
    subst ht
    exact g0 x _ hz hf
   ·cases ht
  have g2 : ∀ (c : Bool) x z y t, z = (if 0 ≤ a + x ∧ a + x < 64 then a + x else -1) → t ∈ (if (c && freeB p [y, z]) = true then [z] else []) → t = a + x ∧ 0 ≤ t := by
   intro c x z y t hz ht
   split at ht
   ·rename_i hf
    have hf2 : freeB p [z] = true := by
     simp only [freeB, List.all_cons, List.all_nil, Bool.and_eq_true, Bool.and_true] at hf ⊢; exact hf.2.2
    rw [List.mem_singleton] at ht
    subst ht
    exact g0 x _ hz hf2
   ·cases ht
  rw [List.nodup_append, List.nodup_append]
  refine ⟨⟨nodup_opt _ _, nodup_opt _ _, fun x hx y hy => ?_⟩, hN.sublist List.filter_sublist, fun x hx y hy => ?_⟩
  ·have := g1 _ _ _ rfl hx
   have := g2 _ _ _ _ _ rfl hy
   omega
  ·have h3 := f1 _ hy
   rw [List.mem_append] at hx
   rcases hx with hx | hx
   ·have := g1 _ _ _ rfl hx
    rintro rfl; omega
   ·have := g2 _ _ _ _ _ rfl hx
    rintro rfl; omega
 ·rename_i hk
  rw [List.nodup_append]
  refine ⟨hN.sublist List.filter_sublist, ?_, fun x hx y hy => ?_⟩
  ·unfold castlingsL
   split
   ·rw [List.nodup_append]
    refine ⟨nodup_opt _ _, nodup_opt _ _, fun x hx y hy => ?_⟩
    split at hx
    ·split at hy
     ·simp at hx hy; omega
     ·cases hy
    ·cases hx
   ·exact List.nodup_nil
  ·rw [List.mem_filter, hF] at hx
   unfold castlingsL at hy
   split at hy
   ·rename_i hc
    have hh : homeOf (p.side a.toNat) = 4 ∨ homeOf (p.side a.toNat) = 60 := by unfold homeOf; split <;> omega
    have hk := att_king hx.1.2.2 hc.1
    unfold fd absOf at hk
    rw [List.mem_append] at hy
    rintro rfl
    rcases hy with hy | hy
    ·split at hy
     ·simp at hy; split at hk <;> omega
     ·cases hy
    ·split at hy
     ·simp at hy; split at hk <;> omega
     ·cases hy
   ·cases hy
theorem mem_toOne {a k s t : Int} {m : Mv} (h : m ∈ toOne a k s t) : m.fr = a ∧ m.to_ = t := by
 unfold toOne at h
 split at h
 ·simp only [promos, List.mem_cons, List.not_mem_nil, or_false] at h
  rcases h with rfl | rfl | rfl | rfl <;> exact ⟨rfl, rfl⟩
 ·rw [List.mem_singleton] at h; subst h; exact ⟨rfl, rfl⟩
theorem toOne_nodup (a k s t : Int) : (toOne a k s t).Nodup := by
 unfold toOne; split <;> simp [promos]
theorem flat_nodup {α β : Type} {l : List α} {f : α → List β} {g : β → α} (hl : l.Nodup) (hf : ∀ a ∈ l, (f a).Nodup) (hg : ∀ a ∈ l, ∀ b ∈ f a, g b = a) : (l.flatMap f).Nodup := by
 rw [List.Nodup, List.pairwise_flatMap]
 refine ⟨hf, ?_⟩
 refine List.Pairwise.imp_of_mem ?_ hl
 intro a b ha hb hne x hx y hy e
 subst e
 exact hne ((hg a ha x hx).symm.trans (hg b hb x hy))
theorem mover_may {p : Pos} {a : Nat} : moverB p a = true ↔ mayB (p.kind a) (p.side a) = true ∧ p.side a = p.turn := by
 simp only [moverB, mayB, decide_eq_true_eq]
 constructor
 ·rintro ⟨h1, h2, h3, h4⟩; exact ⟨⟨h1, h2, h3⟩, h4⟩
 ·rintro ⟨⟨h1, h2, h3⟩, h4⟩; exact ⟨h1, h2, h3, h4⟩
theorem raw_nodup (p : Pos) : ((moversL p 64).flatMap (movesOf p)).Nodup := by
 refine flat_nodup (g := fun m => m.fr.toNat) (List.nodup_range.sublist List.filter_sublist) ?_ ?_
 ·intro a ha
  unfold moversL at ha
  rw [List.mem_filter, List.mem_range, mover_may] at ha
  unfold movesOf toL
  have := squares_nodup p (a := (a : Int)) (by omega) (by omega) (by simpa using ha.2.1)
  exact flat_nodup (g := fun m => m.to_) (by simpa using this) (fun t _ => toOne_nodup _ _ _ _) (fun t _ b hb => (mem_toOne hb).2)
 ·intro a _ b hb
  unfold movesOf toL at hb
  rw [List.mem_flatMap] at hb
  obtain ⟨t, -, ht⟩ := hb
  rw [(mem_toOne ht).1]; rfl
theorem range_int_nodup : ((List.range 64).map (Nat.cast : Nat → Int)).Nodup := by decide +kernel
theorem rAll_nodup (p : Pos) : (rAllL p).Nodup := by
 refine flat_nodup (g := fun m => m.fr.toNat) List.nodup_range ?_ ?_
 ·intro a _
  unfold rFromL
  exact flat_nodup (g := fun m => m.to_) (range_int_nodup.sublist List.filter_sublist) (fun t _ => toOne_nodup _ _ _ _) (fun t _ b hb => (mem_toOne hb).2)
 ·intro a _ b hb
  unfold rFromL at hb
  rw [List.mem_flatMap] at hb
  obtain ⟨t, -, ht⟩ := hb
  rw [(mem_toOne ht).1]; rfl
theorem mem_rangeInt {t : Int} : t ∈ (List.range 64).map (Nat.cast : Nat → Int) ↔ 0 ≤ t ∧ t < 64 := by
 rw [List.mem_map]
 constructor
 ·rintro ⟨n, hn, rfl⟩; have := List.mem_range.1 hn; omega
 ·rintro ⟨h0, h1⟩; exact ⟨t.toNat, List.mem_range.2 (by omega), by omega⟩
theorem mem_rFrom {p : Pos} {a : Int} {m : Mv} : m ∈ rFromL p a ↔ ∃ t, 0 ≤ t ∧ t < 64 ∧ rGoesB p a t = true ∧ m ∈ toOne a (p.kind a.toNat) (p.side a.toNat) t := by
 unfold rFromL
 rw [List.mem_flatMap]
 constructor
 ·rintro ⟨t, ht, hm⟩
  rw [List.mem_filter, mem_rangeInt] at ht
  exact ⟨t, ht.1.1, ht.1.2, ht.2, hm⟩
 ·rintro ⟨t, t0, t1, hg, hm⟩
  exact ⟨t, by rw [List.mem_filter, mem_rangeInt]; exact ⟨⟨t0, t1⟩, hg⟩, hm⟩
theorem goes_mover {p : Pos} {a t : Int} (h : rGoesB p a t = true) : mayB (p.kind a.toNat) (p.side a.toNat) = true ∧ p.side a.toNat = p.turn := by
 unfold rGoesB at h
 split at h
 ·rename_i hc; exact ⟨hc.1, hc.2.1⟩
 ·cases h
theorem mem_raw (p : Pos) (m : Mv) : m ∈ (moversL p 64).flatMap (movesOf p) ↔ m ∈ rAllL p := by
 unfold rAllL
 rw [List.mem_flatMap, List.mem_flatMap]
 constructor
 ·rintro ⟨a, ha, hm⟩
  unfold moversL at ha
  rw [List.mem_filter, List.mem_range, mover_may] at ha
  unfold movesOf toL at hm
  rw [List.mem_flatMap] at hm
  obtain ⟨t, ht, hm⟩ := hm
  have h2 := (mem_squares p (a := (a : Int)) (t := t) (by omega) (by omega) (by simpa using ha.2.1) (by simpa using ha.2.2)).1 (by simpa using ht)
  exact ⟨a, List.mem_range.2 ha.1, mem_rFrom.2 ⟨t, h2.1, h2.2.1, h2.2.2, by simpa using hm⟩⟩
 ·rintro ⟨a, ha, hm⟩
  have ha' := List.mem_range.1 ha
  obtain ⟨t, t0, t1, hg, hm⟩ := mem_rFrom.1 hm
  have hmv := goes_mover hg
  refine ⟨a, ?_, ?_⟩
  ·unfold moversL
   rw [List.mem_filter, mover_may]
   exact ⟨ha, by simpa using hmv⟩
  ·unfold movesOf toL
   rw [List.mem_flatMap]
   refine ⟨t, ?_, by simpa using hm⟩
   have := (mem_squares p (a := (a : Int)) (t := t) (by omega) (by omega) hmv.1 hmv.2).2 ⟨t0, t1, hg⟩
   simpa using this
def mvLe (a b : Mv) : Bool := !mvLt b a
theorem mvLt_iff (a b : Mv) : mvLt a b = true ↔ (a.fr < b.fr ∨ (a.fr = b.fr ∧ (a.to_ < b.to_ ∨ (a.to_ = b.to_ ∧ a.be < b.be)))) := by simp [mvLt]
theorem mvLe_iff (a b : Mv) : mvLe a b = true ↔ ¬ (b.fr < a.fr ∨ (b.fr = a.fr ∧ (b.to_ < a.to_ ∨ (b.to_ = a.to_ ∧ b.be < a.be)))) := by
 unfold mvLe; rw [Bool.not_eq_true', ← Bool.not_eq_true, mvLt_iff]
theorem flat_sorted {α β : Type} {l : List α} {f : α → List β} {R : β → β → Prop} {S : α → α → Prop} (hl : l.Pairwise S) (hf : ∀ a ∈ l, (f a).Pairwise R) (hg : ∀ a b, S a b → ∀ x ∈ f a, ∀ y ∈ f b, R x y) : (l.flatMap f).Pairwise R := by
 rw [List.pairwise_flatMap]
 exact ⟨hf, hl.imp (fun {a b} h => hg a b h)⟩
theorem toOne_sorted (a k s t : Int) : (toOne a k s t).Pairwise (fun x y => mvLe x y = true) := by
 unfold toOne
 split
 ·simp only [promos, List.pairwise_cons, List.mem_cons, List.not_mem_nil, or_false]
  refine ⟨?_, ?_, ?_, ?_, List.Pairwise.nil⟩ <;> intro b hb <;> rw [mvLe_iff]
  ·rcases hb with rfl | rfl | rfl <;> simp
  ·rcases hb with rfl | rfl <;> simp
  ·rcases hb with rfl; simp
  ·cases hb
 ·simp
theorem rAll_sorted (p : Pos) : (rAllL p).Pairwise (fun x y => mvLe x y = true) := by
 refine flat_sorted (S := fun a b => a < b) List.pairwise_lt_range ?_ ?_
 ·intro a _
  unfold rFromL
  refine flat_sorted (S := fun a b => a < b) ?_ (fun t _ => toOne_sorted _ _ _ _) ?_
  ·refine List.Pairwise.sublist List.filter_sublist ?_
   rw [List.pairwise_map]
   exact List.pairwise_lt_range.imp (fun h => by omega)
  ·intro t u htu x hx y hy
   have h1 := mem_toOne hx
   have h2 := mem_toOne hy
   rw [mvLe_iff]; omega
 ·intro a b hab x hx y hy
  obtain ⟨t, -, -, -, hx⟩ := mem_rFrom.1 hx
  obtain ⟨u, -, -, -, hy⟩ := mem_rFrom.1 hy
  have h1 := mem_toOne hx
  have h2 := mem_toOne hy
  rw [mvLe_iff]; omega
theorem All_eq (p : Pos) : AllL p = rAllL p := by
 have hs : (AllL p).Pairwise (fun x y => mvLe x y = true) := by
  unfold AllL sortMv
  have e : (fun x y => !(ltOf cmpM) y x) = mvLe := by funext x y; rw [cmpM_lt]; rfl
  rw [e]
  refine List.pairwise_mergeSort ?_ ?_ _
  ·intro a b c hab hbc
   rw [mvLe_iff] at *; omega
  ·intro a b
   rw [Bool.or_eq_true, mvLe_iff, mvLe_iff]; omega
 refine List.Perm.eq_of_pairwise ?_ hs (rAll_sorted p) ?_
 ·intro a b _ _ h1 h2
  rw [mvLe_iff] at h1 h2
  obtain ⟨a1, a2, a3⟩ := a
  obtain ⟨b1, b2, b3⟩ := b
  simp only [Mv.mk.injEq]
  dsimp only at h1 h2
  omega
 ·unfold AllL
  exact (List.mergeSort_perm _ _).trans ((List.perm_ext_iff_of_nodup (raw_nodup p) (rAll_nodup p)).2 (mem_raw p))
theorem AllL_in (p : Pos) (m : Mv) (h : m ∈ AllL p) : 0 ≤ m.fr ∧ m.fr < 64 ∧ 0 ≤ m.to_ ∧ m.to_ < 64 := by
 rw [All_eq] at h
 unfold rAllL at h
 rw [List.mem_flatMap] at h
 obtain ⟨a, ha, hm⟩ := h
 have := List.mem_range.1 ha
 obtain ⟨t, t0, t1, -, hm⟩ := mem_rFrom.1 hm
 have := mem_toOne hm
 omega
theorem wpListIn_load_row_g {F : Fence} {n : Nat} {P : Program} {ops : Array Oper} {rest : List Oper} {a : Act} {w : World} {Q : Exit → Act → World → Prop} {dst : Option Tmp} {T : TypeId} {x : Operand} {ty : TypeId} {pos : String} {af : Array Edge} {g : Nat × Bool}
 {m : Nat} {d : TypeDesc} (hw : Region.wanted (⟨dst, .load T x, ty, pos, af, some g⟩ : Oper) (yielded ops a.tmps) = true) (hu : P.underlying T = some d) (hd : (match d with | .struct _ | .array _ _ => true | _ => false) = true) (hi : (P.info? T).map (·.size) = some m)
 {b off : Nat} (hx : a.eval x = .pointer (some ⟨b, off, none⟩)) {cs : Array Value} {t : TypeId} {fr : Nat × Nat} (hb : blk w b = some (.cells cs t fr)) (hle : off + m ≤ cs.size)
 (h : wpListIn F n P ops Q rest (a.put dst (.agg (cs.extract off (off + m)))) w) : wpListIn F n P ops Q (⟨dst, .load T x, ty, pos, af, some g⟩ :: rest) a w :=
 BigFrame.wpListIn_want hw fun K hK => operIn_load_row hu hd hi hx hb hle (hK _ _ h)
structure Guards (Safe : World → Nat → Prop) (Fine : World → Prop) : Prop where
 s1 : ∀ A B, Ext A B → Fine A → Fine B
 s2 : ∀ A B k, Ext A B → Fine A → Safe A k → Safe B k
 s3 : ∀ A B k cs t fr, Ext A B → Fine A → A.heap.size ≤ k → B.heap[k]? = some (.cells cs t fr) → Safe B k
structure KpG (Safe : World → Nat → Prop) (Fine : World → Prop) (A B : World) : Prop where
 size : A.heap.size ≤ B.heap.size
 fine : Fine A → Fine B
 same : ∀ k, Safe A k → B.heap[k]? = A.heap[k]? ∧ Safe B k
theorem KpG.trans {Safe : World → Nat → Prop} {Fine : World → Prop} {A B C : World} (h : KpG Safe Fine A B) (k : KpG Safe Fine B C) : KpG Safe Fine A C :=
 ⟨Nat.le_trans h.size k.size, fun f => k.fine (h.fine f), fun i hi => ⟨((k.same i (h.same i hi).2).1).trans (h.same i hi).1, (k.same i (h.same i hi).2).2⟩⟩
structure InvL (p : Pos) (Safe : World → Nat → Prop) (Fine : World → Prop) (bf : Nat) (B0 : Nat) (v : Value) (w : World) : Prop where
 fine : Fine w
 b : blk w bf = some (.cells (posCells p) 167 (0, 0))
 sb : Safe w bf
 r : w.ownsRow B0 51 3 v (AllL p).length (mvsC (AllL p))
 sr : ∀ k, v.ownBlock = some k → Safe w k
 n : B0 ≤ w.heap.size
theorem InvL.ext {p : Pos} {Safe : World → Nat → Prop} {Fine : World → Prop} (G : Guards Safe Fine) {bf B0 : Nat} {v : Value} {w w' : World} (h : InvL p Safe Fine bf B0 v w) (hx : Ext w w') : InvL p Safe Fine bf B0 v w' :=
 ⟨G.s1 _ _ hx h.fine, (hx.blk _ (blk_lt h.b)).trans h.b, G.s2 _ _ _ hx h.fine h.sb, own_ext h.r hx, fun k hk => G.s2 _ _ _ hx h.fine (h.sr k hk), Nat.le_trans h.n hx.le⟩
theorem InvL.kp {p : Pos} {Safe : World → Nat → Prop} {Fine : World → Prop} {bf B0 : Nat} {v : Value} {w w' : World} (h : InvL p Safe Fine bf B0 v w) (k : KpG Safe Fine w w') : InvL p Safe Fine bf B0 v w' :=
 ⟨k.fine h.fine, (k.same _ h.sb).1.trans h.b, (k.same _ h.sb).2, own_blocks h.r fun b hb => (k.same b (h.sr b hb)).1, fun b hb => (k.same b (h.sr b hb)).2, Nat.le_trans h.n k.size⟩
theorem all_in (n : Nat) (hn : 1 ≤ n) (l : Nat) (p : Pos) (bf : Nat) (Safe : World → Nat → Prop) (Fine : World → Prop) (G : Guards Safe Fine) (J Jx : List Mv → World → Prop)
 (hY : ∀ (pre : List Mv) (m : Mv) (W1 : World), m ∈ AllL p → legalB p m = true → J pre W1 → pre.length < 900000 → YieldAt Fence.wide (n - 1) Tryz.prog l #[.agg (mvC m), .agg (posCells (movedP p m))] W1 fun e W' => (e = .returned (.bool true) ∧ J (pre ++ [m]) W' ∧ KpG Safe Fine W1 W') ∨ (e = .returned (.bool false) ∧ Jx (pre ++ [m]) W'))
 (W : World) (hJ : AbidesFrom W.heap.size J) (hC : blk W bf = some (.cells (posCells p) 167 (0, 0))) (hF : Fine W) (hSb : Safe W bf) (h0 : J [] W) :
 CallsIn Fence.wide n Tryz.prog 153 #[.func (.yield l) #[] #[], .pointer (some ⟨bf, 0, none⟩)] W fun e W' => (∃ v, e = .returned v) ∧
  ((∃ xs, xs = legalL p ∧ J xs W') ∨ (∃ pre : List Mv, True ∧ Jx pre W')) := by
 have HC := hid hC
 have hlf := blk_lt hC
 clear hC
 refine callsIn_of_wp Tryz.func153 rfl trivial ?_ rfl
 simp only [Tryz.ntmps153, List.size_toArray, List.length_cons, List.length_nil, Nat.reduceAdd, Nat.reduceSub, Array.replicate_succ, Array.replicate_zero, List.push_toArray, List.append_toArray, List.nil_append, List.cons_append]
 gi_wp2_with (first
  | (refine wpListIn_load_row (T := 30) (m := 133) Tryz.underlying30 rfl (by kernel_rfl) rfl HC.out (by rw [posCells_size]; decide) ?_)
  | (gi_at_call 154; refine CallsIn.mono (callsIn_wide.2 (All_any p _)) ?_; rintro e w1 ⟨v, rfl, hown, hx⟩; obtain ⟨av, cv, rfl⟩ := (Sl.of_own hown).form))
 have hx' : Ext W w1 := hx
 have hJ1 : J [] w1 := hJ _ _ _ none h0 (Ext.grownNone hx') (fun r e => by cases e)
 have hI1 : InvL p Safe Fine bf W.heap.size (.slice av (AllL p).length cv) w1 := ⟨G.s1 _ _ hx' hF, (hx'.blk _ hlf).trans HC.out, G.s2 _ _ _ hx' hF hSb, hown, fun k hk => by
  obtain ⟨h1, cur, h2⟩ := own_cells hown hk
  exact G.s3 _ _ _ _ _ _ hx' hF h1 h2, hx'.le⟩
 have hW1 := hx'.le
 clear hx hown HC hF hSb hlf h0 hx'
 gi_loopw [11] (fun i wr => ∃ k : Nat, i = .int .i64 k ∧ k ≤ (AllL p).length ∧ InvL p Safe Fine bf W.heap.size (.slice av (AllL p).length cv) wr ∧ W.heap.size ≤ wr.heap.size ∧ J (legalUp p k) wr) (fun i _ => (AllL p).length - (intOf i).toNat)
 case atStart => exact ⟨0, rfl, by omega, hI1, hW1, hJ1⟩
 case round =>
  obtain ⟨k, rfl, hk, hI, hWr, hJr⟩ := hrel
  clear hI1 hJ1 hW1
  have hAll := AllL_len p
  by_cases hlt : k < (AllL p).length
  ·obtain ⟨m, hm⟩ : ∃ m, (AllL p)[k]? = some m := ⟨_, List.getElem?_eq_getElem hlt⟩
   obtain ⟨g, o, rfl, hg, hcl⟩ := (Sl.of_own hI.r).pos (by omega)
   have d0 := hcl (k * 3) _ (mvsC_at hm 0 (by omega))
   have d1 := hcl (k * 3 + 1) _ (mvsC_at hm 1 (by omega))
   have d2 := hcl (k * 3 + 2) _ (mvsC_at hm 2 (by omega))
   simp only [mvE, List.getElem!_cons_zero, List.getElem!_cons_succ] at d0 d1 d2
   rw [← Nat.add_assoc] at d1 d2
   obtain ⟨b0, b1, b2, b3⟩ := AllL_in p m (List.mem_of_getElem? hm)
   have HI := hid hI
   have HM := hid hm
   have HLT := hid hlt
   have HAll := hid hAll
   clear hcl hI hm
   have lf := blk_lt HI.out.b
   have HLEN := hid (show (legalUp p k).length < 900000 from Nat.lt_of_le_of_lt (List.length_filter_le _ _) (by rw [List.length_take]; have := HAll.out; have := HLT.out; omega))
   cases hcm : castlesMB p m
   ·have HCM := hid hcm
    by_cases ht : takenE p m = 0
    ·have HT := hid ht
     cases hck : checkB (movedP p m) p.turn
     ·have HL := hid (show legalB p m = true by simp [legalB, hcm, ht, hck])
      have HCK := hid hck
      clear hck ht
      gi_wp2_with (first
       | (refine hR.mono ?_; rintro e W3 (⟨rfl, hJ3, hk3⟩ | ⟨rfl, hJx3⟩))
       | ((with_reducible refine wpListIn_load_row_g (m := 133) (off := 0) ?_ Tryz.underlying30 ?_ ?_ ?_ (hq4) ?_ ?_); exact rfl; exact rfl; kernel_rfl; exact rfl; (rw [posCells_size]; decide))
       | ((with_reducible refine wpListIn_load_row_g (m := 133) (off := 0) ?_ Tryz.underlying30 ?_ ?_ ?_ (blk_alloc_at _ _ _ rfl) ?_ ?_); exact rfl; exact rfl; kernel_rfl; exact rfl; (rw [posCells_size]; decide))
       | (rw [Oper.semAt_eq _ _ _ (fun c h => by cases h)]; go_simp)
       | ((with_reducible refine wpListIn_load_row (m := 133) (off := 0) Tryz.underlying167 ?_ ?_ ?_ ((Ext.alloc (Ext.refl wr) _).blk _ lf |>.trans HI.out.b) ?_ ?_); exact rfl; kernel_rfl; exact rfl; (rw [posCells_size]; decide))
       | (gi_at_call 155; refine CallsIn.mono (callsIn_wide.2 (castlesJ_any p m _ b0 b1 b2 b3)) ?_; rintro e w2 ⟨rfl, hx2⟩; rw [HCM.out]; have hI2 := HI.out.ext G (Ext.trans (Ext.alloc (Ext.refl wr) _) hx2); have hbm2 := (hx2.blk wr.heap.size (by simp)).trans (blk_alloc_at _ _ _ rfl); have hc20 := blk_cell hbm2 0; have hc21 := blk_cell hbm2 1; have hc22 := blk_cell hbm2 2; simp only [List.getElem?_toArray, List.getElem?_cons_zero, List.getElem?_cons_succ] at hc20 hc21 hc22; have hxr := Ext.trans (Ext.alloc (Ext.refl wr) _) hx2; have hlm2 := blk_lt hbm2)
       | ((with_reducible refine wpListIn_load_row (m := 133) (off := 0) Tryz.underlying30 ?_ ?_ ?_ (hI2.b) ?_ ?_); exact rfl; kernel_rfl; exact rfl; (rw [posCells_size]; decide))
       | ((with_reducible refine wpListIn_store_new (q := movedP p m) ?_ ?_ ?_ ?_); exact rfl; exact rfl; kernel_rfl)
       | (gi_at_call 157; refine CallsIn.mono (callsIn_wide.2 (Move_any p m _)) ?_; rintro e w3 ⟨rfl, hx3⟩; rw [HT.out]; have hI3 := hI2.ext G hx3; have hxw := Ext.trans hxr hx3; have hct := blk_cell hI3.b 128; have hlb3 := blk_lt hI3.b; simp only [go_sem] at hct; have hbm3 := (hx3.blk _ hlm2).trans hbm2; have hlm3 := blk_lt hbm3)
       | (gi_at_call 67; refine CallsIn.mono (callsIn_wide.2 (Check_any (movedP p m) p.turn _)) ?_; rintro e w4 ⟨rfl, hx4⟩; rw [HCK.out]; have hq4 : blk w4 w3.heap.size = some (.cells (posCells (movedP p m)) 30 (0, 0)) := (hx4.blk _ (by simp)).trans (blk_alloc_at _ _ _ rfl); have hbm4 := ((Ext.trans (Ext.alloc (Ext.refl w3) _) hx4).blk wr.heap.size hlm3).trans hbm3; have hc40 := blk_cell hbm4 0; have hc41 := blk_cell hbm4 1; have hc42 := blk_cell hbm4 2; simp only [List.getElem?_toArray, List.getElem?_cons_zero, List.getElem?_cons_succ] at hc40 hc41 hc42; have hx34 := Ext.trans (Ext.alloc (Ext.refl w3) _) hx4; have hI4 := hI3.ext G hx34; have hxw4 := Ext.trans hxw hx34; have hJ4 : J (legalUp p k) w4 := hJ _ _ _ none hJr (Ext.grownNone hxw4) (fun r e => by cases e); obtain ⟨fn, tmps, assign, body, hy, hR⟩ := hY _ m w4 (List.mem_of_getElem? HM.out) HL.out hJ4 (HLEN.out); unfold mvC at hy))
      ·have hlt9 := HLT.out
       have hall9 := HAll.out
       go_roundw
       case rel => exact ⟨k + 1, by go_num, by have := HLT.out; omega, hI4.kp hk3, by have := hk3.size; have := hxw4.le; omega, by rw [legalUp_succ HM.out, HL.out]; exact hJ3⟩
       case measure => have := HLT.out; simp [intOf]; omega
      ·exact bodyPost_ret (results_none rfl _ _ _) rfl ⟨⟨_, rfl⟩, .inr ⟨_, trivial, hJx3⟩⟩
     ·have HL := hid (show legalB p m = false by simp [legalB, hcm, ht, hck])
      have HCK := hid hck
      clear hck ht
      gi_wp2_with (first
       | ((with_reducible refine wpListIn_load_row_g (m := 133) (off := 0) ?_ Tryz.underlying30 ?_ ?_ ?_ (hq4) ?_ ?_); exact rfl; exact rfl; kernel_rfl; exact rfl; (rw [posCells_size]; decide))
       | ((with_reducible refine wpListIn_load_row_g (m := 133) (off := 0) ?_ Tryz.underlying30 ?_ ?_ ?_ (blk_alloc_at _ _ _ rfl) ?_ ?_); exact rfl; exact rfl; kernel_rfl; exact rfl; (rw [posCells_size]; decide))
       | (rw [Oper.semAt_eq _ _ _ (fun c h => by cases h)]; go_simp)
       | ((with_reducible refine wpListIn_load_row (m := 133) (off := 0) Tryz.underlying167 ?_ ?_ ?_ ((Ext.alloc (Ext.refl wr) _).blk _ lf |>.trans HI.out.b) ?_ ?_); exact rfl; kernel_rfl; exact rfl; (rw [posCells_size]; decide))
       | (gi_at_call 155; refine CallsIn.mono (callsIn_wide.2 (castlesJ_any p m _ b0 b1 b2 b3)) ?_; rintro e w2 ⟨rfl, hx2⟩; rw [HCM.out]; have hI2 := HI.out.ext G (Ext.trans (Ext.alloc (Ext.refl wr) _) hx2); have hbm2 := (hx2.blk wr.heap.size (by simp)).trans (blk_alloc_at _ _ _ rfl); have hc20 := blk_cell hbm2 0; have hc21 := blk_cell hbm2 1; have hc22 := blk_cell hbm2 2; simp only [List.getElem?_toArray, List.getElem?_cons_zero, List.getElem?_cons_succ] at hc20 hc21 hc22; have hxr := Ext.trans (Ext.alloc (Ext.refl wr) _) hx2; have hlm2 := blk_lt hbm2)
       | ((with_reducible refine wpListIn_load_row (m := 133) (off := 0) Tryz.underlying30 ?_ ?_ ?_ (hI2.b) ?_ ?_); exact rfl; kernel_rfl; exact rfl; (rw [posCells_size]; decide))
       | ((with_reducible refine wpListIn_store_new (q := movedP p m) ?_ ?_ ?_ ?_); exact rfl; exact rfl; kernel_rfl)
       | (gi_at_call 157; refine CallsIn.mono (callsIn_wide.2 (Move_any p m _)) ?_; rintro e w3 ⟨rfl, hx3⟩; rw [HT.out]; have hI3 := hI2.ext G hx3; have hxw := Ext.trans hxr hx3; have hct := blk_cell hI3.b 128; have hlb3 := blk_lt hI3.b; simp only [go_sem] at hct; have hbm3 := (hx3.blk _ hlm2).trans hbm2; have hlm3 := blk_lt hbm3)
       | (gi_at_call 67; refine CallsIn.mono (callsIn_wide.2 (Check_any (movedP p m) p.turn _)) ?_; rintro e w4 ⟨rfl, hx4⟩; rw [HCK.out]; have hq4 : blk w4 w3.heap.size = some (.cells (posCells (movedP p m)) 30 (0, 0)) := (hx4.blk _ (by simp)).trans (blk_alloc_at _ _ _ rfl); have hbm4 := ((Ext.trans (Ext.alloc (Ext.refl w3) _) hx4).blk wr.heap.size hlm3).trans hbm3; have hc40 := blk_cell hbm4 0; have hc41 := blk_cell hbm4 1; have hc42 := blk_cell hbm4 2; simp only [List.getElem?_toArray, List.getElem?_cons_zero, List.getElem?_cons_succ] at hc40 hc41 hc42; have hx34 := Ext.trans (Ext.alloc (Ext.refl w3) _) hx4; have hI4 := hI3.ext G hx34; have hxw4 := Ext.trans hxw hx34))
      all_goals
       have hlt9 := HLT.out
       have hall9 := HAll.out
       go_roundw
       case rel => exact ⟨k + 1, by go_num, by have := HLT.out; omega, hI4, by have := (hxw4).le; omega, by rw [legalUp_succ HM.out, HL.out]; simpa using hJ _ _ _ none hJr (Ext.grownNone (hxw4)) (fun r e => by cases e)⟩
       case measure => have := HLT.out; simp [intOf]; omega
    ·have HL := hid (show legalB p m = false by simp [legalB, ht])
     gi_wp2_with (first
      | (rw [Oper.semAt_eq _ _ _ (fun c h => by cases h)]; go_simp)
      | ((with_reducible refine wpListIn_load_row (m := 133) (off := 0) Tryz.underlying167 ?_ ?_ ?_ ((Ext.alloc (Ext.refl wr) _).blk _ lf |>.trans HI.out.b) ?_ ?_); exact rfl; kernel_rfl; exact rfl; (rw [posCells_size]; decide))
      | (gi_at_call 155; refine CallsIn.mono (callsIn_wide.2 (castlesJ_any p m _ b0 b1 b2 b3)) ?_; rintro e w2 ⟨rfl, hx2⟩; rw [HCM.out]; have hI2 := HI.out.ext G (Ext.trans (Ext.alloc (Ext.refl wr) _) hx2); have hbm2 := (hx2.blk wr.heap.size (by simp)).trans (blk_alloc_at _ _ _ rfl); have hc20 := blk_cell hbm2 0; have hc21 := blk_cell hbm2 1; have hc22 := blk_cell hbm2 2; simp only [List.getElem?_toArray, List.getElem?_cons_zero, List.getElem?_cons_succ] at hc20 hc21 hc22; have hxr := Ext.trans (Ext.alloc (Ext.refl wr) _) hx2; have hlm2 := blk_lt hbm2)
      | ((with_reducible refine wpListIn_load_row (m := 133) (off := 0) Tryz.underlying30 ?_ ?_ ?_ (hI2.b) ?_ ?_); exact rfl; kernel_rfl; exact rfl; (rw [posCells_size]; decide))
      | ((with_reducible refine wpListIn_store_new (q := movedP p m) ?_ ?_ ?_ ?_); exact rfl; exact rfl; kernel_rfl)
      | (gi_at_call 157; refine CallsIn.mono (callsIn_wide.2 (Move_any p m _)) ?_; rintro e w3 ⟨rfl, hx3⟩; have hI3 := hI2.ext G hx3; have hxw := Ext.trans hxr hx3; have hct := blk_cell hI3.b 128; have hlb3 := blk_lt hI3.b; simp only [go_sem] at hct; have hbm3 := (hx3.blk _ hlm2).trans hbm2; have hlm3 := blk_lt hbm3))
     all_goals
      have hlt9 := HLT.out
      have hall9 := HAll.out
      go_roundw
      case rel => exact ⟨k + 1, by go_num, by have := HLT.out; omega, hI3.ext G (Ext.alloc (Ext.refl _) _), by have := (hxw.alloc (.cells (posCells (movedP p m)) 30 (0, 0))).le; omega, by rw [legalUp_succ HM.out, HL.out]; simpa using hJ _ _ _ none hJr (Ext.grownNone (hxw.alloc (.cells (posCells (movedP p m)) 30 (0, 0)))) (fun r e => by cases e)⟩
      case measure => have := HLT.out; simp [intOf]; omega
   ·have HCM := hid hcm
    have hq2 : safeB p [m.fr, Int.tdiv (m.fr + m.to_) 2] = safeB p [m.fr, (m.fr + m.to_) / 2] := by rw [Int.tdiv_eq_ediv_of_nonneg (by omega)]
    cases hsf : safeB p [m.fr, Int.tdiv (m.fr + m.to_) 2]
    ·have HSF := hid (hq2.symm.trans hsf)
     have HL := hid (show legalB p m = false by simp [legalB, hcm, hsf])
     clear hsf
     gi_wp2_with (first
      | ((with_reducible refine wpListIn_load_row_g (m := 133) (off := 0) ?_ Tryz.underlying167 ?_ ?_ ?_ (hI2.b) ?_ ?_); exact rfl; exact rfl; kernel_rfl; exact rfl; (rw [posCells_size]; decide))
      | (rw [Oper.semAt_eq _ _ _ (fun c h => by cases h)]; go_simp)
      | ((with_reducible refine wpListIn_load_row (m := 133) (off := 0) Tryz.underlying167 ?_ ?_ ?_ ((Ext.alloc (Ext.refl wr) _).blk _ lf |>.trans HI.out.b) ?_ ?_); exact rfl; kernel_rfl; exact rfl; (rw [posCells_size]; decide))
      | (gi_at_call 155; refine CallsIn.mono (callsIn_wide.2 (castlesJ_any p m _ b0 b1 b2 b3)) ?_; rintro e w2 ⟨rfl, hx2⟩; rw [HCM.out]; have hI2 := HI.out.ext G (Ext.trans (Ext.alloc (Ext.refl wr) _) hx2); have hbm2 := (hx2.blk wr.heap.size (by simp)).trans (blk_alloc_at _ _ _ rfl); have hc20 := blk_cell hbm2 0; have hc21 := blk_cell hbm2 1; have hc22 := blk_cell hbm2 2; simp only [List.getElem?_toArray, List.getElem?_cons_zero, List.getElem?_cons_succ] at hc20 hc21 hc22; have hxr := Ext.trans (Ext.alloc (Ext.refl wr) _) hx2; have hlm2 := blk_lt hbm2)
      | (gi_at_call 156; refine CallsIn.mono (callsIn_wide.2 (safe_any p [m.fr, (m.fr + m.to_) / 2] _ _ (Sl.lits [m.fr, (m.fr + m.to_) / 2] _ _ rfl (alloc_ints2 _ _ _ _)) (by simp))) ?_; rintro e w5 ⟨rfl, hx5⟩; rw [HSF.out]; have hI2 := hI2.ext G (Ext.trans (Ext.alloc (Ext.refl _) _) hx5); have hbm5 := ((Ext.trans (Ext.alloc (Ext.refl _) _) hx5).blk wr.heap.size hlm2).trans hbm2; have hc20 := blk_cell hbm5 0; have hc21 := blk_cell hbm5 1; have hc22 := blk_cell hbm5 2; simp only [List.getElem?_toArray, List.getElem?_cons_zero, List.getElem?_cons_succ] at hc20 hc21 hc22; have hbm2 := hbm5; have hlm2 := blk_lt hbm5; have hxr := Ext.trans hxr (Ext.trans (Ext.alloc (Ext.refl _) _) hx5)))
     all_goals
      have hlt9 := HLT.out
      have hall9 := HAll.out
      go_roundw
      case rel => exact ⟨k + 1, by go_num, by have := HLT.out; omega, hI2, by have := (hxr).le; omega, by rw [legalUp_succ HM.out, HL.out]; simpa using hJ _ _ _ none hJr (Ext.grownNone (hxr)) (fun r e => by cases e)⟩
      case measure => have := HLT.out; simp [intOf]; omega
    ·have HSF := hid (hq2.symm.trans hsf)
     by_cases ht : takenE p m = 0
     ·have HT := hid ht
      cases hck : checkB (movedP p m) p.turn
      ·have HL := hid (show legalB p m = true by simp [legalB, hcm, ht, hck, hsf])
       have HCK := hid hck
       clear hck ht
       gi_wp2_with (first
        | (refine hR.mono ?_; rintro e W3 (⟨rfl, hJ3, hk3⟩ | ⟨rfl, hJx3⟩))
        | ((with_reducible refine wpListIn_load_row_g (m := 133) (off := 0) ?_ Tryz.underlying30 ?_ ?_ ?_ (hq4) ?_ ?_); exact rfl; exact rfl; kernel_rfl; exact rfl; (rw [posCells_size]; decide))
        | ((with_reducible refine wpListIn_load_row_g (m := 133) (off := 0) ?_ Tryz.underlying30 ?_ ?_ ?_ (blk_alloc_at _ _ _ rfl) ?_ ?_); exact rfl; exact rfl; kernel_rfl; exact rfl; (rw [posCells_size]; decide))
        | ((with_reducible refine wpListIn_load_row_g (m := 133) (off := 0) ?_ Tryz.underlying167 ?_ ?_ ?_ (hI2.b) ?_ ?_); exact rfl; exact rfl; kernel_rfl; exact rfl; (rw [posCells_size]; decide))
        | (rw [Oper.semAt_eq _ _ _ (fun c h => by cases h)]; go_simp)
        | ((with_reducible refine wpListIn_load_row (m := 133) (off := 0) Tryz.underlying167 ?_ ?_ ?_ ((Ext.alloc (Ext.refl wr) _).blk _ lf |>.trans HI.out.b) ?_ ?_); exact rfl; kernel_rfl; exact rfl; (rw [posCells_size]; decide))
        | (gi_at_call 155; refine CallsIn.mono (callsIn_wide.2 (castlesJ_any p m _ b0 b1 b2 b3)) ?_; rintro e w2 ⟨rfl, hx2⟩; rw [HCM.out]; have hI2 := HI.out.ext G (Ext.trans (Ext.alloc (Ext.refl wr) _) hx2); have hbm2 := (hx2.blk wr.heap.size (by simp)).trans (blk_alloc_at _ _ _ rfl); have hc20 := blk_cell hbm2 0; have hc21 := blk_cell hbm2 1; have hc22 := blk_cell hbm2 2; simp only [List.getElem?_toArray, List.getElem?_cons_zero, List.getElem?_cons_succ] at hc20 hc21 hc22; have hxr := Ext.trans (Ext.alloc (Ext.refl wr) _) hx2; have hlm2 := blk_lt hbm2)
        | (gi_at_call 156; refine CallsIn.mono (callsIn_wide.2 (safe_any p [m.fr, (m.fr + m.to_) / 2] _ _ (Sl.lits [m.fr, (m.fr + m.to_) / 2] _ _ rfl (alloc_ints2 _ _ _ _)) (by simp))) ?_; rintro e w5 ⟨rfl, hx5⟩; rw [HSF.out]; have hI2 := hI2.ext G (Ext.trans (Ext.alloc (Ext.refl _) _) hx5); have hbm5 := ((Ext.trans (Ext.alloc (Ext.refl _) _) hx5).blk wr.heap.size hlm2).trans hbm2; have hc20 := blk_cell hbm5 0; have hc21 := blk_cell hbm5 1; have hc22 := blk_cell hbm5 2; simp only [List.getElem?_toArray, List.getElem?_cons_zero, List.getElem?_cons_succ] at hc20 hc21 hc22; have hbm2 := hbm5; have hlm2 := blk_lt hbm5; have hxr := Ext.trans hxr (Ext.trans (Ext.alloc (Ext.refl _) _) hx5))
        | ((with_reducible refine wpListIn_load_row (m := 133) (off := 0) Tryz.underlying30 ?_ ?_ ?_ (hI2.b) ?_ ?_); exact rfl; kernel_rfl; exact rfl; (rw [posCells_size]; decide))
        | ((with_reducible refine wpListIn_store_new (q := movedP p m) ?_ ?_ ?_ ?_); exact rfl; exact rfl; kernel_rfl)
        | (gi_at_call 157; refine CallsIn.mono (callsIn_wide.2 (Move_any p m _)) ?_; rintro e w3 ⟨rfl, hx3⟩; rw [HT.out]; have hI3 := hI2.ext G hx3; have hxw := Ext.trans hxr hx3; have hct := blk_cell hI3.b 128; have hlb3 := blk_lt hI3.b; simp only [go_sem] at hct; have hbm3 := (hx3.blk _ hlm2).trans hbm2; have hlm3 := blk_lt hbm3)
        | (gi_at_call 67; refine CallsIn.mono (callsIn_wide.2 (Check_any (movedP p m) p.turn _)) ?_; rintro e w4 ⟨rfl, hx4⟩; rw [HCK.out]; have hq4 : blk w4 w3.heap.size = some (.cells (posCells (movedP p m)) 30 (0, 0)) := (hx4.blk _ (by simp)).trans (blk_alloc_at _ _ _ rfl); have hbm4 := ((Ext.trans (Ext.alloc (Ext.refl w3) _) hx4).blk wr.heap.size hlm3).trans hbm3; have hc40 := blk_cell hbm4 0; have hc41 := blk_cell hbm4 1; have hc42 := blk_cell hbm4 2; simp only [List.getElem?_toArray, List.getElem?_cons_zero, List.getElem?_cons_succ] at hc40 hc41 hc42; have hx34 := Ext.trans (Ext.alloc (Ext.refl w3) _) hx4; have hI4 := hI3.ext G hx34; have hxw4 := Ext.trans hxw hx34; have hJ4 : J (legalUp p k) w4 := hJ _ _ _ none hJr (Ext.grownNone hxw4) (fun r e => by cases e); obtain ⟨fn, tmps, assign, body, hy, hR⟩ := hY _ m w4 (List.mem_of_getElem? HM.out) HL.out hJ4 (HLEN.out); unfold mvC at hy))
       ·have hlt9 := HLT.out
        have hall9 := HAll.out
        go_roundw
        case rel => exact ⟨k + 1, by go_num, by have := HLT.out; omega, hI4.kp hk3, by have := hk3.size; have := hxw4.le; omega, by rw [legalUp_succ HM.out, HL.out]; exact hJ3⟩
        case measure => have := HLT.out; simp [intOf]; omega
       ·exact bodyPost_ret (results_none rfl _ _ _) rfl ⟨⟨_, rfl⟩, .inr ⟨_, trivial, hJx3⟩⟩
      ·have HL := hid (show legalB p m = false by simp [legalB, hcm, ht, hck, hsf])
       have HCK := hid hck
       clear hck ht
       gi_wp2_with (first
        | ((with_reducible refine wpListIn_load_row_g (m := 133) (off := 0) ?_ Tryz.underlying30 ?_ ?_ ?_ (hq4) ?_ ?_); exact rfl; exact rfl; kernel_rfl; exact rfl; (rw [posCells_size]; decide))
        | ((with_reducible refine wpListIn_load_row_g (m := 133) (off := 0) ?_ Tryz.underlying30 ?_ ?_ ?_ (blk_alloc_at _ _ _ rfl) ?_ ?_); exact rfl; exact rfl; kernel_rfl; exact rfl; (rw [posCells_size]; decide))
        | ((with_reducible refine wpListIn_load_row_g (m := 133) (off := 0) ?_ Tryz.underlying167 ?_ ?_ ?_ (hI2.b) ?_ ?_); exact rfl; exact rfl; kernel_rfl; exact rfl; (rw [posCells_size]; decide))
        | (rw [Oper.semAt_eq _ _ _ (fun c h => by cases h)]; go_simp)
        | ((with_reducible refine wpListIn_load_row (m := 133) (off := 0) Tryz.underlying167 ?_ ?_ ?_ ((Ext.alloc (Ext.refl wr) _).blk _ lf |>.trans HI.out.b) ?_ ?_); exact rfl; kernel_rfl; exact rfl; (rw [posCells_size]; decide))
        | (gi_at_call 155; refine CallsIn.mono (callsIn_wide.2 (castlesJ_any p m _ b0 b1 b2 b3)) ?_; rintro e w2 ⟨rfl, hx2⟩; rw [HCM.out]; have hI2 := HI.out.ext G (Ext.trans (Ext.alloc (Ext.refl wr) _) hx2); have hbm2 := (hx2.blk wr.heap.size (by simp)).trans (blk_alloc_at _ _ _ rfl); have hc20 := blk_cell hbm2 0; have hc21 := blk_cell hbm2 1; have hc22 := blk_cell hbm2 2; simp only [List.getElem?_toArray, List.getElem?_cons_zero, List.getElem?_cons_succ] at hc20 hc21 hc22; have hxr := Ext.trans (Ext.alloc (Ext.refl wr) _) hx2; have hlm2 := blk_lt hbm2)
        | (gi_at_call 156; refine CallsIn.mono (callsIn_wide.2 (safe_any p [m.fr, (m.fr + m.to_) / 2] _ _ (Sl.lits [m.fr, (m.fr + m.to_) / 2] _ _ rfl (alloc_ints2 _ _ _ _)) (by simp))) ?_; rintro e w5 ⟨rfl, hx5⟩; rw [HSF.out]; have hI2 := hI2.ext G (Ext.trans (Ext.alloc (Ext.refl _) _) hx5); have hbm5 := ((Ext.trans (Ext.alloc (Ext.refl _) _) hx5).blk wr.heap.size hlm2).trans hbm2; have hc20 := blk_cell hbm5 0; have hc21 := blk_cell hbm5 1; have hc22 := blk_cell hbm5 2; simp only [List.getElem?_toArray, List.getElem?_cons_zero, List.getElem?_cons_succ] at hc20 hc21 hc22; have hbm2 := hbm5; have hlm2 := blk_lt hbm5; have hxr := Ext.trans hxr (Ext.trans (Ext.alloc (Ext.refl _) _) hx5))
        | ((with_reducible refine wpListIn_load_row (m := 133) (off := 0) Tryz.underlying30 ?_ ?_ ?_ (hI2.b) ?_ ?_); exact rfl; kernel_rfl; exact rfl; (rw [posCells_size]; decide))
        | ((with_reducible refine wpListIn_store_new (q := movedP p m) ?_ ?_ ?_ ?_); exact rfl; exact rfl; kernel_rfl)
        | (gi_at_call 157; refine CallsIn.mono (callsIn_wide.2 (Move_any p m _)) ?_; rintro e w3 ⟨rfl, hx3⟩; rw [HT.out]; have hI3 := hI2.ext G hx3; have hxw := Ext.trans hxr hx3; have hct := blk_cell hI3.b 128; have hlb3 := blk_lt hI3.b; simp only [go_sem] at hct; have hbm3 := (hx3.blk _ hlm2).trans hbm2; have hlm3 := blk_lt hbm3)
        | (gi_at_call 67; refine CallsIn.mono (callsIn_wide.2 (Check_any (movedP p m) p.turn _)) ?_; rintro e w4 ⟨rfl, hx4⟩; rw [HCK.out]; have hq4 : blk w4 w3.heap.size = some (.cells (posCells (movedP p m)) 30 (0, 0)) := (hx4.blk _ (by simp)).trans (blk_alloc_at _ _ _ rfl); have hbm4 := ((Ext.trans (Ext.alloc (Ext.refl w3) _) hx4).blk wr.heap.size hlm3).trans hbm3; have hc40 := blk_cell hbm4 0; have hc41 := blk_cell hbm4 1; have hc42 := blk_cell hbm4 2; simp only [List.getElem?_toArray, List.getElem?_cons_zero, List.getElem?_cons_succ] at hc40 hc41 hc42; have hx34 := Ext.trans (Ext.alloc (Ext.refl w3) _) hx4; have hI4 := hI3.ext G hx34; have hxw4 := Ext.trans hxw hx34))
       all_goals
        have hlt9 := HLT.out
        have hall9 := HAll.out
        go_roundw
        case rel => exact ⟨k + 1, by go_num, by have := HLT.out; omega, hI4, by have := (hxw4).le; omega, by rw [legalUp_succ HM.out, HL.out]; simpa using hJ _ _ _ none hJr (Ext.grownNone (hxw4)) (fun r e => by cases e)⟩
        case measure => have := HLT.out; simp [intOf]; omega
     ·have HL := hid (show legalB p m = false by simp [legalB, ht])
      gi_wp2_with (first
       | ((with_reducible refine wpListIn_load_row_g (m := 133) (off := 0) ?_ Tryz.underlying167 ?_ ?_ ?_ (hI2.b) ?_ ?_); exact rfl; exact rfl; kernel_rfl; exact rfl; (rw [posCells_size]; decide))
       | (rw [Oper.semAt_eq _ _ _ (fun c h => by cases h)]; go_simp)
       | ((with_reducible refine wpListIn_load_row (m := 133) (off := 0) Tryz.underlying167 ?_ ?_ ?_ ((Ext.alloc (Ext.refl wr) _).blk _ lf |>.trans HI.out.b) ?_ ?_); exact rfl; kernel_rfl; exact rfl; (rw [posCells_size]; decide))
       | (gi_at_call 155; refine CallsIn.mono (callsIn_wide.2 (castlesJ_any p m _ b0 b1 b2 b3)) ?_; rintro e w2 ⟨rfl, hx2⟩; rw [HCM.out]; have hI2 := HI.out.ext G (Ext.trans (Ext.alloc (Ext.refl wr) _) hx2); have hbm2 := (hx2.blk wr.heap.size (by simp)).trans (blk_alloc_at _ _ _ rfl); have hc20 := blk_cell hbm2 0; have hc21 := blk_cell hbm2 1; have hc22 := blk_cell hbm2 2; simp only [List.getElem?_toArray, List.getElem?_cons_zero, List.getElem?_cons_succ] at hc20 hc21 hc22; have hxr := Ext.trans (Ext.alloc (Ext.refl wr) _) hx2; have hlm2 := blk_lt hbm2)
       | (gi_at_call 156; refine CallsIn.mono (callsIn_wide.2 (safe_any p [m.fr, (m.fr + m.to_) / 2] _ _ (Sl.lits [m.fr, (m.fr + m.to_) / 2] _ _ rfl (alloc_ints2 _ _ _ _)) (by simp))) ?_; rintro e w5 ⟨rfl, hx5⟩; rw [HSF.out]; have hI2 := hI2.ext G (Ext.trans (Ext.alloc (Ext.refl _) _) hx5); have hbm5 := ((Ext.trans (Ext.alloc (Ext.refl _) _) hx5).blk wr.heap.size hlm2).trans hbm2; have hc20 := blk_cell hbm5 0; have hc21 := blk_cell hbm5 1; have hc22 := blk_cell hbm5 2; simp only [List.getElem?_toArray, List.getElem?_cons_zero, List.getElem?_cons_succ] at hc20 hc21 hc22; have hbm2 := hbm5; have hlm2 := blk_lt hbm5; have hxr := Ext.trans hxr (Ext.trans (Ext.alloc (Ext.refl _) _) hx5))
       | ((with_reducible refine wpListIn_load_row (m := 133) (off := 0) Tryz.underlying30 ?_ ?_ ?_ (hI2.b) ?_ ?_); exact rfl; kernel_rfl; exact rfl; (rw [posCells_size]; decide))
       | ((with_reducible refine wpListIn_store_new (q := movedP p m) ?_ ?_ ?_ ?_); exact rfl; exact rfl; kernel_rfl)
       | (gi_at_call 157; refine CallsIn.mono (callsIn_wide.2 (Move_any p m _)) ?_; rintro e w3 ⟨rfl, hx3⟩; have hI3 := hI2.ext G hx3; have hxw := Ext.trans hxr hx3; have hct := blk_cell hI3.b 128; have hlb3 := blk_lt hI3.b; simp only [go_sem] at hct; have hbm3 := (hx3.blk _ hlm2).trans hbm2; have hlm3 := blk_lt hbm3))
      all_goals
       have hlt9 := HLT.out
       have hall9 := HAll.out
       go_roundw
       case rel => exact ⟨k + 1, by go_num, by have := HLT.out; omega, hI3.ext G (Ext.alloc (Ext.refl _) _), by have := (hxw.alloc (.cells (posCells (movedP p m)) 30 (0, 0))).le; omega, by rw [legalUp_succ HM.out, HL.out]; simpa using hJ _ _ _ none hJr (Ext.grownNone (hxw.alloc (.cells (posCells (movedP p m)) 30 (0, 0)))) (fun r e => by cases e)⟩
       case measure => have := HLT.out; simp [intOf]; omega
  ·obtain rfl : k = (AllL p).length := by omega
   gi_wp2
   go_end0
   exact ⟨⟨_, rfl⟩, .inl ⟨_, by unfold legalL legalUp; rw [List.take_length], hJr⟩⟩
theorem findL_kings (p : Pos) (s : Int) : ∀ n, (findL p 6 s n).length = kings p s n
 | 0 => rfl
 | n + 1 => by
   have ih := findL_kings p s n
   unfold findL at ih ⊢
   rw [List.range_succ, List.filter_append, List.map_append, List.length_append]
   simp only [kings]
   rw [Int.natCast_add, ih]
   congr 1
   by_cases h : p.kind n = 6 ∧ p.side n = s
   ·rw [if_pos h]; simp [List.filter_cons, h.1, h.2]
   ·rw [if_neg h]
    have : ¬ ((6 == p.kind n && s == p.side n) = true) := by
     simp only [Bool.and_eq_true, beq_iff_eq]; rintro ⟨h1, h2⟩; exact h ⟨h1.symm, h2.symm⟩
    simp [List.filter_cons, this]
theorem one_king {p : Pos} {a : Int} (hp : piecesB p = true) (a0 : 0 ≤ a) (a1 : a < 64) (hk : p.kind a.toNat = 6) (hs : p.side a.toNat = p.turn) : findL p 6 p.turn 64 = [a] := by
 unfold piecesB at hp
 simp only [Bool.and_eq_true, beq_iff_eq, Bool.or_eq_true] at hp
 have hl : (findL p 6 p.turn 64).length = 1 := by
  have := findL_kings p p.turn 64
  rcases hp.2 with h | h <;> rw [h] at this ⊢ <;> omega
 have hm : a ∈ findL p 6 p.turn 64 := by
  unfold findL
  rw [List.mem_map]
  refine ⟨a.toNat, ?_, by omega⟩
  rw [List.mem_filter, List.mem_range]
  exact ⟨by omega, by simp [hk, hs]⟩
 generalize findL p 6 p.turn 64 = l at *
 cases l with
 | nil => cases hm
 | cons x r =>
   cases r with
   | nil => rw [List.mem_singleton] at hm; rw [hm]
   | cons y r => simp at hl
theorem AllL_goes {p : Pos} {m : Mv} (h : m ∈ AllL p) : 0 ≤ m.fr ∧ m.fr < 64 ∧ 0 ≤ m.to_ ∧ m.to_ < 64 ∧ rGoesB p m.fr m.to_ = true ∧ m ∈ toOne m.fr (p.kind m.fr.toNat) (p.side m.fr.toNat) m.to_ := by
 rw [All_eq] at h
 unfold rAllL at h
 rw [List.mem_flatMap] at h
 obtain ⟨a, ha, hm⟩ := h
 have := List.mem_range.1 ha
 obtain ⟨t, t0, t1, hg, hm⟩ := mem_rFrom.1 hm
 obtain ⟨e', e⟩ := mem_toOne hm
 rw [e', e]
 exact ⟨by omega, by omega, by omega, by omega, hg, hm⟩
def rFineB (p : Pos) (m : Mv) : Bool := (takenE p m == 0 && !checkB (movedP p m) p.turn) && (!castlesMB p m || (!checkB p p.turn && !attacked p (otherOf p.turn) [Int.tdiv (m.fr + m.to_) 2]))
theorem fine_eq {p : Pos} {m : Mv} (hp : piecesB p = true) (h : m ∈ AllL p) : rFineB p m = legalB p m := by
 obtain ⟨f0, f1, t0, t1, hg, -⟩ := AllL_goes h
 have hmv := goes_mover hg
 unfold rFineB legalB
 cases hc : castlesMB p m
 ·simp
 ·have hk : p.kind m.fr.toNat = 6 := by simp [castlesMB] at hc; exact hc.1
  have ht : p.turn = 0 ∨ p.turn = 1 := by
   have := hmv.1; simp [mayB] at this; rw [← hmv.2]; exact this.2.2
  have hch : checkB p p.turn = attacked p (otherOf p.turn) [m.fr] := by
   unfold checkB
   rw [if_pos ht, one_king hp f0 f1 hk hmv.2]
  rw [hch]
  unfold safeB attacked
  simp only [List.any_cons, List.any_nil, Bool.or_false, Bool.not_true, Bool.false_or, Bool.true_and, Bool.not_not]
  rw [Bool.and_comm]
  congr 1
  simp [Bool.not_or]
def movesP (p : Pos) : List Mv := if positionB p = true then legalL p else []
def rMovesP (p : Pos) : List Mv := if positionB p = true then (rAllL p).filter (rFineB p) else []
theorem moves_eq (p : Pos) : rMovesP p = movesP p := by
 unfold rMovesP movesP
 split
 ·rename_i h
  have hp : piecesB p = true := by
   simp only [positionB, rightB, Bool.and_eq_true] at h; exact h.1.1.1.1
  unfold legalL
  rw [← All_eq]
  exact List.filter_congr fun m hm => fine_eq hp hm
 ·rfl
def overM (p : Pos) (m : Mv) : Bool := m.to_ == p.over && takes2 p m != -1 && takes2 p m != m.to_
def rOverM (p : Pos) (m : Mv) : Bool := m.to_ == p.over && p.kind m.fr.toNat == 1 && m.fr % 8 != m.to_ % 8 && bareB p m.to_
def overA (p : Pos) : Int := if p.over = -1 then -1 else if (movesP p).any (overM p) = true then p.over else -1
def rOverA (p : Pos) : Int := if p.over = -1 then -1 else if (movesP p).any (rOverM p) = true then p.over else -1
theorem overM_eq {p : Pos} {m : Mv} (hp : positionB p = true) (hm : m ∈ legalL p) (hov : p.over ≠ -1) : overM p m = rOverM p m := by
 unfold legalL at hm
 rw [List.mem_filter] at hm
 obtain ⟨hm, hl⟩ := hm
 obtain ⟨f0, f1, t0, t1, hg, -⟩ := AllL_goes hm
 have hmv := goes_mover hg
 have hE : takenE p m = 0 := by
  unfold legalB at hl
  simp only [Bool.and_eq_true, beq_iff_eq] at hl
  exact hl.2.1
 have ht2 : takes2 p m = takesOf p m (p.kind m.fr.toNat) := by unfold takes2; rw [if_pos hE]
 unfold overM rOverM
 rw [ht2]
 by_cases hto : m.to_ = p.over
 ·have htn : turnsOf m ≠ 0 ↔ m.fr % 8 ≠ m.to_ % 8 := by
   unfold turnsOf fileOf
   rw [if_pos ⟨t0, t1⟩, if_pos ⟨f0, f1⟩]; omega
  by_cases hc : p.kind m.fr.toNat = 1 ∧ turnsOf m ≠ 0 ∧ m.to_ = p.over ∧ bareB p m.to_ = true
  ·have hat : takesAt p m (p.kind m.fr.toNat) = m.fr / 8 * 8 + m.to_ % 8 := by unfold takesAt; rw [if_pos hc]
   obtain ⟨c1, c2, c3, c4⟩ := hc
   rw [htn] at c2
   have hA : rAttB p m.fr m.to_ = true := by
    unfold rGoesB at hg
    split at hg
    ·have hon : onOfS (p.side m.fr.toNat) = 8 ∨ onOfS (p.side m.fr.toNat) = -8 := by unfold onOfS; split <;> omega
     unfold rPawnB at hg
     dsimp only at hg
     rw [if_neg (by omega), if_neg (by omega)] at hg
     split at hg
     ·assumption
     ·cases hg
    ·cases hg
   obtain ⟨-, hr⟩ := att_pawn hA c1
   have hO : overB p = true := by
    simp only [positionB, rightB, Bool.and_eq_true] at hp; exact hp.1.1.2
   unfold overB at hO
   rw [Bool.or_eq_true] at hO
   rcases hO with hO | hO
   ·simp at hO; exact absurd hO hov
   ·simp only [Bool.and_eq_true, decide_eq_true_eq] at hO
    have hst := hO.2
    have hrk := hO.1.1.1.1
    unfold rankOf at hrk
    rw [← hto, if_pos ⟨t0, t1⟩] at hrk
    have htd : p.turn = 0 ∨ p.turn = 1 := by
     have := hmv.1; simp [mayB] at this; rw [← hmv.2]; exact this.2.2
    have hat2 : stepOf m.to_ 0 (-overOn p) = m.fr / 8 * 8 + m.to_ % 8 := by
     unfold stepOf onOf
     rw [if_pos (show 0 ≤ m.to_ ∧ m.to_ < 64 from ⟨t0, t1⟩)]
     unfold numOf overOn
     unfold overRank at hrk
     unfold rd at hr
     rw [hmv.2] at hr
     rcases htd with e | e <;> rw [e] at hrk hr ⊢ <;> simp at hrk hr ⊢ <;> split <;> omega
    have hrd : m.fr / 8 ≠ m.to_ / 8 := by unfold rd at hr; omega
    rw [← hto, hat2] at hst
    have hnb : bareB p (m.fr / 8 * 8 + m.to_ % 8) = false := by
     unfold standsB at hst
     unfold bareB
     rw [Bool.and_eq_true, beq_iff_eq] at hst
     rw [hst.1]; simp
    unfold takesOf
    rw [hat, hnb, hto.symm]
    simp only [c1, c4, beq_self_eq_true, Bool.true_and, Bool.and_true]
    have e1 : (m.fr / 8 * 8 + m.to_ % 8 != -1) = true := by simp; omega
    have e2 : (m.fr / 8 * 8 + m.to_ % 8 != m.to_) = true := by simp; omega
    have e3 : (m.fr % 8 != m.to_ % 8) = true := by simpa using c2
    simp only [Bool.false_eq_true, if_false, e1, e2, e3, Bool.and_self]
  ·have hat : takesAt p m (p.kind m.fr.toNat) = m.to_ := by unfold takesAt; rw [if_neg hc]
   have hr : (p.kind m.fr.toNat == 1 && m.fr % 8 != m.to_ % 8 && bareB p m.to_) = false := by
    rw [Bool.eq_false_iff]
    intro h
    simp only [Bool.and_eq_true, beq_iff_eq, bne_iff_ne] at h
    exact hc ⟨h.1.1, htn.2 h.1.2, hto, h.2⟩
   have hl : (takesOf p m (p.kind m.fr.toNat) != -1 && takesOf p m (p.kind m.fr.toNat) != m.to_) = false := by
    unfold takesOf
    rw [hat]
    split <;> simp
   rw [Bool.and_assoc, hl, Bool.and_assoc, Bool.and_assoc, ← Bool.and_assoc (p.kind m.fr.toNat == 1), hr]
 ·have : (m.to_ == p.over) = false := by simpa using hto
  simp only [this, Bool.false_and]
theorem overA_eq (p : Pos) : rOverA p = overA p := by
 unfold rOverA overA
 split
 ·rfl
 ·rename_i hov
  have : (movesP p).any (rOverM p) = (movesP p).any (overM p) := by
   unfold movesP
   split
   ·rename_i hp
    rw [Bool.eq_iff_iff, List.any_eq_true, List.any_eq_true]
    constructor
    ·rintro ⟨m, hm, h⟩; exact ⟨m, hm, by rw [overM_eq hp hm hov]; exact h⟩
    ·rintro ⟨m, hm, h⟩; exact ⟨m, hm, by rw [← overM_eq hp hm hov]; exact h⟩
   ·rfl
  rw [this]
theorem rBare_any (p : Pos) (s : Int) (w : World) : Calls Tryz.prog 214 #[.agg (posCells p), .int .i64 s] w (Ret (.bool (freeAt p s)) w) := by
 by_cases h : 0 ≤ s ∧ s < 64
 ·obtain ⟨h0, h1⟩ := h
  have h2 : s.toNat < 64 := by omega
  have HE := hid (show freeAt p s = (p.kind s.toNat == 0 && p.side s.toNat == 0) by simp [freeAt, isSq, h0, h1, bareB])
  go_enter Tryz.func214, Tryz.ntmps214
  go_wp2
  all_goals (go_ret; exact Ret.mk' (vbool (by rw [HE.out]; (try simp_all))) (Ext.auto))
 ·have HE := hid (show freeAt p s = false by simp [freeAt, isSq, h])
  by_cases h0 : 0 ≤ s
  ·have h1 : ¬ s < 64 := fun h1 => h ⟨h0, h1⟩
   clear h
   go_enter Tryz.func214, Tryz.ntmps214
   go_wp2
   all_goals (go_ret; exact Ret.mk' (vbool (by rw [HE.out])) (Ext.auto))
  ·clear h
   go_enter Tryz.func214, Tryz.ntmps214
   go_wp2
   all_goals (go_ret; exact Ret.mk' (vbool (by rw [HE.out])) (Ext.auto))
theorem cell_sq {p : Pos} {W : World} {b : Nat} {t : TypeId} (h : blk W b = some (.cells (posCells p) t (0, 0))) (i : Nat) (hi : i < 64) : W.cell? ⟨b, i * 2, none⟩ = some (.int .i64 (p.kind i)) ∧ W.cell? ⟨b, i * 2 + 1, none⟩ = some (.int .i64 (p.side i)) := by
 rw [blk_cell h, blk_cell h]; exact ⟨posCells_kind p i hi, posCells_side p i hi⟩
theorem rCastle_any (p : Pos) (a t : Int) (w : World) (a0 : 0 ≤ a) (a1 : a < 64) (hs : p.side a.toNat = 0 ∨ p.side a.toNat = 1) : Calls Tryz.prog 186 #[.agg (posCells p), .int .i64 a, .int .i64 t] w (Ret (.bool (rCastleB p a t)) w) := by
 have a2 : a.toNat < 64 := by omega
 have HF : ∀ x w, Calls Tryz.prog 214 #[.agg (posCells p), .int .i64 x] w (Ret (.bool (freeAt p x)) w) := fun x w => rBare_any p x w
 rcases hs with hs | hs
 ·have HE0 := hid (show rCastleB p a t = if a = 4 ∧ 0 ≤ p.castle ∧ p.castle ≤ 15 then (if t = 6 then p.castle % 2 == 1 && (p.kind 7 == 4 && p.side 7 == 0) && freeAt p 5 && freeAt p 6 else t == 2 && p.castle / 2 % 2 == 1 && (p.kind 0 == 4 && p.side 0 == 0) && freeAt p 3 && freeAt p 2 && freeAt p 1) else false by
   unfold rCastleB standsB; rw [hs]; simp [homeOf])
  by_cases hc : a = 4 ∧ 0 ≤ p.castle ∧ p.castle ≤ 15
  ·have HE := hid (HE0.out.trans (if_pos hc))
   clear HE0
   obtain ⟨rfl, c0, c1⟩ := hc
   have hs4 : p.side 4 = 0 := hs
   have p9 : ∀ h, (posCells p)[9]'h = .int .i64 (p.side 4) := fun h => posCells_side' p 4 (by decide) h
   have p8 : (posCells p)[9]? = some (.int .i64 (p.side 4)) := posCells_side p 4 (by decide)
   clear hs
   have q1 : p.castle.tdiv 1 = p.castle := Int.tdiv_one _
   have q2 : p.castle.tdiv 2 = p.castle / 2 := Int.tdiv_eq_ediv_of_nonneg c0
   have q4 : p.castle.tdiv 4 = p.castle / 4 := Int.tdiv_eq_ediv_of_nonneg c0
   have q8 : p.castle.tdiv 8 = p.castle / 8 := Int.tdiv_eq_ediv_of_nonneg c0
   have r1 : p.castle.tmod 2 = p.castle % 2 := Int.tmod_eq_emod_of_nonneg c0
   have r2 : (p.castle / 2).tmod 2 = p.castle / 2 % 2 := Int.tmod_eq_emod_of_nonneg (by omega)
   have r4 : (p.castle / 4).tmod 2 = p.castle / 4 % 2 := Int.tmod_eq_emod_of_nonneg (by omega)
   have r8 : (p.castle / 8).tmod 2 = p.castle / 8 % 2 := Int.tmod_eq_emod_of_nonneg (by omega)
   by_cases ht : t = 6
   ·subst ht
    have HE := hid (HE.out.trans (if_pos rfl))
    cases h1 : (p.castle % 2 == 1)
    ·skip
     go_enter Tryz.func186, Tryz.ntmps186
     go_upto_region 9 with (fail)
     obtain ⟨W1, hW1⟩ : ∃ W1, W1 = (w.alloc (.cells (posCells p) 30)).alloc (.cells #[.int .i64 4, .int .i64 0] 26) := ⟨_, rfl⟩
     have hb1 : blk W1 w.heap.size = some (.cells (posCells p) 30 (0, 0)) := by rw [hW1]; simp [go_sem]
     have hb2 : blk W1 (w.heap.size + 1) = some (.cells #[.int .i64 4, .int .i64 0] 26 (0, 0)) := by rw [hW1]; simp [go_sem]
     have hE1 : Ext w W1 := by rw [hW1]; exact (Ext.auto)
     rw [← hW1]
     clear hW1
     obtain ⟨z0, z1⟩ := cell_sq hb1 7 (by decide)
     simp only [Nat.reduceMul, Nat.reduceAdd, Nat.zero_add] at z0 z1
     have z2 := blk_cell hb1 129
     have z3 := blk_cell hb2 0
     have z4 := blk_cell hb2 1
     have l1 := blk_lt hb1
     have l2 := blk_lt hb2
     simp only [go_sem, List.getElem?_toArray, List.getElem?_cons_zero, List.getElem?_cons_succ] at z2 z3 z4
     refine wp_quiet (by kernel_rfl) (by kernel_rfl) ?_; (repeat (first | go_big_quiet_step ((first | (go_at_call 214; with_reducible exact Calls.reg (HF _ _)))) | quiet_step ((first | (go_at_call 214; with_reducible exact Calls.reg (HF _ _)))))); refine wpQuiet_nil ?_; intro w1 hx; obtain ⟨hxc, hxf, hxb, hxs⟩ := hx.als; (try have := sW w w1)
     go_wp2
     all_goals (go_ret; exact Ret.mk' (vbool (by rw [HE.out]; (try simp_all))) (hE1.trans hx))
    ·skip
     cases h2 : (p.kind 7 == 4 && p.side 7 == 0)
     ·skip
      go_enter Tryz.func186, Tryz.ntmps186
      go_upto_region 9 with (fail)
      obtain ⟨W1, hW1⟩ : ∃ W1, W1 = (w.alloc (.cells (posCells p) 30)).alloc (.cells #[.int .i64 4, .int .i64 0] 26) := ⟨_, rfl⟩
      have hb1 : blk W1 w.heap.size = some (.cells (posCells p) 30 (0, 0)) := by rw [hW1]; simp [go_sem]
      have hb2 : blk W1 (w.heap.size + 1) = some (.cells #[.int .i64 4, .int .i64 0] 26 (0, 0)) := by rw [hW1]; simp [go_sem]
      have hE1 : Ext w W1 := by rw [hW1]; exact (Ext.auto)
      rw [← hW1]
      clear hW1
      obtain ⟨z0, z1⟩ := cell_sq hb1 7 (by decide)
      simp only [Nat.reduceMul, Nat.reduceAdd, Nat.zero_add] at z0 z1
      have z2 := blk_cell hb1 129
      have z3 := blk_cell hb2 0
      have z4 := blk_cell hb2 1
      have l1 := blk_lt hb1
      have l2 := blk_lt hb2
      simp only [go_sem, List.getElem?_toArray, List.getElem?_cons_zero, List.getElem?_cons_succ] at z2 z3 z4
      refine wp_quiet (by kernel_rfl) (by kernel_rfl) ?_; (repeat (first | go_big_quiet_step ((first | (go_at_call 214; with_reducible exact Calls.reg (HF _ _)))) | quiet_step ((first | (go_at_call 214; with_reducible exact Calls.reg (HF _ _)))))); refine wpQuiet_nil ?_; intro w1 hx; obtain ⟨hxc, hxf, hxb, hxs⟩ := hx.als; (try have := sW w w1)
      go_wp2
      all_goals (go_ret; exact Ret.mk' (vbool (by rw [HE.out]; (try simp_all))) (hE1.trans hx))
     ·skip
      cases h3 : freeAt p 5
      ·skip
       go_enter Tryz.func186, Tryz.ntmps186
       go_upto_region 9 with (fail)
       obtain ⟨W1, hW1⟩ : ∃ W1, W1 = (w.alloc (.cells (posCells p) 30)).alloc (.cells #[.int .i64 4, .int .i64 0] 26) := ⟨_, rfl⟩
       have hb1 : blk W1 w.heap.size = some (.cells (posCells p) 30 (0, 0)) := by rw [hW1]; simp [go_sem]
       have hb2 : blk W1 (w.heap.size + 1) = some (.cells #[.int .i64 4, .int .i64 0] 26 (0, 0)) := by rw [hW1]; simp [go_sem]
       have hE1 : Ext w W1 := by rw [hW1]; exact (Ext.auto)
       rw [← hW1]
       clear hW1
       obtain ⟨z0, z1⟩ := cell_sq hb1 7 (by decide)
       simp only [Nat.reduceMul, Nat.reduceAdd, Nat.zero_add] at z0 z1
       have z2 := blk_cell hb1 129
       have z3 := blk_cell hb2 0
       have z4 := blk_cell hb2 1
       have l1 := blk_lt hb1
       have l2 := blk_lt hb2
       simp only [go_sem, List.getElem?_toArray, List.getElem?_cons_zero, List.getElem?_cons_succ] at z2 z3 z4
       refine wp_quiet (by kernel_rfl) (by kernel_rfl) ?_; (repeat (first | go_big_quiet_step ((first | (go_at_call 214; with_reducible exact Calls.reg (HF _ _)))) | quiet_step ((first | (go_at_call 214; with_reducible exact Calls.reg (HF _ _)))))); refine wpQuiet_nil ?_; intro w1 hx; obtain ⟨hxc, hxf, hxb, hxs⟩ := hx.als; (try have := sW w w1)
       go_wp2
       all_goals (go_ret; exact Ret.mk' (vbool (by rw [HE.out]; (try simp_all))) (hE1.trans hx))
      ·skip
       go_enter Tryz.func186, Tryz.ntmps186
       go_upto_region 9 with (fail)
       obtain ⟨W1, hW1⟩ : ∃ W1, W1 = (w.alloc (.cells (posCells p) 30)).alloc (.cells #[.int .i64 4, .int .i64 0] 26) := ⟨_, rfl⟩
       have hb1 : blk W1 w.heap.size = some (.cells (posCells p) 30 (0, 0)) := by rw [hW1]; simp [go_sem]
       have hb2 : blk W1 (w.heap.size + 1) = some (.cells #[.int .i64 4, .int .i64 0] 26 (0, 0)) := by rw [hW1]; simp [go_sem]
       have hE1 : Ext w W1 := by rw [hW1]; exact (Ext.auto)
       rw [← hW1]
       clear hW1
       obtain ⟨z0, z1⟩ := cell_sq hb1 7 (by decide)
       simp only [Nat.reduceMul, Nat.reduceAdd, Nat.zero_add] at z0 z1
       have z2 := blk_cell hb1 129
       have z3 := blk_cell hb2 0
       have z4 := blk_cell hb2 1
       have l1 := blk_lt hb1
       have l2 := blk_lt hb2
       simp only [go_sem, List.getElem?_toArray, List.getElem?_cons_zero, List.getElem?_cons_succ] at z2 z3 z4
       refine wp_quiet (by kernel_rfl) (by kernel_rfl) ?_; (repeat (first | go_big_quiet_step ((first | (go_at_call 214; with_reducible exact Calls.reg (HF _ _)))) | quiet_step ((first | (go_at_call 214; with_reducible exact Calls.reg (HF _ _)))))); refine wpQuiet_nil ?_; intro w1 hx; obtain ⟨hxc, hxf, hxb, hxs⟩ := hx.als; (try have := sW w w1)
       go_wp2
       all_goals (go_ret; exact Ret.mk' (vbool (by rw [HE.out]; (try simp_all))) (hE1.trans hx))
   ·have HE := hid (HE.out.trans (if_neg ht))
    have e1 : (t == 6) = false := by simpa using ht
    clear ht
    cases h0 : (t == 2)
    ·skip
     go_enter Tryz.func186, Tryz.ntmps186
     go_upto_region 10 with (fail)
     obtain ⟨W1, hW1⟩ : ∃ W1, W1 = (w.alloc (.cells (posCells p) 30)).alloc (.cells #[.int .i64 4, .int .i64 0] 26) := ⟨_, rfl⟩
     have hb1 : blk W1 w.heap.size = some (.cells (posCells p) 30 (0, 0)) := by rw [hW1]; simp [go_sem]
     have hb2 : blk W1 (w.heap.size + 1) = some (.cells #[.int .i64 4, .int .i64 0] 26 (0, 0)) := by rw [hW1]; simp [go_sem]
     have hE1 : Ext w W1 := by rw [hW1]; exact (Ext.auto)
     rw [← hW1]
     clear hW1
     obtain ⟨z0, z1⟩ := cell_sq hb1 0 (by decide)
     simp only [Nat.reduceMul, Nat.reduceAdd, Nat.zero_add] at z0 z1
     have z2 := blk_cell hb1 129
     have z3 := blk_cell hb2 0
     have z4 := blk_cell hb2 1
     have l1 := blk_lt hb1
     have l2 := blk_lt hb2
     simp only [go_sem, List.getElem?_toArray, List.getElem?_cons_zero, List.getElem?_cons_succ] at z2 z3 z4
     refine wp_quiet (by kernel_rfl) (by kernel_rfl) ?_; (repeat (first | go_big_quiet_step ((first | (go_at_call 214; with_reducible exact Calls.reg (HF _ _)))) | quiet_step ((first | (go_at_call 214; with_reducible exact Calls.reg (HF _ _)))))); refine wpQuiet_nil ?_; intro w1 hx; obtain ⟨hxc, hxf, hxb, hxs⟩ := hx.als; (try have := sW w w1)
     go_wp2
     all_goals (go_ret; exact Ret.mk' (vbool (by rw [HE.out]; (try simp_all))) (hE1.trans hx))
    ·skip
     cases h1 : (p.castle / 2 % 2 == 1)
     ·skip
      go_enter Tryz.func186, Tryz.ntmps186
      go_upto_region 10 with (fail)
      obtain ⟨W1, hW1⟩ : ∃ W1, W1 = (w.alloc (.cells (posCells p) 30)).alloc (.cells #[.int .i64 4, .int .i64 0] 26) := ⟨_, rfl⟩
      have hb1 : blk W1 w.heap.size = some (.cells (posCells p) 30 (0, 0)) := by rw [hW1]; simp [go_sem]
      have hb2 : blk W1 (w.heap.size + 1) = some (.cells #[.int .i64 4, .int .i64 0] 26 (0, 0)) := by rw [hW1]; simp [go_sem]
      have hE1 : Ext w W1 := by rw [hW1]; exact (Ext.auto)
      rw [← hW1]
      clear hW1
      obtain ⟨z0, z1⟩ := cell_sq hb1 0 (by decide)
      simp only [Nat.reduceMul, Nat.reduceAdd, Nat.zero_add] at z0 z1
      have z2 := blk_cell hb1 129
      have z3 := blk_cell hb2 0
      have z4 := blk_cell hb2 1
      have l1 := blk_lt hb1
      have l2 := blk_lt hb2
      simp only [go_sem, List.getElem?_toArray, List.getElem?_cons_zero, List.getElem?_cons_succ] at z2 z3 z4
      refine wp_quiet (by kernel_rfl) (by kernel_rfl) ?_; (repeat (first | go_big_quiet_step ((first | (go_at_call 214; with_reducible exact Calls.reg (HF _ _)))) | quiet_step ((first | (go_at_call 214; with_reducible exact Calls.reg (HF _ _)))))); refine wpQuiet_nil ?_; intro w1 hx; obtain ⟨hxc, hxf, hxb, hxs⟩ := hx.als; (try have := sW w w1)
      go_wp2
      all_goals (go_ret; exact Ret.mk' (vbool (by rw [HE.out]; (try simp_all))) (hE1.trans hx))
     ·skip
      cases h2 : (p.kind 0 == 4 && p.side 0 == 0)
      ·skip
       go_enter Tryz.func186, Tryz.ntmps186
       go_upto_region 10 with (fail)
       obtain ⟨W1, hW1⟩ : ∃ W1, W1 = (w.alloc (.cells (posCells p) 30)).alloc (.cells #[.int .i64 4, .int .i64 0] 26) := ⟨_, rfl⟩
       have hb1 : blk W1 w.heap.size = some (.cells (posCells p) 30 (0, 0)) := by rw [hW1]; simp [go_sem]
       have hb2 : blk W1 (w.heap.size + 1) = some (.cells #[.int .i64 4, .int .i64 0] 26 (0, 0)) := by rw [hW1]; simp [go_sem]
       have hE1 : Ext w W1 := by rw [hW1]; exact (Ext.auto)
       rw [← hW1]
       clear hW1
       obtain ⟨z0, z1⟩ := cell_sq hb1 0 (by decide)
       simp only [Nat.reduceMul, Nat.reduceAdd, Nat.zero_add] at z0 z1
       have z2 := blk_cell hb1 129
       have z3 := blk_cell hb2 0
       have z4 := blk_cell hb2 1
       have l1 := blk_lt hb1
       have l2 := blk_lt hb2
       simp only [go_sem, List.getElem?_toArray, List.getElem?_cons_zero, List.getElem?_cons_succ] at z2 z3 z4
       refine wp_quiet (by kernel_rfl) (by kernel_rfl) ?_; (repeat (first | go_big_quiet_step ((first | (go_at_call 214; with_reducible exact Calls.reg (HF _ _)))) | quiet_step ((first | (go_at_call 214; with_reducible exact Calls.reg (HF _ _)))))); refine wpQuiet_nil ?_; intro w1 hx; obtain ⟨hxc, hxf, hxb, hxs⟩ := hx.als; (try have := sW w w1)
       go_wp2
       all_goals (go_ret; exact Ret.mk' (vbool (by rw [HE.out]; (try simp_all))) (hE1.trans hx))
      ·skip
       cases h3 : freeAt p 3
       ·skip
        go_enter Tryz.func186, Tryz.ntmps186
        go_upto_region 10 with (fail)
        obtain ⟨W1, hW1⟩ : ∃ W1, W1 = (w.alloc (.cells (posCells p) 30)).alloc (.cells #[.int .i64 4, .int .i64 0] 26) := ⟨_, rfl⟩
        have hb1 : blk W1 w.heap.size = some (.cells (posCells p) 30 (0, 0)) := by rw [hW1]; simp [go_sem]
        have hb2 : blk W1 (w.heap.size + 1) = some (.cells #[.int .i64 4, .int .i64 0] 26 (0, 0)) := by rw [hW1]; simp [go_sem]
        have hE1 : Ext w W1 := by rw [hW1]; exact (Ext.auto)
        rw [← hW1]
        clear hW1
        obtain ⟨z0, z1⟩ := cell_sq hb1 0 (by decide)
        simp only [Nat.reduceMul, Nat.reduceAdd, Nat.zero_add] at z0 z1
        have z2 := blk_cell hb1 129
        have z3 := blk_cell hb2 0
        have z4 := blk_cell hb2 1
        have l1 := blk_lt hb1
        have l2 := blk_lt hb2
        simp only [go_sem, List.getElem?_toArray, List.getElem?_cons_zero, List.getElem?_cons_succ] at z2 z3 z4
        refine wp_quiet (by kernel_rfl) (by kernel_rfl) ?_; (repeat (first | go_big_quiet_step ((first | (go_at_call 214; with_reducible exact Calls.reg (HF _ _)))) | quiet_step ((first | (go_at_call 214; with_reducible exact Calls.reg (HF _ _)))))); refine wpQuiet_nil ?_; intro w1 hx; obtain ⟨hxc, hxf, hxb, hxs⟩ := hx.als; (try have := sW w w1)
        go_wp2
        all_goals (go_ret; exact Ret.mk' (vbool (by rw [HE.out]; (try simp_all))) (hE1.trans hx))
       ·skip
        cases h4 : freeAt p 2
        ·skip
         go_enter Tryz.func186, Tryz.ntmps186
         go_upto_region 10 with (fail)
         obtain ⟨W1, hW1⟩ : ∃ W1, W1 = (w.alloc (.cells (posCells p) 30)).alloc (.cells #[.int .i64 4, .int .i64 0] 26) := ⟨_, rfl⟩
         have hb1 : blk W1 w.heap.size = some (.cells (posCells p) 30 (0, 0)) := by rw [hW1]; simp [go_sem]
         have hb2 : blk W1 (w.heap.size + 1) = some (.cells #[.int .i64 4, .int .i64 0] 26 (0, 0)) := by rw [hW1]; simp [go_sem]
         have hE1 : Ext w W1 := by rw [hW1]; exact (Ext.auto)
         rw [← hW1]
         clear hW1
         obtain ⟨z0, z1⟩ := cell_sq hb1 0 (by decide)
         simp only [Nat.reduceMul, Nat.reduceAdd, Nat.zero_add] at z0 z1
         have z2 := blk_cell hb1 129
         have z3 := blk_cell hb2 0
         have z4 := blk_cell hb2 1
         have l1 := blk_lt hb1
         have l2 := blk_lt hb2
         simp only [go_sem, List.getElem?_toArray, List.getElem?_cons_zero, List.getElem?_cons_succ] at z2 z3 z4
         refine wp_quiet (by kernel_rfl) (by kernel_rfl) ?_; (repeat (first | go_big_quiet_step ((first | (go_at_call 214; with_reducible exact Calls.reg (HF _ _)))) | quiet_step ((first | (go_at_call 214; with_reducible exact Calls.reg (HF _ _)))))); refine wpQuiet_nil ?_; intro w1 hx; obtain ⟨hxc, hxf, hxb, hxs⟩ := hx.als; (try have := sW w w1)
         go_wp2
         all_goals (go_ret; exact Ret.mk' (vbool (by rw [HE.out]; (try simp_all))) (hE1.trans hx))
        ·skip
         go_enter Tryz.func186, Tryz.ntmps186
         go_upto_region 10 with (fail)
         obtain ⟨W1, hW1⟩ : ∃ W1, W1 = (w.alloc (.cells (posCells p) 30)).alloc (.cells #[.int .i64 4, .int .i64 0] 26) := ⟨_, rfl⟩
         have hb1 : blk W1 w.heap.size = some (.cells (posCells p) 30 (0, 0)) := by rw [hW1]; simp [go_sem]
         have hb2 : blk W1 (w.heap.size + 1) = some (.cells #[.int .i64 4, .int .i64 0] 26 (0, 0)) := by rw [hW1]; simp [go_sem]
         have hE1 : Ext w W1 := by rw [hW1]; exact (Ext.auto)
         rw [← hW1]
         clear hW1
         obtain ⟨z0, z1⟩ := cell_sq hb1 0 (by decide)
         simp only [Nat.reduceMul, Nat.reduceAdd, Nat.zero_add] at z0 z1
         have z2 := blk_cell hb1 129
         have z3 := blk_cell hb2 0
         have z4 := blk_cell hb2 1
         have l1 := blk_lt hb1
         have l2 := blk_lt hb2
         simp only [go_sem, List.getElem?_toArray, List.getElem?_cons_zero, List.getElem?_cons_succ] at z2 z3 z4
         refine wp_quiet (by kernel_rfl) (by kernel_rfl) ?_; (repeat (first | go_big_quiet_step ((first | (go_at_call 214; with_reducible exact Calls.reg (HF _ _)))) | quiet_step ((first | (go_at_call 214; with_reducible exact Calls.reg (HF _ _)))))); refine wpQuiet_nil ?_; intro w1 hx; obtain ⟨hxc, hxf, hxb, hxs⟩ := hx.als; (try have := sW w w1)
         go_wp2
         all_goals (go_ret; exact Ret.mk' (vbool (by rw [HE.out]; (try simp_all))) (hE1.trans hx))
  ·have HE := hid (HE0.out.trans (if_neg hc))
   clear HE0
   have HC := hid hc
   have hx : ((a == 4) = false) ∨ ((a == 4) = true ∧ p.castle < 0) ∨ ((a == 4) = true ∧ 0 ≤ p.castle ∧ 15 < p.castle) := by
    by_cases h : a = 4
    ·by_cases h0 : p.castle < 0
     ·exact .inr (.inl ⟨by simpa using h, h0⟩)
     ·exact .inr (.inr ⟨by simpa using h, by omega, by omega⟩)
    ·exact .inl (by simpa using h)
   clear hc
   clear HC
   rcases hx with h1 | ⟨h1, h2⟩ | ⟨h1, h2, h3⟩
   ·go_enter Tryz.func186, Tryz.ntmps186
    go_wp2
    all_goals (go_ret; exact Ret.mk' (vbool (by first | rw [HE.out] | (exfalso; simp_all))) (Ext.auto))
   ·obtain rfl : a = 4 := by simpa using h1
    have p9 : ∀ h, (posCells p)[9]'h = .int .i64 (p.side 4) := fun h => posCells_side' p 4 (by decide) h
    have p8 : (posCells p)[9]? = some (.int .i64 (p.side 4)) := posCells_side p 4 (by decide)
    have hs4 : p.side 4 = 0 := hs
    clear hs
    go_enter Tryz.func186, Tryz.ntmps186
    go_wp2
    all_goals (go_ret; exact Ret.mk' (vbool (by first | rw [HE.out] | (exfalso; simp_all))) (Ext.auto))
   ·obtain rfl : a = 4 := by simpa using h1
    have p9 : ∀ h, (posCells p)[9]'h = .int .i64 (p.side 4) := fun h => posCells_side' p 4 (by decide) h
    have p8 : (posCells p)[9]? = some (.int .i64 (p.side 4)) := posCells_side p 4 (by decide)
    have hs4 : p.side 4 = 0 := hs
    clear hs
    go_enter Tryz.func186, Tryz.ntmps186
    go_wp2
    all_goals (go_ret; exact Ret.mk' (vbool (by first | rw [HE.out] | (exfalso; simp_all))) (Ext.auto))
 ·have HE0 := hid (show rCastleB p a t = if a = 60 ∧ 0 ≤ p.castle ∧ p.castle ≤ 15 then (if t = 62 then p.castle / 4 % 2 == 1 && (p.kind 63 == 4 && p.side 63 == 1) && freeAt p 61 && freeAt p 62 else t == 58 && p.castle / 8 % 2 == 1 && (p.kind 56 == 4 && p.side 56 == 1) && freeAt p 59 && freeAt p 58 && freeAt p 57) else false by
   unfold rCastleB standsB; rw [hs]; simp [homeOf])
  by_cases hc : a = 60 ∧ 0 ≤ p.castle ∧ p.castle ≤ 15
  ·have HE := hid (HE0.out.trans (if_pos hc))
   clear HE0
   obtain ⟨rfl, c0, c1⟩ := hc
   have hs4 : p.side 60 = 1 := hs
   have p9 : ∀ h, (posCells p)[121]'h = .int .i64 (p.side 60) := fun h => posCells_side' p 60 (by decide) h
   have p8 : (posCells p)[121]? = some (.int .i64 (p.side 60)) := posCells_side p 60 (by decide)
   clear hs
   have q1 : p.castle.tdiv 1 = p.castle := Int.tdiv_one _
   have q2 : p.castle.tdiv 2 = p.castle / 2 := Int.tdiv_eq_ediv_of_nonneg c0
   have q4 : p.castle.tdiv 4 = p.castle / 4 := Int.tdiv_eq_ediv_of_nonneg c0
   have q8 : p.castle.tdiv 8 = p.castle / 8 := Int.tdiv_eq_ediv_of_nonneg c0
   have r1 : p.castle.tmod 2 = p.castle % 2 := Int.tmod_eq_emod_of_nonneg c0
   have r2 : (p.castle / 2).tmod 2 = p.castle / 2 % 2 := Int.tmod_eq_emod_of_nonneg (by omega)
   have r4 : (p.castle / 4).tmod 2 = p.castle / 4 % 2 := Int.tmod_eq_emod_of_nonneg (by omega)
   have r8 : (p.castle / 8).tmod 2 = p.castle / 8 % 2 := Int.tmod_eq_emod_of_nonneg (by omega)
   by_cases ht : t = 62
   ·subst ht
    have HE := hid (HE.out.trans (if_pos rfl))
    cases h1 : (p.castle / 4 % 2 == 1)
    ·skip
     go_enter Tryz.func186, Tryz.ntmps186
     go_upto_region 9 with (fail)
     obtain ⟨W1, hW1⟩ : ∃ W1, W1 = (w.alloc (.cells (posCells p) 30)).alloc (.cells #[.int .i64 4, .int .i64 1] 26) := ⟨_, rfl⟩
     have hb1 : blk W1 w.heap.size = some (.cells (posCells p) 30 (0, 0)) := by rw [hW1]; simp [go_sem]
     have hb2 : blk W1 (w.heap.size + 1) = some (.cells #[.int .i64 4, .int .i64 1] 26 (0, 0)) := by rw [hW1]; simp [go_sem]
     have hE1 : Ext w W1 := by rw [hW1]; exact (Ext.auto)
     rw [← hW1]
     clear hW1
     obtain ⟨z0, z1⟩ := cell_sq hb1 63 (by decide)
     simp only [Nat.reduceMul, Nat.reduceAdd, Nat.zero_add] at z0 z1
     have z2 := blk_cell hb1 129
     have z3 := blk_cell hb2 0
     have z4 := blk_cell hb2 1
     have l1 := blk_lt hb1
     have l2 := blk_lt hb2
     simp only [go_sem, List.getElem?_toArray, List.getElem?_cons_zero, List.getElem?_cons_succ] at z2 z3 z4
     refine wp_quiet (by kernel_rfl) (by kernel_rfl) ?_; (repeat (first | go_big_quiet_step ((first | (go_at_call 214; with_reducible exact Calls.reg (HF _ _)))) | quiet_step ((first | (go_at_call 214; with_reducible exact Calls.reg (HF _ _)))))); refine wpQuiet_nil ?_; intro w1 hx; obtain ⟨hxc, hxf, hxb, hxs⟩ := hx.als; (try have := sW w w1)
     go_wp2
     all_goals (go_ret; exact Ret.mk' (vbool (by rw [HE.out]; (try simp_all))) (hE1.trans hx))
    ·skip
     cases h2 : (p.kind 63 == 4 && p.side 63 == 1)
     ·skip
      go_enter Tryz.func186, Tryz.ntmps186
      go_upto_region 9 with (fail)
      obtain ⟨W1, hW1⟩ : ∃ W1, W1 = (w.alloc (.cells (posCells p) 30)).alloc (.cells #[.int .i64 4, .int .i64 1] 26) := ⟨_, rfl⟩
      have hb1 : blk W1 w.heap.size = some (.cells (posCells p) 30 (0, 0)) := by rw [hW1]; simp [go_sem]
      have hb2 : blk W1 (w.heap.size + 1) = some (.cells #[.int .i64 4, .int .i64 1] 26 (0, 0)) := by rw [hW1]; simp [go_sem]
      have hE1 : Ext w W1 := by rw [hW1]; exact (Ext.auto)
      rw [← hW1]
      clear hW1
      obtain ⟨z0, z1⟩ := cell_sq hb1 63 (by decide)
      simp only [Nat.reduceMul, Nat.reduceAdd, Nat.zero_add] at z0 z1
      have z2 := blk_cell hb1 129
      have z3 := blk_cell hb2 0
      have z4 := blk_cell hb2 1
      have l1 := blk_lt hb1
      have l2 := blk_lt hb2
      simp only [go_sem, List.getElem?_toArray, List.getElem?_cons_zero, List.getElem?_cons_succ] at z2 z3 z4
      refine wp_quiet (by kernel_rfl) (by kernel_rfl) ?_; (repeat (first | go_big_quiet_step ((first | (go_at_call 214; with_reducible exact Calls.reg (HF _ _)))) | quiet_step ((first | (go_at_call 214; with_reducible exact Calls.reg (HF _ _)))))); refine wpQuiet_nil ?_; intro w1 hx; obtain ⟨hxc, hxf, hxb, hxs⟩ := hx.als; (try have := sW w w1)
      go_wp2
      all_goals (go_ret; exact Ret.mk' (vbool (by rw [HE.out]; (try simp_all))) (hE1.trans hx))
     ·skip
      cases h3 : freeAt p 61
      ·skip
       go_enter Tryz.func186, Tryz.ntmps186
       go_upto_region 9 with (fail)
       obtain ⟨W1, hW1⟩ : ∃ W1, W1 = (w.alloc (.cells (posCells p) 30)).alloc (.cells #[.int .i64 4, .int .i64 1] 26) := ⟨_, rfl⟩
       have hb1 : blk W1 w.heap.size = some (.cells (posCells p) 30 (0, 0)) := by rw [hW1]; simp [go_sem]
       have hb2 : blk W1 (w.heap.size + 1) = some (.cells #[.int .i64 4, .int .i64 1] 26 (0, 0)) := by rw [hW1]; simp [go_sem]
       have hE1 : Ext w W1 := by rw [hW1]; exact (Ext.auto)
       rw [← hW1]
       clear hW1
       obtain ⟨z0, z1⟩ := cell_sq hb1 63 (by decide)
       simp only [Nat.reduceMul, Nat.reduceAdd, Nat.zero_add] at z0 z1
       have z2 := blk_cell hb1 129
       have z3 := blk_cell hb2 0
       have z4 := blk_cell hb2 1
       have l1 := blk_lt hb1
       have l2 := blk_lt hb2
       simp only [go_sem, List.getElem?_toArray, List.getElem?_cons_zero, List.getElem?_cons_succ] at z2 z3 z4
       refine wp_quiet (by kernel_rfl) (by kernel_rfl) ?_; (repeat (first | go_big_quiet_step ((first | (go_at_call 214; with_reducible exact Calls.reg (HF _ _)))) | quiet_step ((first | (go_at_call 214; with_reducible exact Calls.reg (HF _ _)))))); refine wpQuiet_nil ?_; intro w1 hx; obtain ⟨hxc, hxf, hxb, hxs⟩ := hx.als; (try have := sW w w1)
       go_wp2
       all_goals (go_ret; exact Ret.mk' (vbool (by rw [HE.out]; (try simp_all))) (hE1.trans hx))
      ·skip
       go_enter Tryz.func186, Tryz.ntmps186
       go_upto_region 9 with (fail)
       obtain ⟨W1, hW1⟩ : ∃ W1, W1 = (w.alloc (.cells (posCells p) 30)).alloc (.cells #[.int .i64 4, .int .i64 1] 26) := ⟨_, rfl⟩
       have hb1 : blk W1 w.heap.size = some (.cells (posCells p) 30 (0, 0)) := by rw [hW1]; simp [go_sem]
       have hb2 : blk W1 (w.heap.size + 1) = some (.cells #[.int .i64 4, .int .i64 1] 26 (0, 0)) := by rw [hW1]; simp [go_sem]
       have hE1 : Ext w W1 := by rw [hW1]; exact (Ext.auto)
       rw [← hW1]
       clear hW1
       obtain ⟨z0, z1⟩ := cell_sq hb1 63 (by decide)
       simp only [Nat.reduceMul, Nat.reduceAdd, Nat.zero_add] at z0 z1
       have z2 := blk_cell hb1 129
       have z3 := blk_cell hb2 0
       have z4 := blk_cell hb2 1
       have l1 := blk_lt hb1
       have l2 := blk_lt hb2
       simp only [go_sem, List.getElem?_toArray, List.getElem?_cons_zero, List.getElem?_cons_succ] at z2 z3 z4
       refine wp_quiet (by kernel_rfl) (by kernel_rfl) ?_; (repeat (first | go_big_quiet_step ((first | (go_at_call 214; with_reducible exact Calls.reg (HF _ _)))) | quiet_step ((first | (go_at_call 214; with_reducible exact Calls.reg (HF _ _)))))); refine wpQuiet_nil ?_; intro w1 hx; obtain ⟨hxc, hxf, hxb, hxs⟩ := hx.als; (try have := sW w w1)
       go_wp2
       all_goals (go_ret; exact Ret.mk' (vbool (by rw [HE.out]; (try simp_all))) (hE1.trans hx))
   ·have HE := hid (HE.out.trans (if_neg ht))
    have e1 : (t == 62) = false := by simpa using ht
    clear ht
    cases h0 : (t == 58)
    ·skip
     go_enter Tryz.func186, Tryz.ntmps186
     go_upto_region 10 with (fail)
     obtain ⟨W1, hW1⟩ : ∃ W1, W1 = (w.alloc (.cells (posCells p) 30)).alloc (.cells #[.int .i64 4, .int .i64 1] 26) := ⟨_, rfl⟩
     have hb1 : blk W1 w.heap.size = some (.cells (posCells p) 30 (0, 0)) := by rw [hW1]; simp [go_sem]
     have hb2 : blk W1 (w.heap.size + 1) = some (.cells #[.int .i64 4, .int .i64 1] 26 (0, 0)) := by rw [hW1]; simp [go_sem]
     have hE1 : Ext w W1 := by rw [hW1]; exact (Ext.auto)
     rw [← hW1]
     clear hW1
     obtain ⟨z0, z1⟩ := cell_sq hb1 56 (by decide)
     simp only [Nat.reduceMul, Nat.reduceAdd, Nat.zero_add] at z0 z1
     have z2 := blk_cell hb1 129
     have z3 := blk_cell hb2 0
     have z4 := blk_cell hb2 1
     have l1 := blk_lt hb1
     have l2 := blk_lt hb2
     simp only [go_sem, List.getElem?_toArray, List.getElem?_cons_zero, List.getElem?_cons_succ] at z2 z3 z4
     refine wp_quiet (by kernel_rfl) (by kernel_rfl) ?_; (repeat (first | go_big_quiet_step ((first | (go_at_call 214; with_reducible exact Calls.reg (HF _ _)))) | quiet_step ((first | (go_at_call 214; with_reducible exact Calls.reg (HF _ _)))))); refine wpQuiet_nil ?_; intro w1 hx; obtain ⟨hxc, hxf, hxb, hxs⟩ := hx.als; (try have := sW w w1)
     go_wp2
     all_goals (go_ret; exact Ret.mk' (vbool (by rw [HE.out]; (try simp_all))) (hE1.trans hx))
    ·skip
     cases h1 : (p.castle / 8 % 2 == 1)
     ·skip
      go_enter Tryz.func186, Tryz.ntmps186
      go_upto_region 10 with (fail)
      obtain ⟨W1, hW1⟩ : ∃ W1, W1 = (w.alloc (.cells (posCells p) 30)).alloc (.cells #[.int .i64 4, .int .i64 1] 26) := ⟨_, rfl⟩
      have hb1 : blk W1 w.heap.size = some (.cells (posCells p) 30 (0, 0)) := by rw [hW1]; simp [go_sem]
      have hb2 : blk W1 (w.heap.size + 1) = some (.cells #[.int .i64 4, .int .i64 1] 26 (0, 0)) := by rw [hW1]; simp [go_sem]
      have hE1 : Ext w W1 := by rw [hW1]; exact (Ext.auto)
      rw [← hW1]
      clear hW1
      obtain ⟨z0, z1⟩ := cell_sq hb1 56 (by decide)
      simp only [Nat.reduceMul, Nat.reduceAdd, Nat.zero_add] at z0 z1
      have z2 := blk_cell hb1 129
      have z3 := blk_cell hb2 0
      have z4 := blk_cell hb2 1
      have l1 := blk_lt hb1
      have l2 := blk_lt hb2
      simp only [go_sem, List.getElem?_toArray, List.getElem?_cons_zero, List.getElem?_cons_succ] at z2 z3 z4
      refine wp_quiet (by kernel_rfl) (by kernel_rfl) ?_; (repeat (first | go_big_quiet_step ((first | (go_at_call 214; with_reducible exact Calls.reg (HF _ _)))) | quiet_step ((first | (go_at_call 214; with_reducible exact Calls.reg (HF _ _)))))); refine wpQuiet_nil ?_; intro w1 hx; obtain ⟨hxc, hxf, hxb, hxs⟩ := hx.als; (try have := sW w w1)
      go_wp2
      all_goals (go_ret; exact Ret.mk' (vbool (by rw [HE.out]; (try simp_all))) (hE1.trans hx))
     ·skip
      cases h2 : (p.kind 56 == 4 && p.side 56 == 1)
      ·skip
       go_enter Tryz.func186, Tryz.ntmps186
       go_upto_region 10 with (fail)
       obtain ⟨W1, hW1⟩ : ∃ W1, W1 = (w.alloc (.cells (posCells p) 30)).alloc (.cells #[.int .i64 4, .int .i64 1] 26) := ⟨_, rfl⟩
       have hb1 : blk W1 w.heap.size = some (.cells (posCells p) 30 (0, 0)) := by rw [hW1]; simp [go_sem]
       have hb2 : blk W1 (w.heap.size + 1) = some (.cells #[.int .i64 4, .int .i64 1] 26 (0, 0)) := by rw [hW1]; simp [go_sem]
       have hE1 : Ext w W1 := by rw [hW1]; exact (Ext.auto)
       rw [← hW1]
       clear hW1
       obtain ⟨z0, z1⟩ := cell_sq hb1 56 (by decide)
       simp only [Nat.reduceMul, Nat.reduceAdd, Nat.zero_add] at z0 z1
       have z2 := blk_cell hb1 129
       have z3 := blk_cell hb2 0
       have z4 := blk_cell hb2 1
       have l1 := blk_lt hb1
       have l2 := blk_lt hb2
       simp only [go_sem, List.getElem?_toArray, List.getElem?_cons_zero, List.getElem?_cons_succ] at z2 z3 z4
       refine wp_quiet (by kernel_rfl) (by kernel_rfl) ?_; (repeat (first | go_big_quiet_step ((first | (go_at_call 214; with_reducible exact Calls.reg (HF _ _)))) | quiet_step ((first | (go_at_call 214; with_reducible exact Calls.reg (HF _ _)))))); refine wpQuiet_nil ?_; intro w1 hx; obtain ⟨hxc, hxf, hxb, hxs⟩ := hx.als; (try have := sW w w1)
       go_wp2
       all_goals (go_ret; exact Ret.mk' (vbool (by rw [HE.out]; (try simp_all))) (hE1.trans hx))
      ·skip
       cases h3 : freeAt p 59
       ·skip
        go_enter Tryz.func186, Tryz.ntmps186
        go_upto_region 10 with (fail)
        obtain ⟨W1, hW1⟩ : ∃ W1, W1 = (w.alloc (.cells (posCells p) 30)).alloc (.cells #[.int .i64 4, .int .i64 1] 26) := ⟨_, rfl⟩
        have hb1 : blk W1 w.heap.size = some (.cells (posCells p) 30 (0, 0)) := by rw [hW1]; simp [go_sem]
        have hb2 : blk W1 (w.heap.size + 1) = some (.cells #[.int .i64 4, .int .i64 1] 26 (0, 0)) := by rw [hW1]; simp [go_sem]
        have hE1 : Ext w W1 := by rw [hW1]; exact (Ext.auto)
        rw [← hW1]
        clear hW1
        obtain ⟨z0, z1⟩ := cell_sq hb1 56 (by decide)
        simp only [Nat.reduceMul, Nat.reduceAdd, Nat.zero_add] at z0 z1
        have z2 := blk_cell hb1 129
        have z3 := blk_cell hb2 0
        have z4 := blk_cell hb2 1
        have l1 := blk_lt hb1
        have l2 := blk_lt hb2
        simp only [go_sem, List.getElem?_toArray, List.getElem?_cons_zero, List.getElem?_cons_succ] at z2 z3 z4
        refine wp_quiet (by kernel_rfl) (by kernel_rfl) ?_; (repeat (first | go_big_quiet_step ((first | (go_at_call 214; with_reducible exact Calls.reg (HF _ _)))) | quiet_step ((first | (go_at_call 214; with_reducible exact Calls.reg (HF _ _)))))); refine wpQuiet_nil ?_; intro w1 hx; obtain ⟨hxc, hxf, hxb, hxs⟩ := hx.als; (try have := sW w w1)
        go_wp2
        all_goals (go_ret; exact Ret.mk' (vbool (by rw [HE.out]; (try simp_all))) (hE1.trans hx))
       ·skip
        cases h4 : freeAt p 58
        ·skip
         go_enter Tryz.func186, Tryz.ntmps186
         go_upto_region 10 with (fail)
         obtain ⟨W1, hW1⟩ : ∃ W1, W1 = (w.alloc (.cells (posCells p) 30)).alloc (.cells #[.int .i64 4, .int .i64 1] 26) := ⟨_, rfl⟩
         have hb1 : blk W1 w.heap.size = some (.cells (posCells p) 30 (0, 0)) := by rw [hW1]; simp [go_sem]
         have hb2 : blk W1 (w.heap.size + 1) = some (.cells #[.int .i64 4, .int .i64 1] 26 (0, 0)) := by rw [hW1]; simp [go_sem]
         have hE1 : Ext w W1 := by rw [hW1]; exact (Ext.auto)
         rw [← hW1]
         clear hW1
         obtain ⟨z0, z1⟩ := cell_sq hb1 56 (by decide)
         simp only [Nat.reduceMul, Nat.reduceAdd, Nat.zero_add] at z0 z1
         have z2 := blk_cell hb1 129
         have z3 := blk_cell hb2 0
         have z4 := blk_cell hb2 1
         have l1 := blk_lt hb1
         have l2 := blk_lt hb2
         simp only [go_sem, List.getElem?_toArray, List.getElem?_cons_zero, List.getElem?_cons_succ] at z2 z3 z4
         refine wp_quiet (by kernel_rfl) (by kernel_rfl) ?_; (repeat (first | go_big_quiet_step ((first | (go_at_call 214; with_reducible exact Calls.reg (HF _ _)))) | quiet_step ((first | (go_at_call 214; with_reducible exact Calls.reg (HF _ _)))))); refine wpQuiet_nil ?_; intro w1 hx; obtain ⟨hxc, hxf, hxb, hxs⟩ := hx.als; (try have := sW w w1)
         go_wp2
         all_goals (go_ret; exact Ret.mk' (vbool (by rw [HE.out]; (try simp_all))) (hE1.trans hx))
        ·skip
         go_enter Tryz.func186, Tryz.ntmps186
         go_upto_region 10 with (fail)
         obtain ⟨W1, hW1⟩ : ∃ W1, W1 = (w.alloc (.cells (posCells p) 30)).alloc (.cells #[.int .i64 4, .int .i64 1] 26) := ⟨_, rfl⟩
         have hb1 : blk W1 w.heap.size = some (.cells (posCells p) 30 (0, 0)) := by rw [hW1]; simp [go_sem]
         have hb2 : blk W1 (w.heap.size + 1) = some (.cells #[.int .i64 4, .int .i64 1] 26 (0, 0)) := by rw [hW1]; simp [go_sem]
         have hE1 : Ext w W1 := by rw [hW1]; exact (Ext.auto)
         rw [← hW1]
         clear hW1
         obtain ⟨z0, z1⟩ := cell_sq hb1 56 (by decide)
         simp only [Nat.reduceMul, Nat.reduceAdd, Nat.zero_add] at z0 z1
         have z2 := blk_cell hb1 129
         have z3 := blk_cell hb2 0
         have z4 := blk_cell hb2 1
         have l1 := blk_lt hb1
         have l2 := blk_lt hb2
         simp only [go_sem, List.getElem?_toArray, List.getElem?_cons_zero, List.getElem?_cons_succ] at z2 z3 z4
         refine wp_quiet (by kernel_rfl) (by kernel_rfl) ?_; (repeat (first | go_big_quiet_step ((first | (go_at_call 214; with_reducible exact Calls.reg (HF _ _)))) | quiet_step ((first | (go_at_call 214; with_reducible exact Calls.reg (HF _ _)))))); refine wpQuiet_nil ?_; intro w1 hx; obtain ⟨hxc, hxf, hxb, hxs⟩ := hx.als; (try have := sW w w1)
         go_wp2
         all_goals (go_ret; exact Ret.mk' (vbool (by rw [HE.out]; (try simp_all))) (hE1.trans hx))
  ·have HE := hid (HE0.out.trans (if_neg hc))
   clear HE0
   have HC := hid hc
   have hx : ((a == 60) = false) ∨ ((a == 60) = true ∧ p.castle < 0) ∨ ((a == 60) = true ∧ 0 ≤ p.castle ∧ 15 < p.castle) := by
    by_cases h : a = 60
    ·by_cases h0 : p.castle < 0
     ·exact .inr (.inl ⟨by simpa using h, h0⟩)
     ·exact .inr (.inr ⟨by simpa using h, by omega, by omega⟩)
    ·exact .inl (by simpa using h)
   clear hc
   clear HC
   rcases hx with h1 | ⟨h1, h2⟩ | ⟨h1, h2, h3⟩
   ·go_enter Tryz.func186, Tryz.ntmps186
    go_wp2
    all_goals (go_ret; exact Ret.mk' (vbool (by first | rw [HE.out] | (exfalso; simp_all))) (Ext.auto))
   ·obtain rfl : a = 60 := by simpa using h1
    have p9 : ∀ h, (posCells p)[121]'h = .int .i64 (p.side 60) := fun h => posCells_side' p 60 (by decide) h
    have p8 : (posCells p)[121]? = some (.int .i64 (p.side 60)) := posCells_side p 60 (by decide)
    have hs4 : p.side 60 = 1 := hs
    clear hs
    go_enter Tryz.func186, Tryz.ntmps186
    go_wp2
    all_goals (go_ret; exact Ret.mk' (vbool (by first | rw [HE.out] | (exfalso; simp_all))) (Ext.auto))
   ·obtain rfl : a = 60 := by simpa using h1
    have p9 : ∀ h, (posCells p)[121]'h = .int .i64 (p.side 60) := fun h => posCells_side' p 60 (by decide) h
    have p8 : (posCells p)[121]? = some (.int .i64 (p.side 60)) := posCells_side p 60 (by decide)
    have hs4 : p.side 60 = 1 := hs
    clear hs
    go_enter Tryz.func186, Tryz.ntmps186
    go_wp2
    all_goals (go_ret; exact Ret.mk' (vbool (by first | rw [HE.out] | (exfalso; simp_all))) (Ext.auto))
end Go.Proofs.YtdmgimfgoajmjaaGreatDoor
