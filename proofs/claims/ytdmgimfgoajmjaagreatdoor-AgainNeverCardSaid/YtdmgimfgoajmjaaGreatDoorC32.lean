/- Whether squares are safe; whether a move castles. -/
import Derived.Test.YtdmgimfgoajmjaaGreatDoorC29
import Derived.Test.YtdmgimfgoajmjaaGreatDoorC14
import Derived.Test.YtdmgimfgoajmjaaGreatDoorC30
import Derived.Test.YtdmgimfgoajmjaaGreatDoorC31
import Derived.Test.YtdmgimfgoajmjaaGreatDoorC21
set_option linter.unusedVariables false
set_option linter.unusedSimpArgs false
namespace Go.Proofs.YtdmgimfgoajmjaaGreatDoor
open Go.RowKit
def safeB (p : Pos) (l : List Int) : Bool := !attacked p (otherOf p.turn) l
def MSf (p : Pos) (w0 w W : World) : Prop := Ext w0 W ∧ Ext w W ∧ blk W w.heap.size = some (.cells (posCells p) 167 (0, 0)) ∧ W.cell? ⟨w.heap.size, 128, none⟩ = some (.int .i64 p.turn)
theorem MSf.mk' {p : Pos} {w0 w W : World} (h0 : Ext w0 W) (h : Ext w W) (h1 : blk W w.heap.size = some (.cells (posCells p) 167 (0, 0))) : MSf p w0 w W := ⟨h0, h, h1, by rw [blk_cell h1]; simp [go_sem]⟩
theorem MSf.ext {p : Pos} {w0 w W W' : World} (h : MSf p w0 w W) (hx : Ext W W') : MSf p w0 w W' := MSf.mk' (h.1.trans hx) (h.2.1.trans hx) ((hx.blk _ (blk_lt h.2.2.1)).trans h.2.2.1)
set_option maxRecDepth 100000 in
set_option maxHeartbeats 2000000 in
theorem safe_any (p : Pos) (L : List Int) (v : Value) (w : World) (hS : Sl w 1 v L.length (ints L)) (hn : L.length ≤ 1000000) : Calls Tryz.prog 156 #[.agg (posCells p), v] w (Ret (.bool (safeB p L)) w) := by
  have HE := hid (show safeB p L = !attacked p (otherOf p.turn) L from rfl)
  have HS := hid hS
  clear hS
  go_enter Tryz.func156, Tryz.ntmps156
  go_wp2
  have hW : Ext w (w.alloc (.cells (posCells p) 167 (0, 0))) := Ext.alloc (Ext.refl _) _
  refine wp_region_held_drew (S := MSf p w w) (by kernel_rfl) ((MSf.mk' hW hW (blk_alloc_at _ _ _ rfl)).ext (Ext.drew (Ext.refl _))) (fun hH => ?_)
  refine hTk (i := 0) (v := ?_) (hy := Or.inl ⟨by rfl, ?_⟩) (h := ?_); rotate_left 1; (intro w0 hS; (try dsimp only at hS); unfold MSf at hS; go_simp; try with_reducible rfl); (try go_frame)
  refine hTk (i := 1) (v := ?_) (hy := Or.inl ⟨by rfl, ?_⟩) (h := ?_); rotate_left 1; (intro w0 hS; (try dsimp only at hS); unfold MSf at hS; go_simp; try with_reducible rfl); (try go_frame)
  refine hTk (i := 2) (v := ?_) (hy := Or.inl ⟨by rfl, ?_⟩) (h := ?_); rotate_left 1; (intro w0 hS; (try dsimp only at hS); unfold MSf at hS; go_simp; try with_reducible rfl); (try go_frame)
  refine hTk (i := 3) (v := ?_) (hy := Or.inl ⟨by rfl, ?_⟩) (h := ?_); rotate_left 1; (intro w0 hS; (try dsimp only at hS); unfold MSf at hS; go_simp; try with_reducible rfl); (try go_frame)
  refine hTk (i := 4) (v := ?_) (hy := Or.inl ⟨by rfl, ?_⟩) (h := ?_); rotate_left 1; (intro w0 hS; (try dsimp only at hS); unfold MSf at hS; go_simp; try with_reducible rfl); (try go_frame)
  refine hTk (i := 6) (v := ?_) (hy := Or.inl ⟨by rfl, ?_⟩) (h := ?_); rotate_left 1; (intro w0 hS; (try dsimp only at hS); unfold MSf at hS; go_simp; try with_reducible rfl); (try go_frame)
  refine wpAnyH_ready (rs := [5]) (by kernel_rfl) (by simp) ?_; refine hCo (h := fun K hK => ?_) (hs := AllReadyH.nil); go_simp
  refine (Other_any _ _).mono ?_
  rintro e w8 ⟨rfl, hx8⟩
  refine hK.out _ _ (hH.ext (by first | assumption | exact Ext.alloc (Ext.refl _) _)) (fun hH => ?_); clear hK; (try go_frame)
  refine wpAnyH_ready (rs := [7]) (by kernel_rfl) (by simp) ?_; refine hCo (h := fun K hK => ?_) (hs := AllReadyH.nil); go_simp
  refine (attackIs_any p _ L _ _ (HS.out.ext hH.1) hn).mono ?_
  rintro e w9 ⟨rfl, hx9⟩
  refine hK.out _ _ (hH.ext (by first | assumption | exact Ext.alloc (Ext.refl _) _)) (fun hH => ?_); clear hK; (try go_frame)
  refine hTk (i := 8) (v := ?_) (hy := Or.inl ⟨by rfl, ?_⟩) (h := ?_); rotate_left 1; (intro w0 hS; (try dsimp only at hS); unfold MSf at hS; go_simp; try with_reducible rfl); (try go_frame)
  refine hTk (i := 9) (v := ?_) (hy := Or.inl ⟨by rfl, ?_⟩) (h := ?_); rotate_left 1; (intro w0 hS; (try dsimp only at hS); unfold MSf at hS; go_simp; try with_reducible rfl); (try go_frame)
  refine wpAnyH_done (by kernel_rfl) ?_ _
  go_wp2
  go_ret
  exact Ret.mk' (by rw [HE.out]; rfl) hH.1
def castlesMB (p : Pos) (m : Mv) : Bool := p.kind m.fr.toNat == 6 && (m.to_ - m.fr == 2 || m.to_ - m.fr == -2)
set_option maxRecDepth 100000 in
theorem castlesJ_any (p : Pos) (m : Mv) (w : World) (h0 : 0 ≤ m.fr) (h1 : m.fr < 64) (h2 : 0 ≤ m.to_) (h3 : m.to_ < 64) : Calls Tryz.prog 155 #[.agg (posCells p), .agg (mvC m)] w (Ret (.bool (castlesMB p m)) w) := by
  obtain ⟨f, t, b⟩ := m
  dsimp only at h0 h1 h2 h3
  obtain ⟨k, rfl⟩ : ∃ k : Nat, f = k := ⟨f.toNat, by omega⟩
  have k1 : k < 64 := by omega
  have z : IntKind.i64.wrap (t - k) = t - k := IntWalk.i64_in _ (by omega)
  have E := hid (show castlesMB p ⟨k, t, b⟩ = (p.kind k == 6 && (t - k == 2 || t - k == -2)) by simp [castlesMB])
  simp only [mvC]
  go_enter Tryz.func155, Tryz.ntmps155
  go_wp2
  all_goals (go_ret; exact Ret.mk' (vbool (by rw [E.out]; simp [*])) (Ext.auto))
end Go.Proofs.YtdmgimfgoajmjaaGreatDoor
namespace Go.Proofs.YtdmgimfgoajmjaaGreatDoor
open Go.RowKit
theorem wpListIn_store_new {F : Fence} {n : Nat} {ops : Array Oper} {rest : List Oper} {a : Act} {W : World} {Q : Exit → Act → World → Prop} {dst : Option Tmp} {x y : Operand} {ty : TypeId} {pos : String} {af : Array Edge} {q : Pos}
    (hx : a.eval x = .pointer (some ⟨W.heap.size, 0, none⟩)) (hy : a.eval y = .agg (posCells q)) {cs : Array Value} (hs : cs.size = 133) {t : TypeId}
    (h : wpListIn F n Tryz.prog ops Q rest (a.put dst undef) (W.alloc (.cells (posCells q) t (0, 0)))) : wpListIn F n Tryz.prog ops Q (⟨dst, .store 30 x y, ty, pos, af, none⟩ :: rest) a (W.alloc (.cells cs t (0, 0))) := by
  refine wpListIn_plain rfl fun K hK' => ?_
  have hrun : (execOp a.eval ⟨dst, .store 30 x y, ty, pos, af, none⟩).run Tryz.prog (W.alloc (.cells cs t (0, 0))) = .ok .skip (W.alloc (.cells (posCells q) t (0, 0))) := by
    rw [store_api_Position, hx, hy]
    have hb : blk (W.alloc (.cells cs t (0, 0))) W.heap.size = some (.cells cs t (0, 0)) := blk_alloc_at _ _ _ rfl
    simp only [storeSub, hb]
    rw [if_pos (posCells_size q), if_pos (by omega), if_pos trivial, if_pos (posCells_one q), setRow_alloc_at _ _ _ _ _ _ rfl, putAt_whole _ _ (by rw [posCells_size, hs])]
  unfold Oper.wpIn
  refine ⟨?_, ?_⟩
  · intro f hf; simp [Oper.about] at hf
  · rw [Oper.semAt_plain F _ _ (by intro c hc'; cases hc'), hrun]
    exact hK' _ _ h
end Go.Proofs.YtdmgimfgoajmjaaGreatDoor
namespace Go.Proofs.YtdmgimfgoajmjaaGreatDoor
open Go.RowKit
def legalB (p : Pos) (m : Mv) : Bool := !(castlesMB p m && !safeB p [m.fr, Int.tdiv (m.fr + m.to_) 2]) && (takenE p m == 0 && !checkB (movedP p m) p.turn)
def legalL (p : Pos) : List Mv := (AllL p).filter (legalB p)
def legalUp (p : Pos) (k : Nat) : List Mv := ((AllL p).take k).filter (legalB p)
theorem legalUp_succ {p : Pos} {k : Nat} {m : Mv} (h : (AllL p)[k]? = some m) : legalUp p (k + 1) = legalUp p k ++ if legalB p m = true then [m] else [] := by
  unfold legalUp
  rw [List.take_add_one, h, List.filter_append]
  congr 1
  simp only [Option.toList_some, List.filter_cons, List.filter_nil]
theorem mvsC_at {l : List Mv} {k : Nat} {m : Mv} (h : l[k]? = some m) (i : Nat) (hi : i < 3) : (mvsC l)[k * 3 + i]? = some ((mvE m)[i]!) := by
  have hk : k < l.length := (List.getElem?_eq_some_iff.1 h).1
  rw [mvsC_get l (k * 3 + i) (by omega), show (k * 3 + i) / 3 = k by omega, show (k * 3 + i) % 3 = i by omega]
  rw [getElem!_def l k, h]
theorem flat_len (p : Pos) : ∀ l : List Nat, (l.flatMap (movesOf p)).length ≤ l.length * 4000
  | [] => by simp
  | x :: r => by
    have h1 := movesOf_len p x
    have h2 := flat_len p r
    simp only [List.flatMap_cons, List.length_append, List.length_cons]; omega
theorem AllL_len (p : Pos) : (AllL p).length ≤ 300000 := by
  have h1 := flat_len p (moversL p 64)
  have h2 := moversL_len p 64
  unfold AllL
  rw [sortMv_len]; omega
end Go.Proofs.YtdmgimfgoajmjaaGreatDoor
namespace Go.Proofs.YtdmgimfgoajmjaaGreatDoor
open Go.RowKit
def freeAt (p : Pos) (t : Int) : Bool := isSq t && bareB p t
def onOfS (s : Int) : Int := if s = 1 then -8 else 8
def rPawnB (p : Pos) (a t : Int) : Bool :=
  let s := p.side a.toNat
  if t = a + onOfS s then freeAt p t
  else if t = a + 2 * onOfS s ∧ a / 8 = (if s = 1 then 6 else 1) then freeAt p (a + onOfS s) && freeAt p t
  else if rAttB p a t = true then (!bareB p t && p.side t.toNat == otherOf s) || (freeAt p t && t == p.over)
  else false
def rCastleB (p : Pos) (a t : Int) : Bool :=
  let s := p.side a.toNat
  if a = homeOf s ∧ 0 ≤ p.castle ∧ p.castle ≤ 15 then
    if t = homeOf s + 2 then p.castle / (if s = 1 then 4 else 1) % 2 == 1 && standsB p 4 s (homeOf s + 3) && freeAt p (homeOf s + 1) && freeAt p (homeOf s + 2)
    else t == homeOf s - 2 && p.castle / (if s = 1 then 8 else 2) % 2 == 1 && standsB p 4 s (homeOf s - 4) && freeAt p (homeOf s - 1) && freeAt p (homeOf s - 2) && freeAt p (homeOf s - 3)
  else false
def rGoesB (p : Pos) (a t : Int) : Bool :=
  if mayB (p.kind a.toNat) (p.side a.toNat) = true ∧ p.side a.toNat = p.turn ∧ a ≠ t then
    if p.kind a.toNat = 1 then rPawnB p a t
    else if (rAttB p a t && (bareB p t || p.side t.toNat != p.side a.toNat)) = true then true
    else p.kind a.toNat == 6 && rCastleB p a t
  else false
theorem mem_FromL (p : Pos) {a t : Int} (a0 : 0 ≤ a) (a1 : a < 64) : t ∈ FromL p a ↔ 0 ≤ t ∧ t < 64 ∧ rAttB p a t = true := by
  unfold FromL
  rw [if_pos ⟨a0, a1⟩, ← mem_fromL p a0 a1]
  unfold sortL; exact List.mem_mergeSort
theorem att_king {p : Pos} {a t : Int} (h : rAttB p a t = true) (hk : p.kind a.toNat = 6) : absOf (fd a t) ≤ 1 := by
  unfold rAttB at h
  split at h
  · simp [hk] at h; exact h.1
  · cases h
theorem att_pawn {p : Pos} {a t : Int} (h : rAttB p a t = true) (hk : p.kind a.toNat = 1) : absOf (fd a t) = 1 ∧ (p.side a.toNat = 0 ∧ rd a t = 1 ∨ p.side a.toNat = 1 ∧ rd a t = -1) := by
  unfold rAttB at h
  split at h
  · simp [hk] at h; exact h
  · cases h
theorem step_on {a s : Int} (a0 : 0 ≤ a) (a1 : a < 64) (hs : s = 0 ∨ s = 1) : stepOf a 0 (1 - 2 * s) = (if 0 ≤ a + onOfS s ∧ a + onOfS s < 64 then a + onOfS s else -1) := by
  unfold stepOf onOf
  rw [if_pos (show 0 ≤ a ∧ a < 64 from ⟨a0, a1⟩)]
  unfold numOf onOfS
  rcases hs with rfl | rfl <;> simp <;> split <;> split <;> omega
theorem step_on2 {a s : Int} (a0 : 0 ≤ a) (a1 : a < 64) (hs : s = 0 ∨ s = 1) : stepOf a 0 (2 * (1 - 2 * s)) = (if 0 ≤ a + 2 * onOfS s ∧ a + 2 * onOfS s < 64 then a + 2 * onOfS s else -1) := by
  unfold stepOf onOf
  rw [if_pos (show 0 ≤ a ∧ a < 64 from ⟨a0, a1⟩)]
  unfold numOf onOfS
  rcases hs with rfl | rfl <;> simp <;> split <;> split <;> omega
theorem free1 (p : Pos) (t : Int) : freeB p [t] = freeAt p t := by simp [freeB, freeAt]
theorem free_step {p : Pos} {x : Int} : freeB p [if 0 ≤ x ∧ x < 64 then x else -1] = freeAt p x := by
  rw [free1]
  split
  · rfl
  · rename_i h
    simp [freeAt, isSq, h]
theorem mem_steps (p : Pos) {a t : Int} (a0 : 0 ≤ a) (a1 : a < 64) (hk : p.kind a.toNat = 1) (hs : p.side a.toNat = 0 ∨ p.side a.toNat = 1) :
    t ∈ stepsL p a (p.side a.toNat) ↔ 0 ≤ t ∧ t < 64 ∧ a ≠ t ∧ rPawnB p a t = true := by
  have hA := fun h => att_pawn (p := p) (a := a) (t := t) h hk
  have hF := mem_FromL p (t := t) a0 a1
  unfold stepsL rPawnB
  dsimp only
  generalize p.side a.toNat = s at *
  rw [step_on a0 a1 hs, step_on2 a0 a1 hs]
  have hr : (rankOf a == 1 + 5 * s) = decide (a / 8 = (if s = 1 then 6 else 1)) := by
    unfold rankOf; rw [if_pos ⟨a0, a1⟩]
    rcases hs with rfl | rfl <;> rfl
  have hon : onOfS s = 8 ∨ onOfS s = -8 := by unfold onOfS; split <;> omega
  generalize (if s = 1 then (6 : Int) else 1) = fr at *
  rw [free_step, hr]
  have h2 : freeB p [if 0 ≤ a + onOfS s ∧ a + onOfS s < 64 then a + onOfS s else -1, if 0 ≤ a + 2 * onOfS s ∧ a + 2 * onOfS s < 64 then a + 2 * onOfS s else -1] = (freeAt p (a + onOfS s) && freeAt p (a + 2 * onOfS s)) := by
    rw [← free_step, ← free_step (x := a + 2 * onOfS s)]
    simp [freeB]
  rw [h2]
  simp only [List.mem_append, List.mem_filter, hF]
  have f1 : freeAt p (a + onOfS s) = true → 0 ≤ a + onOfS s ∧ a + onOfS s < 64 := by
    intro h; simp [freeAt, isSq] at h; exact h.1
  have f2 : freeAt p (a + 2 * onOfS s) = true → 0 ≤ a + 2 * onOfS s ∧ a + 2 * onOfS s < 64 := by
    intro h; simp [freeAt, isSq] at h; exact h.1
  have hft : 0 ≤ t → t < 64 → freeAt p t = bareB p t := by
    intro t0 t1; simp [freeAt, isSq, t0, t1]
  constructor
  · rintro ((h | h) | ⟨⟨t0, t1, h⟩, h'⟩)
    · split at h
      · rename_i hf
        obtain ⟨q0, q1⟩ := f1 hf
        rw [if_pos ⟨q0, q1⟩, List.mem_singleton] at h
        subst h
        exact ⟨q0, q1, by omega, by rw [if_pos rfl]; exact hf⟩
      · cases h
    · split at h
      · rename_i hf
        simp only [Bool.and_eq_true, decide_eq_true_eq] at hf
        obtain ⟨q0, q1⟩ := f2 hf.2.2
        rw [if_pos ⟨q0, q1⟩, List.mem_singleton] at h
        subst h
        refine ⟨q0, q1, by omega, ?_⟩
        rw [if_neg (by omega), if_pos ⟨rfl, hf.1⟩, hf.2.1, hf.2.2]; rfl
      · cases h
    · obtain ⟨g1, g2⟩ := hA h
      have hfd : fd a t ≠ 0 := by intro e; rw [e] at g1; cases g1
      unfold fd at hfd
      refine ⟨t0, t1, by rintro rfl; omega, ?_⟩
      rw [if_neg (by omega), if_neg (by omega), if_pos h, hft t0 t1]
      exact h'
  · rintro ⟨t0, t1, hne, h⟩
    split at h
    · rename_i e; subst e
      left; left
      rw [if_pos h, if_pos ⟨t0, t1⟩]; simp
    · split at h
      · rename_i e
        obtain ⟨rfl, e⟩ := e
        left; right
        simp only [Bool.and_eq_true] at h
        rw [if_pos (by simp [h, e]), if_pos ⟨t0, t1⟩]; simp
      · split at h
        · right
          refine ⟨⟨t0, t1, by assumption⟩, ?_⟩
          rw [hft t0 t1] at h
          exact h
        · cases h
theorem mem_castlings (p : Pos) {a t : Int} (a0 : 0 ≤ a) (a1 : a < 64) (hs : p.side a.toNat = 0 ∨ p.side a.toNat = 1) :
    t ∈ castlingsL p a (p.kind a.toNat) (p.side a.toNat) ↔ 0 ≤ t ∧ t < 64 ∧ a ≠ t ∧ (p.kind a.toNat == 6 && rCastleB p a t) = true := by
  unfold castlingsL rCastleB
  dsimp only
  generalize p.side a.toNat = s at *
  generalize p.kind a.toNat = k at *
  have hh : homeOf s = 4 ∨ homeOf s = 60 := by unfold homeOf; split <;> omega
  have hf : shortB p s = (p.castle / (if s = 1 then 4 else 1) % 2 == 1 && standsB p 4 s (homeOf s + 3) && freeAt p (homeOf s + 1) && freeAt p (homeOf s + 2)) := by
    unfold shortB freeB; simp [freeAt, Bool.and_assoc]
  have hg : farB p s = (p.castle / (if s = 1 then 8 else 2) % 2 == 1 && standsB p 4 s (homeOf s - 4) && freeAt p (homeOf s - 1) && freeAt p (homeOf s - 2) && freeAt p (homeOf s - 3)) := by
    unfold farB freeB; simp [freeAt, Bool.and_assoc]
  rw [← hf]
  have hg' : ∀ b, (b && p.castle / (if s = 1 then 8 else 2) % 2 == 1 && standsB p 4 s (homeOf s - 4) && freeAt p (homeOf s - 1) && freeAt p (homeOf s - 2) && freeAt p (homeOf s - 3)) = (b && farB p s) := by
    intro b; rw [hg]; simp only [Bool.and_assoc]
  rw [hg']
  by_cases hk : k = 6
  · by_cases hc : a = homeOf s ∧ 0 ≤ p.castle ∧ p.castle ≤ 15
    · rw [if_pos ⟨hk, hc⟩, if_pos hc, hk]
      simp only [beq_self_eq_true, Bool.true_and, List.mem_append]
      constructor
      · rintro (h | h)
        · split at h
          · rw [List.mem_singleton] at h; subst h
            refine ⟨by omega, by omega, by omega, ?_⟩
            rw [if_pos rfl]; assumption
          · cases h
        · split at h
          · rw [List.mem_singleton] at h; subst h
            refine ⟨by omega, by omega, by omega, ?_⟩
            rw [if_neg (by omega)]; simpa
          · cases h
      · rintro ⟨t0, t1, hne, h⟩
        split at h
        · left; rw [if_pos h]; simpa
        · right
          simp only [Bool.and_eq_true, beq_iff_eq] at h
          rw [if_pos h.2]; simpa using h.1
    · rw [if_neg (by rintro ⟨_, h⟩; exact hc h), if_neg hc]; simp
  · rw [if_neg (by rintro ⟨h, _⟩; exact hk h)]
    simp [hk]
theorem mem_squares (p : Pos) {a t : Int} (a0 : 0 ≤ a) (a1 : a < 64) (hm : mayB (p.kind a.toNat) (p.side a.toNat) = true) (hs : p.side a.toNat = p.turn) :
    t ∈ squaresL p a (p.kind a.toNat) (p.side a.toNat) ↔ 0 ≤ t ∧ t < 64 ∧ rGoesB p a t = true := by
  have hsd : p.side a.toNat = 0 ∨ p.side a.toNat = 1 := by simp [mayB] at hm; exact hm.2.2
  have key : ∀ b : Bool, (0 ≤ t ∧ t < 64 ∧ a ≠ t ∧ b = true) ↔ (0 ≤ t ∧ t < 64 ∧ (if mayB (p.kind a.toNat) (p.side a.toNat) = true ∧ p.side a.toNat = p.turn ∧ a ≠ t then b else false) = true) := by
    intro b
    by_cases hne : a = t
    · simp [hne]
    · rw [if_pos ⟨hm, hs, hne⟩]; simp [hne]
  unfold squaresL rGoesB
  by_cases hk : p.kind a.toNat = 1
  · rw [if_pos hk, if_pos hk, ← key, mem_steps p a0 a1 hk hsd]
  · rw [if_neg hk, if_neg hk, ← key, List.mem_append, mem_castlings p a0 a1 hsd, List.mem_filter, mem_FromL p a0 a1]
    have ho : (!ownB p (p.side a.toNat) t) = (bareB p t || p.side t.toNat != p.side a.toNat) := by
      unfold ownB; simp [bne]
    rw [ho]
    constructor
    · rintro (⟨⟨t0, t1, h⟩, h'⟩ | ⟨t0, t1, hne, h⟩)
      · refine ⟨t0, t1, ?_, ?_⟩
        · rintro rfl; unfold rAttB at h; simp at h
        · rw [h, h', Bool.and_self, if_pos rfl]
      · refine ⟨t0, t1, hne, ?_⟩
        split
        · rfl
        · exact h
    · rintro ⟨t0, t1, hne, h⟩
      split at h
      · rename_i h'
        rw [Bool.and_eq_true] at h'
        exact .inl ⟨⟨t0, t1, h'.1⟩, h'.2⟩
      · exact .inr ⟨t0, t1, hne, h⟩
def rFromL (p : Pos) (a : Int) : List Mv := (((List.range 64).map (Nat.cast : Nat → Int)).filter (rGoesB p a)).flatMap (toOne a (p.kind a.toNat) (p.side a.toNat))
def rAllL (p : Pos) : List Mv := (List.range 64).flatMap fun (a : Nat) => rFromL p (a : Int)
def rings4 (a : Int) : Bool := decide (ringL a jumpsW).Nodup && decide (ringL a (straightW ++ slantW)).Nodup && decide (ringL a [(-1, 1), (1, 1)]).Nodup && decide (ringL a [(-1, -1), (1, -1)]).Nodup && decide ((straightW ++ slantW).flatMap fun x => rayOf a x.1 x.2).Nodup
theorem ck_rings : ((List.range 64).all fun (a : Nat) => rings4 (a : Int)) = true := by decide +kernel
theorem rings_at {a : Int} (a0 : 0 ≤ a) (a1 : a < 64) : (ringL a jumpsW).Nodup ∧ (ringL a (straightW ++ slantW)).Nodup ∧ (ringL a [(-1, 1), (1, 1)]).Nodup ∧ (ringL a [(-1, -1), (1, -1)]).Nodup ∧ ((straightW ++ slantW).flatMap fun x => rayOf a x.1 x.2).Nodup := by
  have h := (List.all_eq_true.1 ck_rings) a.toNat (List.mem_range.2 (by omega))
  rw [Int.toNat_of_nonneg a0] at h
  simp only [rings4, Bool.and_eq_true, decide_eq_true_eq] at h
  exact ⟨h.1.1.1.1, h.1.1.1.2, h.1.1.2, h.1.2, h.2⟩
theorem upto_sublist (p : Pos) : ∀ l : List Int, (upto p l).Sublist l
  | [] => by simp [upto]
  | x :: r => by
    unfold upto
    refine List.Sublist.cons_cons _ ?_
    split
    · exact upto_sublist p r
    · exact List.nil_sublist _
theorem along_sublist (p : Pos) (a : Int) : ∀ W : List (Int × Int), (alongL p a W).Sublist (W.flatMap fun x => rayOf a x.1 x.2)
  | [] => by simp [alongL]
  | x :: r => by
    unfold alongL
    rw [List.flatMap_cons, List.flatMap_cons]
    exact (upto_sublist p _).append (along_sublist p a r)
theorem fromL_nodup (p : Pos) {a : Int} (a0 : 0 ≤ a) (a1 : a < 64) : (fromL p a).Nodup := by
  obtain ⟨h1, h2, h3, h4, h5⟩ := rings_at a0 a1
  have h6 := h5
  rw [List.flatMap_append, List.nodup_append] at h6
  unfold fromL
  dsimp only
  split
  · split
    · split
      · exact h4
      · exact h3
    · split
      · exact h1
      · split
        · exact h2
        · split
          · exact h6.1.sublist (along_sublist p a _)
          · split
            · exact h6.2.1.sublist (along_sublist p a _)
            · split
              · exact h5.sublist (along_sublist p a _)
              · exact List.nodup_nil
  · exact List.nodup_nil
theorem FromL_nodup (p : Pos) {a : Int} (a0 : 0 ≤ a) (a1 : a < 64) : (FromL p a).Nodup := by
  unfold FromL
  rw [if_pos ⟨a0, a1⟩]
  unfold sortL
  exact (List.mergeSort_perm _ _).nodup_iff.2 (fromL_nodup p a0 a1)
theorem nodup_opt (c : Prop) [Decidable c] (x : Int) : (if c then [x] else []).Nodup := by split <;> simp
theorem squares_nodup (p : Pos) {a : Int} (a0 : 0 ≤ a) (a1 : a < 64) (hm : mayB (p.kind a.toNat) (p.side a.toNat) = true) :
    (squaresL p a (p.kind a.toNat) (p.side a.toNat)).Nodup := by
  have hsd : p.side a.toNat = 0 ∨ p.side a.toNat = 1 := by simp [mayB] at hm; exact hm.2.2
  have hF := fun t => mem_FromL p (t := t) a0 a1
  have hN := FromL_nodup p a0 a1
  have hon : onOfS (p.side a.toNat) = 8 ∨ onOfS (p.side a.toNat) = -8 := by unfold onOfS; split <;> omega
  unfold squaresL
  split
  · rename_i hk
    have hA := fun t h => att_pawn (p := p) (a := a) (t := t) h hk
    unfold stepsL
    rw [step_on a0 a1 hsd, step_on2 a0 a1 hsd]
    have f1 : ∀ t, t ∈ (FromL p a).filter (pawnTakes p (p.side a.toNat)) → t % 8 ≠ a % 8 ∧ 0 ≤ t := by
      intro t ht
      rw [List.mem_filter, hF] at ht
      obtain ⟨g, -⟩ := hA t ht.1.2.2
      refine ⟨fun e => ?_, ht.1.1⟩
      unfold fd at g; rw [e] at g; simp [absOf] at g
    have g0 : ∀ x z, z = (if 0 ≤ a + x ∧ a + x < 64 then a + x else -1) → freeB p [z] = true → z = a + x ∧ 0 ≤ z := by
      intro x z hz hf
      rw [hz, free_step] at hf
      have hr : 0 ≤ a + x ∧ a + x < 64 := by simp [freeAt, isSq] at hf; exact hf.1
      rw [if_pos hr] at hz; omega
    have g1 : ∀ x z t, z = (if 0 ≤ a + x ∧ a + x < 64 then a + x else -1) → t ∈ (if freeB p [z] = true then [z] else []) → t = a + x ∧ 0 ≤ t := by
      intro x z t hz ht
      split at ht
      · rename_i hf
        rw [List.mem_singleton] at ht
        subst ht
        exact g0 x _ hz hf
      · cases ht
    have g2 : ∀ (c : Bool) x z y t, z = (if 0 ≤ a + x ∧ a + x < 64 then a + x else -1) → t ∈ (if (c && freeB p [y, z]) = true then [z] else []) → t = a + x ∧ 0 ≤ t := by
      intro c x z y t hz ht
      split at ht
      · rename_i hf
        have hf2 : freeB p [z] = true := by
          simp only [freeB, List.all_cons, List.all_nil, Bool.and_eq_true, Bool.and_true] at hf ⊢; exact hf.2.2
        rw [List.mem_singleton] at ht
        subst ht
        exact g0 x _ hz hf2
      · cases ht
    rw [List.nodup_append, List.nodup_append]
    refine ⟨⟨nodup_opt _ _, nodup_opt _ _, fun x hx y hy => ?_⟩, hN.sublist List.filter_sublist, fun x hx y hy => ?_⟩
    · have := g1 _ _ _ rfl hx
      have := g2 _ _ _ _ _ rfl hy
      omega
    · have h3 := f1 _ hy
      rw [List.mem_append] at hx
      rcases hx with hx | hx
      · have := g1 _ _ _ rfl hx
        rintro rfl; omega
      · have := g2 _ _ _ _ _ rfl hx
        rintro rfl; omega
  · rename_i hk
    rw [List.nodup_append]
    refine ⟨hN.sublist List.filter_sublist, ?_, fun x hx y hy => ?_⟩
    · unfold castlingsL
      split
      · rw [List.nodup_append]
        refine ⟨nodup_opt _ _, nodup_opt _ _, fun x hx y hy => ?_⟩
        split at hx
        · split at hy
          · simp at hx hy; omega
          · cases hy
        · cases hx
      · exact List.nodup_nil
    · rw [List.mem_filter, hF] at hx
      unfold castlingsL at hy
      split at hy
      · rename_i hc
        have hh : homeOf (p.side a.toNat) = 4 ∨ homeOf (p.side a.toNat) = 60 := by unfold homeOf; split <;> omega
        have hk := att_king hx.1.2.2 hc.1
        unfold fd absOf at hk
        rw [List.mem_append] at hy
        rintro rfl
        rcases hy with hy | hy
        · split at hy
          · simp at hy; split at hk <;> omega
          · cases hy
        · split at hy
          · simp at hy; split at hk <;> omega
          · cases hy
      · cases hy
theorem mem_toOne {a k s t : Int} {m : Mv} (h : m ∈ toOne a k s t) : m.fr = a ∧ m.to_ = t := by
  unfold toOne at h
  split at h
  · simp only [promos, List.mem_cons, List.not_mem_nil, or_false] at h
    rcases h with rfl | rfl | rfl | rfl <;> exact ⟨rfl, rfl⟩
  · rw [List.mem_singleton] at h; subst h; exact ⟨rfl, rfl⟩
theorem toOne_nodup (a k s t : Int) : (toOne a k s t).Nodup := by
  unfold toOne; split <;> simp [promos]
theorem flat_nodup {α β : Type} {l : List α} {f : α → List β} {g : β → α} (hl : l.Nodup) (hf : ∀ a ∈ l, (f a).Nodup) (hg : ∀ a ∈ l, ∀ b ∈ f a, g b = a) : (l.flatMap f).Nodup := by
  rw [List.Nodup, List.pairwise_flatMap]
  refine ⟨hf, ?_⟩
  refine List.Pairwise.imp_of_mem ?_ hl
  intro a b ha hb hne x hx y hy e
  subst e
  exact hne ((hg a ha x hx).symm.trans (hg b hb x hy))
theorem mover_may {p : Pos} {a : Nat} : moverB p a = true ↔ mayB (p.kind a) (p.side a) = true ∧ p.side a = p.turn := by
  simp only [moverB, mayB, decide_eq_true_eq]
  constructor
  · rintro ⟨h1, h2, h3, h4⟩; exact ⟨⟨h1, h2, h3⟩, h4⟩
  · rintro ⟨⟨h1, h2, h3⟩, h4⟩; exact ⟨h1, h2, h3, h4⟩
theorem raw_nodup (p : Pos) : ((moversL p 64).flatMap (movesOf p)).Nodup := by
  refine flat_nodup (g := fun m => m.fr.toNat) (List.nodup_range.sublist List.filter_sublist) ?_ ?_
  · intro a ha
    unfold moversL at ha
    rw [List.mem_filter, List.mem_range, mover_may] at ha
    unfold movesOf toL
    have := squares_nodup p (a := (a : Int)) (by omega) (by omega) (by simpa using ha.2.1)
    exact flat_nodup (g := fun m => m.to_) (by simpa using this) (fun t _ => toOne_nodup _ _ _ _) (fun t _ b hb => (mem_toOne hb).2)
  · intro a _ b hb
    unfold movesOf toL at hb
    rw [List.mem_flatMap] at hb
    obtain ⟨t, -, ht⟩ := hb
    rw [(mem_toOne ht).1]; rfl
theorem range_int_nodup : ((List.range 64).map (Nat.cast : Nat → Int)).Nodup := by decide +kernel
theorem rAll_nodup (p : Pos) : (rAllL p).Nodup := by
  refine flat_nodup (g := fun m => m.fr.toNat) List.nodup_range ?_ ?_
  · intro a _
    unfold rFromL
    exact flat_nodup (g := fun m => m.to_) (range_int_nodup.sublist List.filter_sublist) (fun t _ => toOne_nodup _ _ _ _) (fun t _ b hb => (mem_toOne hb).2)
  · intro a _ b hb
    unfold rFromL at hb
    rw [List.mem_flatMap] at hb
    obtain ⟨t, -, ht⟩ := hb
    rw [(mem_toOne ht).1]; rfl
theorem mem_rangeInt {t : Int} : t ∈ (List.range 64).map (Nat.cast : Nat → Int) ↔ 0 ≤ t ∧ t < 64 := by
  rw [List.mem_map]
  constructor
  · rintro ⟨n, hn, rfl⟩; have := List.mem_range.1 hn; omega
  · rintro ⟨h0, h1⟩; exact ⟨t.toNat, List.mem_range.2 (by omega), by omega⟩
theorem mem_rFrom {p : Pos} {a : Int} {m : Mv} : m ∈ rFromL p a ↔ ∃ t, 0 ≤ t ∧ t < 64 ∧ rGoesB p a t = true ∧ m ∈ toOne a (p.kind a.toNat) (p.side a.toNat) t := by
  unfold rFromL
  rw [List.mem_flatMap]
  constructor
  · rintro ⟨t, ht, hm⟩
    rw [List.mem_filter, mem_rangeInt] at ht
    exact ⟨t, ht.1.1, ht.1.2, ht.2, hm⟩
  · rintro ⟨t, t0, t1, hg, hm⟩
    exact ⟨t, by rw [List.mem_filter, mem_rangeInt]; exact ⟨⟨t0, t1⟩, hg⟩, hm⟩
theorem goes_mover {p : Pos} {a t : Int} (h : rGoesB p a t = true) : mayB (p.kind a.toNat) (p.side a.toNat) = true ∧ p.side a.toNat = p.turn := by
  unfold rGoesB at h
  split at h
  · rename_i hc; exact ⟨hc.1, hc.2.1⟩
  · cases h
theorem mem_raw (p : Pos) (m : Mv) : m ∈ (moversL p 64).flatMap (movesOf p) ↔ m ∈ rAllL p := by
  unfold rAllL
  rw [List.mem_flatMap, List.mem_flatMap]
  constructor
  · rintro ⟨a, ha, hm⟩
    unfold moversL at ha
    rw [List.mem_filter, List.mem_range, mover_may] at ha
    unfold movesOf toL at hm
    rw [List.mem_flatMap] at hm
    obtain ⟨t, ht, hm⟩ := hm
    have h2 := (mem_squares p (a := (a : Int)) (t := t) (by omega) (by omega) (by simpa using ha.2.1) (by simpa using ha.2.2)).1 (by simpa using ht)
    exact ⟨a, List.mem_range.2 ha.1, mem_rFrom.2 ⟨t, h2.1, h2.2.1, h2.2.2, by simpa using hm⟩⟩
  · rintro ⟨a, ha, hm⟩
    have ha' := List.mem_range.1 ha
    obtain ⟨t, t0, t1, hg, hm⟩ := mem_rFrom.1 hm
    have hmv := goes_mover hg
    refine ⟨a, ?_, ?_⟩
    · unfold moversL
      rw [List.mem_filter, mover_may]
      exact ⟨ha, by simpa using hmv⟩
    · unfold movesOf toL
      rw [List.mem_flatMap]
      refine ⟨t, ?_, by simpa using hm⟩
      have := (mem_squares p (a := (a : Int)) (t := t) (by omega) (by omega) hmv.1 hmv.2).2 ⟨t0, t1, hg⟩
      simpa using this
def mvLe (a b : Mv) : Bool := !mvLt b a
theorem mvLt_iff (a b : Mv) : mvLt a b = true ↔ (a.fr < b.fr ∨ (a.fr = b.fr ∧ (a.to_ < b.to_ ∨ (a.to_ = b.to_ ∧ a.be < b.be)))) := by simp [mvLt]
theorem mvLe_iff (a b : Mv) : mvLe a b = true ↔ ¬ (b.fr < a.fr ∨ (b.fr = a.fr ∧ (b.to_ < a.to_ ∨ (b.to_ = a.to_ ∧ b.be < a.be)))) := by
  unfold mvLe; rw [Bool.not_eq_true', ← Bool.not_eq_true, mvLt_iff]
theorem flat_sorted {α β : Type} {l : List α} {f : α → List β} {R : β → β → Prop} {S : α → α → Prop} (hl : l.Pairwise S) (hf : ∀ a ∈ l, (f a).Pairwise R) (hg : ∀ a b, S a b → ∀ x ∈ f a, ∀ y ∈ f b, R x y) : (l.flatMap f).Pairwise R := by
  rw [List.pairwise_flatMap]
  exact ⟨hf, hl.imp (fun {a b} h => hg a b h)⟩
theorem toOne_sorted (a k s t : Int) : (toOne a k s t).Pairwise (fun x y => mvLe x y = true) := by
  unfold toOne
  split
  · simp only [promos, List.pairwise_cons, List.mem_cons, List.not_mem_nil, or_false]
    refine ⟨?_, ?_, ?_, ?_, List.Pairwise.nil⟩ <;> intro b hb <;> rw [mvLe_iff]
    · rcases hb with rfl | rfl | rfl <;> simp
    · rcases hb with rfl | rfl <;> simp
    · rcases hb with rfl; simp
    · cases hb
  · simp
theorem rAll_sorted (p : Pos) : (rAllL p).Pairwise (fun x y => mvLe x y = true) := by
  refine flat_sorted (S := fun a b => a < b) List.pairwise_lt_range ?_ ?_
  · intro a _
    unfold rFromL
    refine flat_sorted (S := fun a b => a < b) ?_ (fun t _ => toOne_sorted _ _ _ _) ?_
    · refine List.Pairwise.sublist List.filter_sublist ?_
      rw [List.pairwise_map]
      exact List.pairwise_lt_range.imp (fun h => by omega)
    · intro t u htu x hx y hy
      have h1 := mem_toOne hx
      have h2 := mem_toOne hy
      rw [mvLe_iff]; omega
  · intro a b hab x hx y hy
    obtain ⟨t, -, -, -, hx⟩ := mem_rFrom.1 hx
    obtain ⟨u, -, -, -, hy⟩ := mem_rFrom.1 hy
    have h1 := mem_toOne hx
    have h2 := mem_toOne hy
    rw [mvLe_iff]; omega
theorem All_eq (p : Pos) : AllL p = rAllL p := by
  have hs : (AllL p).Pairwise (fun x y => mvLe x y = true) := by
    unfold AllL sortMv
    have e : (fun x y => !(ltOf cmpM) y x) = mvLe := by funext x y; rw [cmpM_lt]; rfl
    rw [e]
    refine List.pairwise_mergeSort ?_ ?_ _
    · intro a b c hab hbc
      rw [mvLe_iff] at *; omega
    · intro a b
      rw [Bool.or_eq_true, mvLe_iff, mvLe_iff]; omega
  refine List.Perm.eq_of_pairwise ?_ hs (rAll_sorted p) ?_
  · intro a b _ _ h1 h2
    rw [mvLe_iff] at h1 h2
    obtain ⟨a1, a2, a3⟩ := a
    obtain ⟨b1, b2, b3⟩ := b
    simp only [Mv.mk.injEq]
    dsimp only at h1 h2
    omega
  · unfold AllL
    exact (List.mergeSort_perm _ _).trans ((List.perm_ext_iff_of_nodup (raw_nodup p) (rAll_nodup p)).2 (mem_raw p))
theorem AllL_in (p : Pos) (m : Mv) (h : m ∈ AllL p) : 0 ≤ m.fr ∧ m.fr < 64 ∧ 0 ≤ m.to_ ∧ m.to_ < 64 := by
  rw [All_eq] at h
  unfold rAllL at h
  rw [List.mem_flatMap] at h
  obtain ⟨a, ha, hm⟩ := h
  have := List.mem_range.1 ha
  obtain ⟨t, t0, t1, -, hm⟩ := mem_rFrom.1 hm
  have := mem_toOne hm
  omega
end Go.Proofs.YtdmgimfgoajmjaaGreatDoor
namespace Go.Proofs.YtdmgimfgoajmjaaGreatDoor
open Go.RowKit
theorem findL_kings (p : Pos) (s : Int) : ∀ n, (findL p 6 s n).length = kings p s n
  | 0 => rfl
  | n + 1 => by
    have ih := findL_kings p s n
    unfold findL at ih ⊢
    rw [List.range_succ, List.filter_append, List.map_append, List.length_append]
    simp only [kings]
    rw [Int.natCast_add, ih]
    congr 1
    by_cases h : p.kind n = 6 ∧ p.side n = s
    · rw [if_pos h]; simp [List.filter_cons, h.1, h.2]
    · rw [if_neg h]
      have : ¬ ((6 == p.kind n && s == p.side n) = true) := by
        simp only [Bool.and_eq_true, beq_iff_eq]; rintro ⟨h1, h2⟩; exact h ⟨h1.symm, h2.symm⟩
      simp [List.filter_cons, this]
theorem one_king {p : Pos} {a : Int} (hp : piecesB p = true) (a0 : 0 ≤ a) (a1 : a < 64) (hk : p.kind a.toNat = 6) (hs : p.side a.toNat = p.turn) : findL p 6 p.turn 64 = [a] := by
  unfold piecesB at hp
  simp only [Bool.and_eq_true, beq_iff_eq, Bool.or_eq_true] at hp
  have hl : (findL p 6 p.turn 64).length = 1 := by
    have := findL_kings p p.turn 64
    rcases hp.2 with h | h <;> rw [h] at this ⊢ <;> omega
  have hm : a ∈ findL p 6 p.turn 64 := by
    unfold findL
    rw [List.mem_map]
    refine ⟨a.toNat, ?_, by omega⟩
    rw [List.mem_filter, List.mem_range]
    exact ⟨by omega, by simp [hk, hs]⟩
  generalize findL p 6 p.turn 64 = l at *
  cases l with
  | nil => cases hm
  | cons x r =>
    cases r with
    | nil => rw [List.mem_singleton] at hm; rw [hm]
    | cons y r => simp at hl
theorem AllL_goes {p : Pos} {m : Mv} (h : m ∈ AllL p) : 0 ≤ m.fr ∧ m.fr < 64 ∧ 0 ≤ m.to_ ∧ m.to_ < 64 ∧ rGoesB p m.fr m.to_ = true ∧ m ∈ toOne m.fr (p.kind m.fr.toNat) (p.side m.fr.toNat) m.to_ := by
  rw [All_eq] at h
  unfold rAllL at h
  rw [List.mem_flatMap] at h
  obtain ⟨a, ha, hm⟩ := h
  have := List.mem_range.1 ha
  obtain ⟨t, t0, t1, hg, hm⟩ := mem_rFrom.1 hm
  obtain ⟨e', e⟩ := mem_toOne hm
  rw [e', e]
  exact ⟨by omega, by omega, by omega, by omega, hg, hm⟩
def rFineB (p : Pos) (m : Mv) : Bool := (takenE p m == 0 && !checkB (movedP p m) p.turn) && (!castlesMB p m || (!checkB p p.turn && !attacked p (otherOf p.turn) [Int.tdiv (m.fr + m.to_) 2]))
theorem fine_eq {p : Pos} {m : Mv} (hp : piecesB p = true) (h : m ∈ AllL p) : rFineB p m = legalB p m := by
  obtain ⟨f0, f1, t0, t1, hg, -⟩ := AllL_goes h
  have hmv := goes_mover hg
  unfold rFineB legalB
  cases hc : castlesMB p m
  · simp
  · have hk : p.kind m.fr.toNat = 6 := by simp [castlesMB] at hc; exact hc.1
    have ht : p.turn = 0 ∨ p.turn = 1 := by
      have := hmv.1; simp [mayB] at this; rw [← hmv.2]; exact this.2.2
    have hch : checkB p p.turn = attacked p (otherOf p.turn) [m.fr] := by
      unfold checkB
      rw [if_pos ht, one_king hp f0 f1 hk hmv.2]
    rw [hch]
    unfold safeB attacked
    simp only [List.any_cons, List.any_nil, Bool.or_false, Bool.not_true, Bool.false_or, Bool.true_and, Bool.not_not]
    rw [Bool.and_comm]
    congr 1
    simp [Bool.not_or]
def movesP (p : Pos) : List Mv := if positionB p = true then legalL p else []
def rMovesP (p : Pos) : List Mv := if positionB p = true then (rAllL p).filter (rFineB p) else []
theorem moves_eq (p : Pos) : rMovesP p = movesP p := by
  unfold rMovesP movesP
  split
  · rename_i h
    have hp : piecesB p = true := by
      simp only [positionB, rightB, Bool.and_eq_true] at h; exact h.1.1.1.1
    unfold legalL
    rw [← All_eq]
    exact List.filter_congr fun m hm => fine_eq hp hm
  · rfl
def overM (p : Pos) (m : Mv) : Bool := m.to_ == p.over && takes2 p m != -1 && takes2 p m != m.to_
def rOverM (p : Pos) (m : Mv) : Bool := m.to_ == p.over && p.kind m.fr.toNat == 1 && m.fr % 8 != m.to_ % 8 && bareB p m.to_
def overA (p : Pos) : Int := if p.over = -1 then -1 else if (movesP p).any (overM p) = true then p.over else -1
def rOverA (p : Pos) : Int := if p.over = -1 then -1 else if (movesP p).any (rOverM p) = true then p.over else -1
theorem overM_eq {p : Pos} {m : Mv} (hp : positionB p = true) (hm : m ∈ legalL p) (hov : p.over ≠ -1) : overM p m = rOverM p m := by
  unfold legalL at hm
  rw [List.mem_filter] at hm
  obtain ⟨hm, hl⟩ := hm
  obtain ⟨f0, f1, t0, t1, hg, -⟩ := AllL_goes hm
  have hmv := goes_mover hg
  have hE : takenE p m = 0 := by
    unfold legalB at hl
    simp only [Bool.and_eq_true, beq_iff_eq] at hl
    exact hl.2.1
  have ht2 : takes2 p m = takesOf p m (p.kind m.fr.toNat) := by unfold takes2; rw [if_pos hE]
  unfold overM rOverM
  rw [ht2]
  by_cases hto : m.to_ = p.over
  · have htn : turnsOf m ≠ 0 ↔ m.fr % 8 ≠ m.to_ % 8 := by
      unfold turnsOf fileOf
      rw [if_pos ⟨t0, t1⟩, if_pos ⟨f0, f1⟩]; omega
    by_cases hc : p.kind m.fr.toNat = 1 ∧ turnsOf m ≠ 0 ∧ m.to_ = p.over ∧ bareB p m.to_ = true
    · have hat : takesAt p m (p.kind m.fr.toNat) = m.fr / 8 * 8 + m.to_ % 8 := by unfold takesAt; rw [if_pos hc]
      obtain ⟨c1, c2, c3, c4⟩ := hc
      rw [htn] at c2
      have hA : rAttB p m.fr m.to_ = true := by
        unfold rGoesB at hg
        split at hg
        · have hon : onOfS (p.side m.fr.toNat) = 8 ∨ onOfS (p.side m.fr.toNat) = -8 := by unfold onOfS; split <;> omega
          unfold rPawnB at hg
          dsimp only at hg
          rw [if_neg (by omega), if_neg (by omega)] at hg
          split at hg
          · assumption
          · cases hg
        · cases hg
      obtain ⟨-, hr⟩ := att_pawn hA c1
      have hO : overB p = true := by
        simp only [positionB, rightB, Bool.and_eq_true] at hp; exact hp.1.1.2
      unfold overB at hO
      rw [Bool.or_eq_true] at hO
      rcases hO with hO | hO
      · simp at hO; exact absurd hO hov
      · simp only [Bool.and_eq_true, decide_eq_true_eq] at hO
        have hst := hO.2
        have hrk := hO.1.1.1.1
        unfold rankOf at hrk
        rw [← hto, if_pos ⟨t0, t1⟩] at hrk
        have htd : p.turn = 0 ∨ p.turn = 1 := by
          have := hmv.1; simp [mayB] at this; rw [← hmv.2]; exact this.2.2
        have hat2 : stepOf m.to_ 0 (-overOn p) = m.fr / 8 * 8 + m.to_ % 8 := by
          unfold stepOf onOf
          rw [if_pos (show 0 ≤ m.to_ ∧ m.to_ < 64 from ⟨t0, t1⟩)]
          unfold numOf overOn
          unfold overRank at hrk
          unfold rd at hr
          rw [hmv.2] at hr
          rcases htd with e | e <;> rw [e] at hrk hr ⊢ <;> simp at hrk hr ⊢ <;> split <;> omega
        have hrd : m.fr / 8 ≠ m.to_ / 8 := by unfold rd at hr; omega
        rw [← hto, hat2] at hst
        have hnb : bareB p (m.fr / 8 * 8 + m.to_ % 8) = false := by
          unfold standsB at hst
          unfold bareB
          rw [Bool.and_eq_true, beq_iff_eq] at hst
          rw [hst.1]; simp
        unfold takesOf
        rw [hat, hnb, hto.symm]
        simp only [c1, c4, beq_self_eq_true, Bool.true_and, Bool.and_true]
        have e1 : (m.fr / 8 * 8 + m.to_ % 8 != -1) = true := by simp; omega
        have e2 : (m.fr / 8 * 8 + m.to_ % 8 != m.to_) = true := by simp; omega
        have e3 : (m.fr % 8 != m.to_ % 8) = true := by simpa using c2
        simp only [Bool.false_eq_true, if_false, e1, e2, e3, Bool.and_self]
    · have hat : takesAt p m (p.kind m.fr.toNat) = m.to_ := by unfold takesAt; rw [if_neg hc]
      have hr : (p.kind m.fr.toNat == 1 && m.fr % 8 != m.to_ % 8 && bareB p m.to_) = false := by
        rw [Bool.eq_false_iff]
        intro h
        simp only [Bool.and_eq_true, beq_iff_eq, bne_iff_ne] at h
        exact hc ⟨h.1.1, htn.2 h.1.2, hto, h.2⟩
      have hl : (takesOf p m (p.kind m.fr.toNat) != -1 && takesOf p m (p.kind m.fr.toNat) != m.to_) = false := by
        unfold takesOf
        rw [hat]
        split <;> simp
      rw [Bool.and_assoc, hl, Bool.and_assoc, Bool.and_assoc, ← Bool.and_assoc (p.kind m.fr.toNat == 1), hr]
  · have : (m.to_ == p.over) = false := by simpa using hto
    simp only [this, Bool.false_and]
theorem overA_eq (p : Pos) : rOverA p = overA p := by
  unfold rOverA overA
  split
  · rfl
  · rename_i hov
    have : (movesP p).any (rOverM p) = (movesP p).any (overM p) := by
      unfold movesP
      split
      · rename_i hp
        rw [Bool.eq_iff_iff, List.any_eq_true, List.any_eq_true]
        constructor
        · rintro ⟨m, hm, h⟩; exact ⟨m, hm, by rw [overM_eq hp hm hov]; exact h⟩
        · rintro ⟨m, hm, h⟩; exact ⟨m, hm, by rw [← overM_eq hp hm hov]; exact h⟩
      · rfl
    rw [this]
end Go.Proofs.YtdmgimfgoajmjaaGreatDoor
namespace Go.Proofs.YtdmgimfgoajmjaaGreatDoor
open Go.RowKit
def total (f : Int → Int → Nat → Int) (p : Pos) : Nat → Int
  | 0 => 0
  | n + 1 => total f p n + f (p.kind n) (p.side n) n
theorem total_put_lt (f : Int → Int → Nat → Int) (p : Pos) (t k s : Int) : ∀ n, n ≤ t.toNat → total f (p.put t k s) n = total f p n
  | 0, _ => rfl
  | n + 1, h => by
    simp only [total]
    rw [total_put_lt f p t k s n (by omega)]
    simp only [Pos.put]
    rw [if_neg (by omega), if_neg (by omega)]
theorem total_put_ge (f : Int → Int → Nat → Int) (p : Pos) (t k s : Int) : ∀ n, t.toNat < n → total f (p.put t k s) n = total f p n - f (p.kind t.toNat) (p.side t.toNat) t.toNat + f k s t.toNat
  | 0, h => by omega
  | n + 1, h => by
    simp only [total]
    by_cases e : n = t.toNat
    · rw [total_put_lt f p t k s n (by omega)]
      simp only [Pos.put]
      rw [if_pos e, if_pos e, e]; omega
    · rw [total_put_ge f p t k s n (by omega)]
      simp only [Pos.put]
      rw [if_neg e, if_neg e]; omega
theorem total_put (f : Int → Int → Nat → Int) (p : Pos) {t : Int} (k s : Int) (t0 : 0 ≤ t) (t1 : t < 64) : total f (p.put t k s) 64 = total f p 64 - f (p.kind t.toNat) (p.side t.toNat) t.toNat + f k s t.toNat :=
  total_put_ge f p t k s 64 (by omega)
theorem put_at (p : Pos) (t k s u : Int) : (p.put t k s).kind u.toNat = (if u.toNat = t.toNat then k else p.kind u.toNat) ∧ (p.put t k s).side u.toNat = (if u.toNat = t.toNat then s else p.side u.toNat) := ⟨rfl, rfl⟩
structure Known (p : Pos) (m : Mv) (k s at_ be : Int) : Prop where
  f0 : 0 ≤ m.fr
  f1 : m.fr < 64
  t0 : 0 ≤ m.to_
  t1 : m.to_ < 64
  ne : m.fr ≠ m.to_
  k0 : 1 ≤ k
  k1 : k ≤ 6
  s0 : s = 0 ∨ s = 1
  kind : p.kind m.fr.toNat = k
  side : p.side m.fr.toNat = s
  turn : p.turn = s
  be0 : (be = k ∧ ¬ (k = 1 ∧ m.to_ / 8 = 7 * (1 - s)) ∧ m.be = 0) ∨ (k = 1 ∧ m.to_ / 8 = 7 * (1 - s) ∧ 2 ≤ be ∧ be ≤ 5 ∧ m.be = be)
  at0 : (at_ = -1 ∧ bareB p m.to_ = true) ∨ (at_ = m.to_ ∧ bareB p m.to_ = false ∧ p.side m.to_.toNat ≠ s ∧ rAttB p m.fr m.to_ = true) ∨
    (at_ = m.fr / 8 * 8 + m.to_ % 8 ∧ bareB p m.to_ = true ∧ k = 1 ∧ p.kind at_.toNat = 1 ∧ p.side at_.toNat = otherOf s ∧ m.fr % 8 ≠ m.to_ % 8 ∧ (at_ / 8 = 3 ∨ at_ / 8 = 4) ∧ m.fr / 8 ≠ m.to_ / 8 ∧ m.to_ = p.over)
  pawn : k = 1 → (m.to_ / 8 = m.fr / 8 + (1 - 2 * s) ∨ (m.to_ = m.fr + 2 * onOfS s ∧ m.fr / 8 = 1 + 5 * s ∧ bareB p (m.fr + onOfS s) = true ∧ at_ = -1))
  quiet : k = 1 → m.fr % 8 = m.to_ % 8 → at_ = -1
  rook : (rookOf p m k s).2.2 = true → k = 6 ∧ m.fr = homeOf s ∧ at_ = -1 ∧
    ((m.to_ = homeOf s + 2 ∧ rookOf p m k s = (homeOf s + 3, homeOf s + 1, true) ∧ standsB p 4 s (homeOf s + 3) = true ∧ bareB p (homeOf s + 1) = true) ∨
     (m.to_ = homeOf s - 2 ∧ rookOf p m k s = (homeOf s - 4, homeOf s - 1, true) ∧ standsB p 4 s (homeOf s - 4) = true ∧ bareB p (homeOf s - 1) = true))
theorem bare_iff {p : Pos} {t : Int} : bareB p t = true ↔ p.kind t.toNat = 0 ∧ p.side t.toNat = 0 := by simp [bareB]
theorem freeAt_bare {p : Pos} {t : Int} (h : freeAt p t = true) : 0 ≤ t ∧ t < 64 ∧ bareB p t = true := by
  simp [freeAt, isSq] at h; exact ⟨h.1.1, h.1.2, h.2⟩
theorem home_bd (s : Int) : homeOf s = 4 ∧ ¬ s = 1 ∨ homeOf s = 60 ∧ s = 1 := by unfold homeOf; split <;> simp [*]
theorem known {p : Pos} {m : Mv} (hp : overB p = true) (hm : m ∈ AllL p) (hE : takenE p m = 0) :
    Known p m (p.kind m.fr.toNat) (p.side m.fr.toNat) (takesOf p m (p.kind m.fr.toNat)) (beOf m (p.kind m.fr.toNat)) := by
  obtain ⟨f0, f1, t0, t1, hg, hto⟩ := AllL_goes hm
  have hmv := goes_mover hg
  have hmay := hmv.1
  simp only [mayB, decide_eq_true_eq] at hmay
  have hne : m.fr ≠ m.to_ := by
    unfold rGoesB at hg
    split at hg
    · rename_i h; exact h.2.2
    · cases hg
  have hgo : (if p.kind m.fr.toNat = 1 then rPawnB p m.fr m.to_ else if (rAttB p m.fr m.to_ && (bareB p m.to_ || p.side m.to_.toNat != p.side m.fr.toNat)) = true then true else p.kind m.fr.toNat == 6 && rCastleB p m.fr m.to_) = true := by
    unfold rGoesB at hg
    rwa [if_pos ⟨hmv.1, hmv.2, hne⟩] at hg
  have hrk : rankOf m.to_ = m.to_ / 8 := by unfold rankOf; rw [if_pos ⟨t0, t1⟩]
  have htn : turnsOf m ≠ 0 ↔ m.fr % 8 ≠ m.to_ % 8 := by
    unfold turnsOf fileOf
    rw [if_pos ⟨t0, t1⟩, if_pos ⟨f0, f1⟩]; omega
  have hon := show (p.side m.fr.toNat = 1 → onOfS (p.side m.fr.toNat) = -8) ∧ (p.side m.fr.toNat = 0 → onOfS (p.side m.fr.toNat) = 8) by
    unfold onOfS; constructor <;> intro h <;> simp [h]
  have hside := hmay.2.2
  have hkey : overB p = true → p.kind m.fr.toNat = 1 → rAttB p m.fr m.to_ = true → m.to_ = p.over →
      p.kind (m.fr / 8 * 8 + m.to_ % 8).toNat = 1 ∧ p.side (m.fr / 8 * 8 + m.to_ % 8).toNat = otherOf p.turn ∧ ((m.fr / 8 * 8 + m.to_ % 8) / 8 = 3 ∨ (m.fr / 8 * 8 + m.to_ % 8) / 8 = 4) := by
    intro hO c1 hA hto
    obtain ⟨-, hr⟩ := att_pawn hA c1
    unfold overB at hO
    rw [Bool.or_eq_true] at hO
    rcases hO with hO | hO
    · simp at hO; omega
    · simp only [Bool.and_eq_true, decide_eq_true_eq] at hO
      have hst := hO.2
      have hrk := hO.1.1.1.1
      unfold rankOf at hrk
      rw [← hto, if_pos ⟨t0, t1⟩] at hrk
      have htd : p.turn = 0 ∨ p.turn = 1 := by rw [← hmv.2]; exact hside
      have hat2 : stepOf m.to_ 0 (-overOn p) = m.fr / 8 * 8 + m.to_ % 8 ∧ (m.fr / 8 = 3 ∨ m.fr / 8 = 4) := by
        unfold stepOf onOf
        rw [if_pos (show 0 ≤ m.to_ ∧ m.to_ < 64 from ⟨t0, t1⟩)]
        unfold numOf overOn
        unfold overRank at hrk
        unfold rd at hr
        rw [hmv.2] at hr
        rcases htd with e | e <;> rw [e] at hrk hr ⊢ <;> simp at hrk hr ⊢ <;> (constructor; split <;> omega) <;> omega
      rw [← hto, hat2.1] at hst
      simp only [standsB, Bool.and_eq_true, beq_iff_eq] at hst
      exact ⟨hst.1, hst.2, by omega⟩
  have hpawn : p.kind m.fr.toNat = 1 → (m.fr % 8 = m.to_ % 8 ∧ bareB p m.to_ = true ∧ (m.to_ = m.fr + onOfS (p.side m.fr.toNat) ∨ (m.to_ = m.fr + 2 * onOfS (p.side m.fr.toNat) ∧ m.fr / 8 = (if p.side m.fr.toNat = 1 then 6 else 1) ∧ bareB p (m.fr + onOfS (p.side m.fr.toNat)) = true))) ∨
      (m.fr % 8 ≠ m.to_ % 8 ∧ rAttB p m.fr m.to_ = true ∧ m.to_ / 8 = m.fr / 8 + (1 - 2 * p.side m.fr.toNat) ∧ ((bareB p m.to_ = false ∧ p.side m.to_.toNat = otherOf (p.side m.fr.toNat)) ∨ (bareB p m.to_ = true ∧ m.to_ = p.over))) := by
    intro hk
    rw [if_pos hk] at hgo
    unfold rPawnB at hgo
    dsimp only at hgo
    generalize hfr : (if p.side m.fr.toNat = 1 then (6 : Int) else 1) = fr1 at *
    split at hgo
    · rename_i e
      exact .inl ⟨by omega, (freeAt_bare hgo).2.2, .inl e⟩
    · split at hgo
      · rename_i e
        rw [Bool.and_eq_true] at hgo
        exact .inl ⟨by omega, (freeAt_bare hgo.2).2.2, .inr ⟨e.1, e.2, (freeAt_bare hgo.1).2.2⟩⟩
      · split at hgo
        · rename_i hA
          obtain ⟨g1, g2⟩ := att_pawn hA hk
          have hfd : fd m.fr m.to_ ≠ 0 := by intro e; rw [e] at g1; cases g1
          unfold fd at hfd
          unfold rd at g2
          refine .inr ⟨by omega, hA, by omega, ?_⟩
          rw [Bool.or_eq_true, Bool.and_eq_true, Bool.and_eq_true] at hgo
          rcases hgo with h | h
          · exact .inl ⟨by simpa using h.1, by simpa using h.2⟩
          · exact .inr ⟨(freeAt_bare h.1).2.2, by simpa using h.2⟩
        · cases hgo
  have hcan : canB p m = true := by
    unfold takenE at hE
    split at hE
    · split at hE
      · assumption
      · cases hE
    · cases hE
  simp only [canB, canOf, decide_eq_true_eq, hrk] at hcan
  have hbare : bareB p m.to_ = true → ¬ (p.kind m.fr.toNat = 1 ∧ turnsOf m ≠ 0 ∧ m.to_ = p.over ∧ bareB p m.to_ = true) → takesOf p m (p.kind m.fr.toNat) = -1 := by
    intro h1 h2
    unfold takesOf takesAt
    rw [if_neg h2, if_pos h1]
  have hcas : p.kind m.fr.toNat = 6 → rAttB p m.fr m.to_ = false → rCastleB p m.fr m.to_ = true := by
    intro h6 hA
    rw [if_neg (by omega), if_neg (by simp [hA])] at hgo
    simpa [h6] using hgo
  refine ⟨f0, f1, t0, t1, hne, hmay.1, hmay.2.1, hside, rfl, rfl, hmv.2.symm, ?_, ?_, ?_, ?_, ?_⟩
  · rcases hcan.2.2.2.2 with ⟨h1, h2, h3, h4⟩ | ⟨h1, h2⟩
    · have e : beOf m (p.kind m.fr.toNat) = m.be := by unfold beOf; rw [if_pos (by omega)]
      rw [e]; exact .inr ⟨h1, h2, h3, h4, rfl⟩
    · have e : beOf m (p.kind m.fr.toNat) = p.kind m.fr.toNat := by unfold beOf; rw [if_neg (by omega)]
      exact .inl ⟨e, h1, h2⟩
  · by_cases hc : p.kind m.fr.toNat = 1 ∧ turnsOf m ≠ 0 ∧ m.to_ = p.over ∧ bareB p m.to_ = true
    · have hat : takesAt p m (p.kind m.fr.toNat) = m.fr / 8 * 8 + m.to_ % 8 := by unfold takesAt; rw [if_pos hc]
      obtain ⟨c1, c2, c3, c4⟩ := hc
      rw [htn] at c2
      rcases hpawn c1 with h | h
      · exact absurd h.1 c2
      · obtain ⟨q1, q2, q3⟩ := hkey hp c1 h.2.1 c3
        have hnb : bareB p (m.fr / 8 * 8 + m.to_ % 8) = false := by
          unfold bareB; rw [q1]; rfl
        have hto : takesOf p m (p.kind m.fr.toNat) = m.fr / 8 * 8 + m.to_ % 8 := by
          unfold takesOf; rw [hat, if_neg (by rw [hnb]; decide)]
        refine .inr (.inr ⟨hto, c4, c1, ?_, ?_, c2, ?_, by omega, c3⟩)
        · rw [hto]; exact q1
        · rw [hto, hmv.2]; exact q2
        · rw [hto]; exact q3
    · cases hb : bareB p m.to_
      · have hto : takesOf p m (p.kind m.fr.toNat) = m.to_ := by unfold takesOf takesAt; rw [if_neg hc, if_neg (by rw [hb]; decide)]
        refine .inr (.inl ⟨hto, rfl, ?_⟩)
        by_cases hk : p.kind m.fr.toNat = 1
        · rcases hpawn hk with h | h
          · rw [h.2.1] at hb; cases hb
          · refine ⟨?_, h.2.1⟩
            rcases h.2.2.2 with h' | h'
            · rw [h'.2]; unfold otherOf; split <;> omega
            · rw [h'.1] at hb; cases hb
        · rw [if_neg hk] at hgo
          split at hgo
          · rename_i h'
            rw [Bool.and_eq_true, hb, Bool.false_or, bne_iff_ne] at h'
            exact ⟨h'.2, h'.1⟩
          · rw [Bool.and_eq_true] at hgo
            have hr := hgo.2
            unfold rCastleB at hr
            dsimp only at hr
            split at hr
            · split at hr
              · rename_i e
                simp only [Bool.and_eq_true] at hr
                have := (freeAt_bare hr.2).2.2
                rw [← e, hb] at this; cases this
              · simp only [Bool.and_eq_true, beq_iff_eq] at hr
                have := (freeAt_bare hr.1.2).2.2
                rw [← hr.1.1.1.1.1, hb] at this; cases this
            · cases hr
      · exact .inl ⟨hbare hb hc, rfl⟩
  · intro hk
    rcases hpawn hk with h | h
    · rcases h.2.2 with e | e
      · left
        rcases hside with e2 | e2
        · rw [hon.2 e2] at e; rw [e2]; omega
        · rw [hon.1 e2] at e; rw [e2]; omega
      · right
        refine ⟨e.1, ?_, e.2.2, hbare h.2.1 (by rw [htn]; intro hc; exact hc.2.1 h.1)⟩
        have := e.2.1
        rcases hside with e2 | e2 <;> rw [e2] at this ⊢ <;> simp at this ⊢ <;> omega
    · exact .inl h.2.2.1
  · intro hk he
    rcases hpawn hk with h | h
    · exact hbare h.2.1 (by rw [htn]; intro hc; exact hc.2.1 he)
    · exact absurd he h.1
  · intro hr
    unfold rookOf at hr ⊢
    have hh := home_bd (p.side m.fr.toNat)
    split at hr
    · rename_i hc
      have hnA : rAttB p m.fr m.to_ = true → absOf (fd m.fr m.to_) ≤ 1 := fun h => att_king h hc.1
      split at hr
      · rename_i e
        have hA : rAttB p m.fr m.to_ = false := by
          rw [Bool.eq_false_iff]; intro h
          have := hnA h
          unfold fd absOf at this
          split at this <;> omega
        have hcs := hcas hc.1 hA
        unfold rCastleB at hcs
        dsimp only at hcs
        split at hcs
        · try rw [if_pos e] at hcs
          simp only [Bool.and_eq_true] at hcs
          dsimp only at hr
          have hb := (freeAt_bare hcs.2).2.2
          rw [← e] at hb
          refine ⟨hc.1, hc.2, hbare hb (by rintro ⟨h, _⟩; omega), .inl ⟨e, ?_, hcs.1.1.2, (freeAt_bare hcs.1.2).2.2⟩⟩
          rw [if_pos hc, if_pos e, hr]
        · cases hcs
      · split at hr
        · rename_i e0 e
          have hA : rAttB p m.fr m.to_ = false := by
            rw [Bool.eq_false_iff]; intro h
            have := hnA h
            unfold fd absOf at this
            split at this <;> omega
          have hcs := hcas hc.1 hA
          unfold rCastleB at hcs
          dsimp only at hcs
          split at hcs
          · try rw [if_neg e0] at hcs
            simp only [Bool.and_eq_true] at hcs
            dsimp only at hr
            have hb := (freeAt_bare hcs.1.2).2.2
            rw [← e] at hb
            refine ⟨hc.1, hc.2, hbare hb (by rintro ⟨h, _⟩; omega), .inr ⟨e, ?_, hcs.1.1.1.2, (freeAt_bare hcs.1.1.2).2.2⟩⟩
            rw [if_pos hc, if_neg e0, if_pos e, hr]
          · cases hcs
        · cases hr
    · cases hr
theorem putAll_one (p : Pos) (x y : Int) {t : Int} (t0 : 0 ≤ t) (t1 : t < 64) : putAll p x y [t] = p.put t x y := by
  unfold putAll; rw [if_pos ⟨t0, t1⟩]; rfl
theorem putAll_two (p : Pos) (x y : Int) {a t : Int} (t0 : 0 ≤ t) (t1 : t < 64) : putAll p x y [a, t] = (if 0 ≤ a ∧ a < 64 then p.put a x y else p).put t x y := by
  unfold putAll; rw [putAll_one _ _ _ t0 t1]
def basic (p : Pos) (m : Mv) (at_ be s : Int) : Pos := ((if 0 ≤ at_ ∧ at_ < 64 then p.put at_ 0 0 else p).put m.fr 0 0).put m.to_ be s
theorem stood_eq {p : Pos} {m : Mv} {k s at_ be : Int} (K : Known p m k s at_ be) (ha : at_ = takesOf p m k) (hb : be = beOf m k) :
    stood p m k s = if (rookOf p m k s).2.2 = true then ((basic p m at_ be s).put (rookOf p m k s).1 0 0).put (rookOf p m k s).2.1 4 s else basic p m at_ be s := by
  unfold stood basic
  rw [putAll_one _ _ _ K.t0 K.t1, putAll_two _ _ _ K.f0 K.f1, ← ha, ← hb]
  dsimp only
  split
  · rename_i hr
    have hh := home_bd s
    obtain ⟨-, -, -, h | h⟩ := K.rook hr
    · rw [h.2.1, putAll_one _ _ _ (by dsimp only; omega) (by dsimp only; omega), putAll_one _ _ _ (by dsimp only; omega) (by dsimp only; omega)]
    · rw [h.2.1, putAll_one _ _ _ (by dsimp only; omega) (by dsimp only; omega), putAll_one _ _ _ (by dsimp only; omega) (by dsimp only; omega)]
  · rfl
theorem Known.at_bd {p : Pos} {m : Mv} {k s at_ be : Int} (K : Known p m k s at_ be) : -1 ≤ at_ ∧ at_ < 64 ∧ at_ ≠ m.fr := by
  have h1 := K.f0; have h2 := K.f1; have h3 := K.t0; have h4 := K.t1; have h5 := K.ne
  rcases K.at0 with h | h | h
  · omega
  · omega
  · have h6 := h.1; have h7 := h.2.2.2.2.2.1; omega
theorem put_kind (p : Pos) (t k s : Int) (i : Nat) : (p.put t k s).kind i = if i = t.toNat then k else p.kind i := rfl
theorem put_side (p : Pos) (t k s : Int) (i : Nat) : (p.put t k s).side i = if i = t.toNat then s else p.side i := rfl
theorem basic_kind {p : Pos} {m : Mv} {k s at_ be : Int} (K : Known p m k s at_ be) (i : Nat) : (basic p m at_ be s).kind i = if i = m.to_.toNat then be else if i = m.fr.toNat then 0 else if (i : Int) = at_ then 0 else p.kind i := by
  have := K.at_bd
  unfold basic
  rw [put_kind, put_kind]
  congr 2
  split
  · rw [put_kind]
    by_cases e : (i : Int) = at_
    · rw [if_pos e, if_pos (by omega)]
    · rw [if_neg e, if_neg (by omega)]
  · rw [if_neg (by omega)]
theorem basic_side {p : Pos} {m : Mv} {k s at_ be : Int} (K : Known p m k s at_ be) (i : Nat) : (basic p m at_ be s).side i = if i = m.to_.toNat then s else if i = m.fr.toNat then 0 else if (i : Int) = at_ then 0 else p.side i := by
  have := K.at_bd
  unfold basic
  rw [put_side, put_side]
  congr 2
  split
  · rw [put_side]
    by_cases e : (i : Int) = at_
    · rw [if_pos e, if_pos (by omega)]
    · rw [if_neg e, if_neg (by omega)]
  · rw [if_neg (by omega)]
theorem basic_total (f : Int → Int → Nat → Int) (hf : ∀ i, f 0 0 i = 0) {p : Pos} {m : Mv} {k s at_ be : Int} (K : Known p m k s at_ be) :
    total f (basic p m at_ be s) 64 = total f p 64 - (if at_ = -1 then 0 else f (p.kind at_.toNat) (p.side at_.toNat) at_.toNat) - f k s m.fr.toNat + f be s m.to_.toNat := by
  obtain ⟨b0, b1, b2⟩ := K.at_bd
  have h1 := K.f0; have h2 := K.f1; have h3 := K.t0; have h4 := K.t1; have h5 := K.ne
  unfold basic
  rw [total_put f _ be s K.t0 K.t1, total_put f _ 0 0 K.f0 K.f1, put_kind, put_side, if_neg (show ¬ m.to_.toNat = m.fr.toNat by omega), if_neg (show ¬ m.to_.toNat = m.fr.toNat by omega), hf]
  by_cases e : at_ = -1
  · rw [if_neg (by omega), if_pos e, K.kind, K.side]
    have hb : bareB p m.to_ = true := by
      rcases K.at0 with h | h | h
      · exact h.2
      · omega
      · omega
    obtain ⟨q1, q2⟩ := bare_iff.1 hb
    rw [q1, q2, hf]; omega
  · rw [if_pos (by omega), if_neg e, total_put f p 0 0 (by omega) b1, hf]
    simp only [put_kind, put_side]
    rw [if_neg (show ¬ m.fr.toNat = at_.toNat by omega), if_neg (show ¬ m.fr.toNat = at_.toNat by omega), K.kind, K.side]
    have hz : f (if m.to_.toNat = at_.toNat then 0 else p.kind m.to_.toNat) (if m.to_.toNat = at_.toNat then 0 else p.side m.to_.toNat) m.to_.toNat = 0 := by
      rcases K.at0 with h | h | h
      · omega
      · rw [if_pos (by omega), if_pos (by omega), hf]
      · obtain ⟨q1, q2⟩ := bare_iff.1 h.2.1
        rw [q1, q2]; simp [hf]
    rw [hz]; omega
theorem stood_total (f : Int → Int → Nat → Int) (hf : ∀ i, f 0 0 i = 0) (hr4 : ∀ s i j, f 4 s i = f 4 s j) {p : Pos} {m : Mv} {k s at_ be : Int} (K : Known p m k s at_ be) (ha : at_ = takesOf p m k) (hb : be = beOf m k) :
    total f (stood p m k s) 64 = total f p 64 - (if at_ = -1 then 0 else f (p.kind at_.toNat) (p.side at_.toNat) at_.toNat) - f k s m.fr.toNat + f be s m.to_.toNat := by
  rw [stood_eq K ha hb]
  split
  · rename_i hr
    have hh := home_bd s
    obtain ⟨hk, hfr, hat, h | h⟩ := K.rook hr
    · obtain ⟨e1, e2, e3, e4⟩ := h
      rw [e2]
      dsimp only
      rw [total_put f _ 4 s (by omega) (by omega), total_put f _ 0 0 (by omega) (by omega), hf, basic_total f hf K]
      simp only [put_kind, put_side]
      rw [basic_kind K, basic_side K, basic_kind K, basic_side K]
      simp only [standsB, Bool.and_eq_true, beq_iff_eq] at e3
      obtain ⟨q1, q2⟩ := bare_iff.1 e4
      have n1 : ¬ (homeOf s + 1).toNat = (homeOf s + 3).toNat := by omega
      have n2 : ¬ (homeOf s + 1).toNat = m.to_.toNat := by omega
      have n3 : ¬ (homeOf s + 1).toNat = m.fr.toNat := by omega
      have n4 : ¬ (((homeOf s + 1).toNat : Nat) : Int) = at_ := by omega
      have n5 : ¬ (homeOf s + 3).toNat = m.to_.toNat := by omega
      have n6 : ¬ (homeOf s + 3).toNat = m.fr.toNat := by omega
      have n7 : ¬ (((homeOf s + 3).toNat : Nat) : Int) = at_ := by omega
      simp only [n1, n2, n3, n4, n5, n6, n7, if_false]
      rw [q1, q2, hf, e3.1, e3.2, hr4 s (homeOf s + 3).toNat (homeOf s + 1).toNat]; omega
    · obtain ⟨e1, e2, e3, e4⟩ := h
      rw [e2]
      dsimp only
      rw [total_put f _ 4 s (by omega) (by omega), total_put f _ 0 0 (by omega) (by omega), hf, basic_total f hf K]
      simp only [put_kind, put_side]
      rw [basic_kind K, basic_side K, basic_kind K, basic_side K]
      simp only [standsB, Bool.and_eq_true, beq_iff_eq] at e3
      obtain ⟨q1, q2⟩ := bare_iff.1 e4
      have n1 : ¬ (homeOf s - 1).toNat = (homeOf s - 4).toNat := by omega
      have n2 : ¬ (homeOf s - 1).toNat = m.to_.toNat := by omega
      have n3 : ¬ (homeOf s - 1).toNat = m.fr.toNat := by omega
      have n4 : ¬ (((homeOf s - 1).toNat : Nat) : Int) = at_ := by omega
      have n5 : ¬ (homeOf s - 4).toNat = m.to_.toNat := by omega
      have n6 : ¬ (homeOf s - 4).toNat = m.fr.toNat := by omega
      have n7 : ¬ (((homeOf s - 4).toNat : Nat) : Int) = at_ := by omega
      simp only [n1, n2, n3, n4, n5, n6, n7, if_false]
      rw [q1, q2, hf, e3.1, e3.2, hr4 s (homeOf s - 4).toNat (homeOf s - 1).toNat]; omega
  · exact basic_total f hf K
theorem stood_kind {p : Pos} {m : Mv} {k s at_ be : Int} (K : Known p m k s at_ be) (ha : at_ = takesOf p m k) (hb : be = beOf m k) (i : Nat) :
    (stood p m k s).kind i = if (rookOf p m k s).2.2 = true ∧ i = (rookOf p m k s).2.1.toNat then 4 else if (rookOf p m k s).2.2 = true ∧ i = (rookOf p m k s).1.toNat then 0 else if i = m.to_.toNat then be else if i = m.fr.toNat then 0 else if (i : Int) = at_ then 0 else p.kind i := by
  rw [stood_eq K ha hb]
  by_cases hr : (rookOf p m k s).2.2 = true
  · rw [if_pos hr]; simp only [put_kind, hr, true_and]; rw [basic_kind K]
  · rw [if_neg hr]; simp only [hr, false_and]; exact basic_kind K i
theorem stood_side {p : Pos} {m : Mv} {k s at_ be : Int} (K : Known p m k s at_ be) (ha : at_ = takesOf p m k) (hb : be = beOf m k) (i : Nat) :
    (stood p m k s).side i = if (rookOf p m k s).2.2 = true ∧ i = (rookOf p m k s).2.1.toNat then s else if (rookOf p m k s).2.2 = true ∧ i = (rookOf p m k s).1.toNat then 0 else if i = m.to_.toNat then s else if i = m.fr.toNat then 0 else if (i : Int) = at_ then 0 else p.side i := by
  rw [stood_eq K ha hb]
  by_cases hr : (rookOf p m k s).2.2 = true
  · rw [if_pos hr]; simp only [put_side, hr, true_and]; rw [basic_side K]
  · rw [if_neg hr]; simp only [hr, false_and]; exact basic_side K i
def kingF (s : Int) : Int → Int → Nat → Int := fun k sd _ => if k = 6 ∧ sd = s then 1 else 0
theorem kings_total (p : Pos) (s : Int) : ∀ n, kings p s n = total (kingF s) p n
  | 0 => rfl
  | n + 1 => by simp only [kings, total, kings_total p s n, kingF]
theorem other_other {s : Int} (h : s = 0 ∨ s = 1) : otherOf (otherOf s) = s := by rcases h with rfl | rfl <;> rfl
theorem check_of {p : Pos} {s a t : Int} (hs : s = 0 ∨ s = 1) (a0 : 0 ≤ a) (a1 : a < 64) (t0 : 0 ≤ t) (t1 : t < 64) (hk : p.kind t.toNat = 6) (ht : p.side t.toNat = s) (ha : p.side a.toNat = otherOf s) (hA : rAttB p a t = true) : checkB p s = true := by
  unfold checkB
  rw [if_pos hs]
  unfold attacked
  rw [List.any_eq_true]
  refine ⟨t, ?_, ?_⟩
  · unfold findL
    rw [List.mem_map]
    exact ⟨t.toNat, by rw [List.mem_filter, List.mem_range]; exact ⟨by omega, by simp [hk, ht]⟩, by omega⟩
  · rw [attackers_eq p _ t0 t1]
    have : a ∈ rToL p t (otherOf s) := by
      unfold rToL
      rw [List.mem_map]
      refine ⟨a.toNat, ?_, by omega⟩
      rw [List.mem_filter, List.mem_range]
      refine ⟨by omega, ?_⟩
      rw [Int.toNat_of_nonneg a0]; simp [ha, hA]
    cases h : rToL p t (otherOf s) with
    | nil => rw [h] at this; cases this
    | cons x r => rfl
theorem ck_not : ((List.range 16).all fun (c : Nat) => (List.range 16).all fun (l : Nat) => decide (0 ≤ notI c l ∧ notI c l ≤ 15) && [1, 2, 4, 8].all fun (b : Int) => !(notI c l / b % 2 == 1) || ((c : Int) / b % 2 == 1 && (l : Int) / b % 2 == 0)) = true := by decide +kernel
theorem not_at {c l : Int} (c0 : 0 ≤ c) (c1 : c ≤ 15) (l0 : 0 ≤ l) (l1 : l ≤ 15) : 0 ≤ notI c l ∧ notI c l ≤ 15 ∧ ∀ b ∈ [(1 : Int), 2, 4, 8], notI c l / b % 2 = 1 → c / b % 2 = 1 ∧ l / b % 2 = 0 := by
  have h1 := (List.all_eq_true.1 ck_not) c.toNat (List.mem_range.2 (by omega))
  have h2 := (List.all_eq_true.1 h1) l.toNat (List.mem_range.2 (by omega))
  rw [Int.toNat_of_nonneg c0, Int.toNat_of_nonneg l0, Bool.and_eq_true, decide_eq_true_eq] at h2
  refine ⟨h2.1.1, h2.1.2, fun b hb e => ?_⟩
  have h3 := (List.all_eq_true.1 h2.2) b hb
  rw [e] at h3
  simpa using h3
theorem ck_or : ((List.range 16).all fun (c : Nat) => (List.range 16).all fun (l : Nat) => decide (0 ≤ orI (orI 0 c) l ∧ orI (orI 0 c) l ≤ 15) && [1, 2, 4, 8].all fun (b : Int) => !(orI (orI 0 c) l / b % 2 == 0) || ((c : Int) / b % 2 == 0 && (l : Int) / b % 2 == 0)) = true := by decide +kernel
theorem lostOf_bd2 (s : Int) : 0 ≤ lostOf s ∧ lostOf s ≤ 15 := by
  unfold lostOf
  repeat' split
  all_goals omega
theorem lost_two (f t : Int) : 0 ≤ lostL [f, t] ∧ lostL [f, t] ≤ 15 ∧ ∀ b ∈ [(1 : Int), 2, 4, 8], lostL [f, t] / b % 2 = 0 → lostOf f / b % 2 = 0 ∧ lostOf t / b % 2 = 0 := by
  obtain ⟨f0, f1⟩ := lostOf_bd2 f
  obtain ⟨t0, t1⟩ := lostOf_bd2 t
  show 0 ≤ orI (orI 0 (lostOf f)) (lostOf t) ∧ orI (orI 0 (lostOf f)) (lostOf t) ≤ 15 ∧ ∀ b ∈ [(1 : Int), 2, 4, 8], orI (orI 0 (lostOf f)) (lostOf t) / b % 2 = 0 → _
  have h1 := (List.all_eq_true.1 ck_or) (lostOf f).toNat (List.mem_range.2 (by omega))
  have h2 := (List.all_eq_true.1 h1) (lostOf t).toNat (List.mem_range.2 (by omega))
  rw [Int.toNat_of_nonneg f0, Int.toNat_of_nonneg t0, Bool.and_eq_true, decide_eq_true_eq] at h2
  refine ⟨h2.1.1, h2.1.2, fun b hb e => ?_⟩
  have h3 := (List.all_eq_true.1 h2.2) b hb
  rw [e] at h3
  simpa using h3
theorem fixC_id {p : Pos} (h : castlesB p = true) : fixC p = p := by
  unfold castlesB at h
  rw [Bool.and_eq_true, decide_eq_true_eq] at h
  unfold fixC; rw [if_pos h.1]
structure Parts (p : Pos) : Prop where
  pieces : piecesB p = true
  castles : castlesB p = true
  over : overB p = true
  h0 : 0 ≤ p.half
  h1 : p.half ≤ 1024
  l0 : 1 ≤ p.full
  l1 : p.full ≤ 16384
  safe : checkB p (otherOf p.turn) = false
theorem parts_iff {p : Pos} : positionB p = true ↔ Parts p := by
  unfold positionB rightB
  simp only [Bool.and_eq_true, Bool.not_eq_true', decide_eq_true_eq]
  constructor
  · rintro ⟨⟨⟨⟨h1, h2⟩, h3⟩, h4, h5, h6, h7⟩, h8⟩; exact ⟨h1, h2, h3, h4, h5, h6, h7, h8⟩
  · rintro ⟨h1, h2, h3, h4, h5, h6, h7, h8⟩; exact ⟨⟨⟨⟨h1, h2⟩, h3⟩, h4, h5, h6, h7⟩, h8⟩
theorem pieces_iff {p : Pos} : piecesB p = true ↔ (∀ i, i < 64 → okSq p i = true) ∧ kings p 0 64 = 1 ∧ kings p 1 64 = 1 ∧ (p.turn = 0 ∨ p.turn = 1) := by
  unfold piecesB
  simp only [Bool.and_eq_true, beq_iff_eq, Bool.or_eq_true, List.all_eq_true, List.mem_range, and_assoc]
theorem legal_parts {p : Pos} {m : Mv} (hm : m ∈ legalL p) : m ∈ AllL p ∧ takenE p m = 0 ∧ checkB (movedP p m) p.turn = false := by
  unfold legalL at hm
  rw [List.mem_filter] at hm
  obtain ⟨hm, hl⟩ := hm
  unfold legalB at hl
  simp only [Bool.and_eq_true, beq_iff_eq, Bool.not_eq_true'] at hl
  exact ⟨hm, hl.2.1, hl.2.2⟩
theorem okSq_iff {p : Pos} {i : Nat} : okSq p i = true ↔ (p.kind i = 0 ∧ p.side i = 0) ∨ (1 ≤ p.kind i ∧ p.kind i ≤ 6 ∧ (p.side i = 0 ∨ p.side i = 1) ∧ ¬ ((i < 8 ∨ 56 ≤ i) ∧ p.kind i = 1)) := by
  unfold okSq mayB
  simp only [Bool.or_eq_true, Bool.and_eq_true, beq_iff_eq, decide_eq_true_eq, Bool.not_eq_true', Bool.and_eq_false_iff, Bool.or_eq_false_iff, decide_eq_false_iff_not, beq_eq_false_iff_ne]
  omega
theorem no_king {p : Pos} {m : Mv} {k s at_ be : Int} (H : Parts p) (K : Known p m k s at_ be) (h : at_ ≠ -1) : p.kind at_.toNat ≠ 6 := by
  intro h6
  obtain ⟨hok, -, -, -⟩ := pieces_iff.1 H.pieces
  have hs := K.s0
  rcases K.at0 with h' | ⟨e, hb, hsd, hA⟩ | h'
  · exact h h'.1
  · rw [e] at h6
    have ho := okSq_iff.1 (hok m.to_.toNat (by have := K.t0; have := K.t1; omega))
    have hsd2 : p.side m.to_.toNat = otherOf s := by
      unfold otherOf; split <;> omega
    have := check_of (p := p) (s := otherOf s) (a := m.fr) (t := m.to_) (by unfold otherOf; split <;> omega) K.f0 K.f1 K.t0 K.t1 h6 hsd2 (by rw [other_other hs, K.side]) hA
    rw [← K.turn] at this
    rw [H.safe] at this; cases this
  · rw [h'.2.2.2.1] at h6; cases h6
theorem be_bd {p : Pos} {m : Mv} {k s at_ be : Int} (K : Known p m k s at_ be) : 1 ≤ be ∧ be ≤ 6 ∧ (be = 6 ↔ k = 6) ∧ (be = 1 → k = 1 ∧ ¬ m.to_ / 8 = 7 * (1 - s)) := by
  have h0 := K.k0; have h1 := K.k1
  rcases K.be0 with h | h
  · rw [h.1]; exact ⟨h0, h1, Iff.rfl, fun e => ⟨e, fun e' => h.2.1 ⟨e, e'⟩⟩⟩
  · omega
theorem pawn_to {p : Pos} {m : Mv} {k s at_ be : Int} (H : Parts p) (K : Known p m k s at_ be) (hb : be = 1) : 8 ≤ m.to_ ∧ m.to_ < 56 := by
  obtain ⟨-, -, -, h⟩ := be_bd K
  obtain ⟨hk, hl⟩ := h hb
  obtain ⟨hok, -, -, -⟩ := pieces_iff.1 H.pieces
  have ho := okSq_iff.1 (hok m.fr.toNat (by have := K.f0; have := K.f1; omega))
  rw [K.kind] at ho
  have f0 := K.f0; have f1 := K.f1; have t0 := K.t0; have t1 := K.t1
  have hs := K.s0
  rcases K.pawn hk with h | h
  · rcases hs with rfl | rfl <;> omega
  · have h2 := h.1
    unfold onOfS at h2
    rcases hs with rfl | rfl <;> simp at h2 <;> omega
theorem moved_eq {p : Pos} {m : Mv} (H : Parts p) (hE : takenE p m = 0) : movedP p m = madeP p m (p.kind m.fr.toNat) (p.side m.fr.toNat) := by
  unfold movedP moveP
  rw [if_pos hE, fixC_id H.castles]
theorem upTo_bd {a b : Int} (a0 : 0 ≤ a) (a1 : a < 100000) (b0 : 0 ≤ b) (b1 : b ≤ 100000) : upTo a b = (if a < b then a else b) + 1 := by
  unfold upTo wrap64
  split <;> omega
theorem made_pieces {p : Pos} {m : Mv} {k s at_ be : Int} (H : Parts p) (K : Known p m k s at_ be) (ha : at_ = takesOf p m k) (hb : be = beOf m k) : piecesB (madeP p m k s) = true := by
  obtain ⟨hok, hk0, hk1, ht⟩ := pieces_iff.1 H.pieces
  obtain ⟨b0, b1, b2, b3⟩ := be_bd K
  refine pieces_iff.2 ⟨fun i hi => ?_, ?_, ?_, ?_⟩
  · rw [okSq_iff]
    show ((stood p m k s).kind i = 0 ∧ (stood p m k s).side i = 0) ∨ (1 ≤ (stood p m k s).kind i ∧ (stood p m k s).kind i ≤ 6 ∧ ((stood p m k s).side i = 0 ∨ (stood p m k s).side i = 1) ∧ ¬ ((i < 8 ∨ 56 ≤ i) ∧ (stood p m k s).kind i = 1))
    rw [stood_kind K ha hb, stood_side K ha hb]
    have hs := K.s0
    split
    · right; omega
    · split
      · left; exact ⟨rfl, rfl⟩
      · split
        · right
          refine ⟨b0, b1, hs, ?_⟩
          rintro ⟨h1, h2⟩
          have := pawn_to H K h2
          omega
        · split
          · left; exact ⟨rfl, rfl⟩
          · split
            · left; exact ⟨rfl, rfl⟩
            · exact okSq_iff.1 (hok i hi)
  all_goals try
    rw [kings_total]
    show total (kingF _) (stood p m k s) 64 = 1
    rw [stood_total (kingF _) (by intro i; simp [kingF]) (by intro s i j; simp [kingF]) K ha hb, ← kings_total]
    have hz : ∀ s', (if at_ = -1 then 0 else kingF s' (p.kind at_.toNat) (p.side at_.toNat) at_.toNat) = 0 := by
      intro s'
      split
      · rfl
      · rename_i h
        have := no_king H K h
        unfold kingF; rw [if_neg (fun h => this h.1)]
    rw [hz]
    have he : ∀ s', kingF s' k s m.fr.toNat = kingF s' be s m.to_.toNat := by
      intro s'
      unfold kingF
      by_cases h6 : k = 6
      · rw [h6, b2.2 h6]
      · rw [if_neg (fun h => h6 h.1), if_neg (fun h => h6 (b2.1 h.1))]
    rw [he]; omega
  show otherOf p.turn = 0 ∨ otherOf p.turn = 1
  unfold otherOf; split <;> omega
theorem castle_iff {p : Pos} : castlesB p = true ↔ 0 ≤ p.castle ∧ p.castle ≤ 15 ∧
    (p.castle / 1 % 2 = 1 → standsB p 4 0 7 = true ∧ standsB p 6 0 4 = true) ∧ (p.castle / 2 % 2 = 1 → standsB p 4 0 0 = true ∧ standsB p 6 0 4 = true) ∧
    (p.castle / 4 % 2 = 1 → standsB p 4 1 63 = true ∧ standsB p 6 1 60 = true) ∧ (p.castle / 8 % 2 = 1 → standsB p 4 1 56 = true ∧ standsB p 6 1 60 = true) := by
  have e : ∀ x : Int, (x % 2 == 0) = true ↔ ¬ x % 2 = 1 := by intro x; rw [beq_iff_eq]; omega
  have e0 : castleAt p 0 = ((p.castle / 1 % 2 == 0) || (standsB p 4 0 7 && standsB p 6 0 4)) := rfl
  have e1 : castleAt p 1 = ((p.castle / 2 % 2 == 0) || (standsB p 4 0 0 && standsB p 6 0 4)) := rfl
  have e2 : castleAt p 2 = ((p.castle / 4 % 2 == 0) || (standsB p 4 1 63 && standsB p 6 1 60)) := rfl
  have e3 : castleAt p 3 = ((p.castle / 8 % 2 == 0) || (standsB p 4 1 56 && standsB p 6 1 60)) := rfl
  unfold castlesB
  rw [e0, e1, e2, e3]
  simp only [Bool.and_eq_true, Bool.or_eq_true, decide_eq_true_eq, e]
  constructor
  · rintro ⟨⟨h0, h1⟩, ⟨⟨h2, h3⟩, h4⟩, h5⟩
    exact ⟨h0, h1, fun h => h2.resolve_left (fun c => c h), fun h => h3.resolve_left (fun c => c h), fun h => h4.resolve_left (fun c => c h), fun h => h5.resolve_left (fun c => c h)⟩
  · rintro ⟨h0, h1, h2, h3, h4, h5⟩
    refine ⟨⟨h0, h1⟩, ⟨⟨?_, ?_⟩, ?_⟩, ?_⟩
    · by_cases h : p.castle / 1 % 2 = 1
      · exact .inr (h2 h)
      · exact .inl h
    · by_cases h : p.castle / 2 % 2 = 1
      · exact .inr (h3 h)
      · exact .inl h
    · by_cases h : p.castle / 4 % 2 = 1
      · exact .inr (h4 h)
      · exact .inl h
    · by_cases h : p.castle / 8 % 2 = 1
      · exact .inr (h5 h)
      · exact .inl h
theorem stood_stays {p : Pos} {m : Mv} {k s at_ be : Int} (K : Known p m k s at_ be) (ha : at_ = takesOf p m k) (hb : be = beOf m k) {x y t : Int} (t0 : 0 ≤ t) (hf : t ≠ m.fr) (ht : t ≠ m.to_)
    (he : t = 7 ∨ t = 4 ∨ t = 0 ∨ t = 63 ∨ t = 60 ∨ t = 56) (hr : (rookOf p m k s).2.2 = true → (homeOf s = 4 → 56 ≤ t) ∧ (homeOf s = 60 → t ≤ 7)) (h : standsB p x y t = true) : standsB (stood p m k s) x y t = true := by
  unfold standsB at h ⊢
  rw [stood_kind K ha hb, stood_side K ha hb]
  have f0 := K.f0; have f1 := K.f1; have t0' := K.t0; have t1 := K.t1
  have hat : ¬ ((t.toNat : Nat) : Int) = at_ := by
    rcases K.at0 with h | h | h
    · omega
    · omega
    · have := h.2.2.2.2.2.2.1; omega
  have hR : ∀ q : Int, ((rookOf p m k s).2.2 = true → q = (rookOf p m k s).1 ∨ q = (rookOf p m k s).2.1) → ¬ ((rookOf p m k s).2.2 = true ∧ t.toNat = q.toNat) := by
    rintro q hq ⟨h1, h2⟩
    have hh := home_bd s
    obtain ⟨hl, hg⟩ := hr h1
    obtain ⟨-, hfr, -, h | h⟩ := K.rook h1
    · have := hq h1; rw [h.2.1] at this; dsimp only at this; omega
    · have := hq h1; rw [h.2.1] at this; dsimp only at this; omega
  rw [if_neg (hR _ (fun _ => .inr rfl)), if_neg (hR _ (fun _ => .inl rfl)), if_neg (show ¬ t.toNat = m.to_.toNat by omega), if_neg (show ¬ t.toNat = m.fr.toNat by omega), if_neg hat,
    if_neg (hR _ (fun _ => .inr rfl)), if_neg (hR _ (fun _ => .inl rfl)), if_neg (show ¬ t.toNat = m.to_.toNat by omega), if_neg (show ¬ t.toNat = m.fr.toNat by omega), if_neg hat]
  exact h
theorem lost_no (s : Int) : (lostOf s / 1 % 2 = 0 → s ≠ 4 ∧ s ≠ 7) ∧ (lostOf s / 2 % 2 = 0 → s ≠ 4 ∧ s ≠ 0) ∧ (lostOf s / 4 % 2 = 0 → s ≠ 60 ∧ s ≠ 63) ∧ (lostOf s / 8 % 2 = 0 → s ≠ 60 ∧ s ≠ 56) := by
  refine ⟨?_, ?_, ?_, ?_⟩ <;> intro h <;> constructor <;> rintro rfl <;> revert h <;> decide
theorem made_castles {p : Pos} {m : Mv} {k s at_ be : Int} (H : Parts p) (K : Known p m k s at_ be) (ha : at_ = takesOf p m k) (hb : be = beOf m k) : castlesB (madeP p m k s) = true := by
  obtain ⟨c0, c1, w0, w1, w2, w3⟩ := castle_iff.1 H.castles
  obtain ⟨l0, l1, hl⟩ := lost_two m.fr m.to_
  obtain ⟨n0, n1, hn⟩ := not_at c0 c1 l0 l1
  have lf := lost_no m.fr
  have lt := lost_no m.to_
  have hR : ∀ t : Int, ((t = 7 ∨ t = 4 ∨ t = 0) → m.fr ≠ 4) → ((t = 63 ∨ t = 60 ∨ t = 56) → m.fr ≠ 60) → (t = 7 ∨ t = 4 ∨ t = 0 ∨ t = 63 ∨ t = 60 ∨ t = 56) →
      (rookOf p m k s).2.2 = true → (homeOf s = 4 → 56 ≤ t) ∧ (homeOf s = 60 → t ≤ 7) := by
    intro t h1 h2 h3 hr
    obtain ⟨-, hfr, -, -⟩ := K.rook hr
    constructor <;> intro hh <;> rw [hh] at hfr
    · rcases h3 with h | h | h | h | h | h <;> first | omega | exact absurd hfr (h1 (by omega))
    · rcases h3 with h | h | h | h | h | h <;> first | omega | exact absurd hfr (h2 (by omega))
  have go : ∀ (x y t : Int), (t = 7 ∨ t = 4 ∨ t = 0 ∨ t = 63 ∨ t = 60 ∨ t = 56) → t ≠ m.fr → t ≠ m.to_ → ((t = 7 ∨ t = 4 ∨ t = 0) → m.fr ≠ 4) → ((t = 63 ∨ t = 60 ∨ t = 56) → m.fr ≠ 60) → standsB p x y t = true → standsB (madeP p m k s) x y t = true := by
    intro x y t h3 hf ht h1 h2 h
    exact stood_stays K ha hb (by omega) hf ht h3 (hR t h1 h2 h3) h
  rw [castle_iff]
  show 0 ≤ notI p.castle (lostL [m.fr, m.to_]) ∧ notI p.castle (lostL [m.fr, m.to_]) ≤ 15 ∧ (notI p.castle (lostL [m.fr, m.to_]) / 1 % 2 = 1 → _) ∧ (notI p.castle (lostL [m.fr, m.to_]) / 2 % 2 = 1 → _) ∧ (notI p.castle (lostL [m.fr, m.to_]) / 4 % 2 = 1 → _) ∧ (notI p.castle (lostL [m.fr, m.to_]) / 8 % 2 = 1 → _)
  refine ⟨n0, n1, fun h => ?_, fun h => ?_, fun h => ?_, fun h => ?_⟩
  · obtain ⟨q1, q2⟩ := hn 1 (by simp) h
    obtain ⟨q3, q4⟩ := hl 1 (by simp) q2
    have a := lf.1 q3; have b := lt.1 q4; have c := w0 q1
    exact ⟨go _ _ _ (by omega) (by omega) (by omega) (by omega) (by omega) c.1, go _ _ _ (by omega) (by omega) (by omega) (by omega) (by omega) c.2⟩
  · obtain ⟨q1, q2⟩ := hn 2 (by simp) h
    obtain ⟨q3, q4⟩ := hl 2 (by simp) q2
    have a := lf.2.1 q3; have b := lt.2.1 q4; have c := w1 q1
    exact ⟨go _ _ _ (by omega) (by omega) (by omega) (by omega) (by omega) c.1, go _ _ _ (by omega) (by omega) (by omega) (by omega) (by omega) c.2⟩
  · obtain ⟨q1, q2⟩ := hn 4 (by simp) h
    obtain ⟨q3, q4⟩ := hl 4 (by simp) q2
    have a := lf.2.2.1 q3; have b := lt.2.2.1 q4; have c := w2 q1
    exact ⟨go _ _ _ (by omega) (by omega) (by omega) (by omega) (by omega) c.1, go _ _ _ (by omega) (by omega) (by omega) (by omega) (by omega) c.2⟩
  · obtain ⟨q1, q2⟩ := hn 8 (by simp) h
    obtain ⟨q3, q4⟩ := hl 8 (by simp) q2
    have a := lf.2.2.2 q3; have b := lt.2.2.2 q4; have c := w3 q1
    exact ⟨go _ _ _ (by omega) (by omega) (by omega) (by omega) (by omega) c.1, go _ _ _ (by omega) (by omega) (by omega) (by omega) (by omega) c.2⟩
theorem step_up {t r : Int} (t0 : 0 ≤ t) (t1 : t < 64) (h0 : 0 ≤ t + 8 * r) (h1 : t + 8 * r < 64) : stepOf t 0 r = t + 8 * r := by
  unfold stepOf onOf
  rw [if_pos (show 0 ≤ t ∧ t < 64 from ⟨t0, t1⟩)]
  unfold numOf
  dsimp only
  rw [if_pos (by omega)]; omega
theorem made_over {p : Pos} {m : Mv} {k s at_ be : Int} (H : Parts p) (K : Known p m k s at_ be) (ha : at_ = takesOf p m k) (hb : be = beOf m k) : overB (madeP p m k s) = true := by
  unfold overB
  rw [Bool.or_eq_true]
  show decide (overOf m k s = -1) = true ∨ _
  cases hl : longB m k s
  · left
    unfold overOf
    rw [hl]; rfl
  · right
    have ho : (madeP p m k s).over = (m.fr + m.to_) / 2 := by
      show overOf m k s = _
      unfold overOf; rw [hl]; rfl
    have htn : (madeP p m k s).turn = otherOf s := by show otherOf p.turn = _; rw [K.turn]
    have hs := K.s0
    have f0 := K.f0; have f1 := K.f1; have t0 := K.t0; have t1 := K.t1
    unfold longB at hl
    rw [decide_eq_true_eq] at hl
    obtain ⟨hk, htu, hrf, hrt⟩ := hl
    have hfile : m.fr % 8 = m.to_ % 8 := by
      unfold turnsOf fileOf at htu
      rw [if_pos ⟨t0, t1⟩, if_pos ⟨f0, f1⟩] at htu; omega
    unfold rankOf at hrf hrt
    rw [if_pos ⟨f0, f1⟩] at hrf
    rw [if_pos ⟨t0, t1⟩] at hrt
    have hat := K.quiet hk hfile
    have hhalf : (madeP p m k s).half = 0 := by
      show halfOf p m k = 0
      unfold halfOf quietB; rw [hk]; simp
    have hbe : be = 1 := by
      rcases K.be0 with h | h
      · rw [h.1, hk]
      · rcases hs with rfl | rfl <;> omega
    have hnr : ¬ (rookOf p m k s).2.2 = true := by
      intro h; have := (K.rook h).1; omega
    have hSK : ∀ i, (madeP p m k s).kind i = if i = m.to_.toNat then be else if i = m.fr.toNat then 0 else if (i : Int) = at_ then 0 else p.kind i := by
      intro i; show (stood p m k s).kind i = _; rw [stood_kind K ha hb, if_neg (fun h => hnr h.1), if_neg (fun h => hnr h.1)]
    have hSS : ∀ i, (madeP p m k s).side i = if i = m.to_.toNat then s else if i = m.fr.toNat then 0 else if (i : Int) = at_ then 0 else p.side i := by
      intro i; show (stood p m k s).side i = _; rw [stood_side K ha hb, if_neg (fun h => hnr h.1), if_neg (fun h => hnr h.1)]
    have hpw := K.pawn hk
    rw [ho, hhalf]
    unfold overRank overOn
    rw [htn]
    rcases hs with rfl | rfl
    · simp only [show ¬ ((0 : Int) = 1) by decide, if_false] at hrf hrt
      have hmid : m.to_ = m.fr + 16 ∧ bareB p (m.fr + 8) = true := by
        rcases hpw with h | h
        · omega
        · have := h.1; have h3 := h.2.2.1; unfold onOfS at this h3; simp at this h3; exact ⟨by omega, h3⟩
      have hm2 : (m.fr + m.to_) / 2 = m.fr + 8 := by omega
      obtain ⟨q1, q2⟩ := bare_iff.1 hmid.2
      rw [hm2]
      have ex1 : otherOf (0 : Int) = 1 := rfl
      have ex2 : otherOf (1 : Int) = 0 := rfl
      rw [ex1, ex2]
      simp only [if_true, show (- (-1 : Int)) = 1 by decide]
      rw [step_up (by omega) (by omega) (by omega) (by omega), step_up (by omega) (by omega) (by omega) (by omega)]
      unfold rankOf standsB
      rw [if_pos (show 0 ≤ m.fr + 8 ∧ m.fr + 8 < 64 by omega)]
      simp only [hSK, hSS]
      rw [if_neg (show ¬ (m.fr + 8).toNat = m.to_.toNat by omega), if_neg (show ¬ (m.fr + 8).toNat = m.fr.toNat by omega), if_neg (show ¬ (((m.fr + 8).toNat : Nat) : Int) = at_ by omega), q1,
        if_neg (show ¬ (m.fr + 8).toNat = m.to_.toNat by omega), if_neg (show ¬ (m.fr + 8).toNat = m.fr.toNat by omega), if_neg (show ¬ (((m.fr + 8).toNat : Nat) : Int) = at_ by omega), q2,
        if_neg (show ¬ (m.fr + 8 + 8 * -1).toNat = m.to_.toNat by omega), if_pos (show (m.fr + 8 + 8 * -1).toNat = m.fr.toNat by omega),
        if_neg (show ¬ (m.fr + 8 + 8 * -1).toNat = m.to_.toNat by omega), if_pos (show (m.fr + 8 + 8 * -1).toNat = m.fr.toNat by omega),
        if_pos (show (m.fr + 8 + 8 * 1).toNat = m.to_.toNat by omega), if_pos (show (m.fr + 8 + 8 * 1).toNat = m.to_.toNat by omega), hbe]
      have : (m.fr + 8) / 8 = 2 := by omega
      rw [this]; rfl
    · simp only [if_true] at hrf hrt
      have hmid : m.to_ = m.fr - 16 ∧ bareB p (m.fr - 8) = true := by
        rcases hpw with h | h
        · omega
        · have := h.1; have h3 := h.2.2.1; unfold onOfS at this h3; simp at this h3; exact ⟨by omega, by rw [show m.fr - 8 = m.fr + -8 by omega]; exact h3⟩
      have hm2 : (m.fr + m.to_) / 2 = m.fr - 8 := by omega
      obtain ⟨q1, q2⟩ := bare_iff.1 hmid.2
      rw [hm2]
      have ex1 : otherOf (0 : Int) = 1 := rfl
      have ex2 : otherOf (1 : Int) = 0 := rfl
      rw [ex2, ex1]
      simp only [show ¬ ((0 : Int) = 1) by decide, if_false]
      rw [step_up (by omega) (by omega) (by omega) (by omega), step_up (by omega) (by omega) (by omega) (by omega)]
      unfold rankOf standsB
      rw [if_pos (show 0 ≤ m.fr - 8 ∧ m.fr - 8 < 64 by omega)]
      simp only [hSK, hSS]
      rw [if_neg (show ¬ (m.fr - 8).toNat = m.to_.toNat by omega), if_neg (show ¬ (m.fr - 8).toNat = m.fr.toNat by omega), if_neg (show ¬ (((m.fr - 8).toNat : Nat) : Int) = at_ by omega), q1,
        if_neg (show ¬ (m.fr - 8).toNat = m.to_.toNat by omega), if_neg (show ¬ (m.fr - 8).toNat = m.fr.toNat by omega), if_neg (show ¬ (((m.fr - 8).toNat : Nat) : Int) = at_ by omega), q2,
        if_neg (show ¬ (m.fr - 8 + 8 * 1).toNat = m.to_.toNat by omega), if_pos (show (m.fr - 8 + 8 * 1).toNat = m.fr.toNat by omega),
        if_neg (show ¬ (m.fr - 8 + 8 * 1).toNat = m.to_.toNat by omega), if_pos (show (m.fr - 8 + 8 * 1).toNat = m.fr.toNat by omega),
        if_pos (show (m.fr - 8 + 8 * -1).toNat = m.to_.toNat by omega), if_pos (show (m.fr - 8 + 8 * -1).toNat = m.to_.toNat by omega), hbe]
      have : (m.fr - 8) / 8 = 5 := by omega
      rw [this]; rfl
theorem legal_keeps {p : Pos} {m : Mv} (hp : positionB p = true) (hm : m ∈ legalL p) : positionB (movedP p m) = true := by
  have H := parts_iff.1 hp
  obtain ⟨hA, hE, hC⟩ := legal_parts hm
  have K := known H.over hA hE
  rw [parts_iff]
  have hs := K.s0
  have e := moved_eq H hE
  have htn : (madeP p m (p.kind m.fr.toNat) (p.side m.fr.toNat)).turn = otherOf p.turn := rfl
  have h0 := H.h0; have h1 := H.h1; have l0 := H.l0; have l1 := H.l1
  have hsafe : checkB (movedP p m) (otherOf (movedP p m).turn) = false := by
    rw [e, htn, ← e, other_other (by rw [K.turn]; exact hs)]; exact hC
  rw [e] at hsafe ⊢
  have hhalf : 0 ≤ halfOf p m (p.kind m.fr.toNat) ∧ halfOf p m (p.kind m.fr.toNat) ≤ 1024 := by
    unfold halfOf
    split
    · rw [upTo_bd (by omega) (by omega) h0 (by omega)]; split <;> omega
    · omega
  have hfull : 1 ≤ fullOf p ∧ fullOf p ≤ 16384 := by
    unfold fullOf
    split
    · rw [upTo_bd (by omega) (by omega) (by omega) (by omega)]; split <;> omega
    · omega
  exact ⟨made_pieces H K rfl rfl, made_castles H K rfl rfl, made_over H K rfl rfl, hhalf.1, hhalf.2, hfull.1, hfull.2, hsafe⟩
end Go.Proofs.YtdmgimfgoajmjaaGreatDoor
namespace Go.Proofs.YtdmgimfgoajmjaaGreatDoor
open Go.RowKit
theorem rIs8_any (s : Int) (w : World) : Calls Tryz.prog 116 #[.int .i64 s] w (Ret (.bool (isSq s)) w) := by
  go_enter Tryz.func116, Tryz.ntmps116
  go_wp2
  all_goals (go_ret; exact Ret.mk' (vbool (by rw [Bool.eq_iff_iff]; simp [isSq]; omega)) (Ext.auto))
theorem rLost_any (s : Int) (w : World) : Calls Tryz.prog 122 #[.int .i64 s] w (Ret (.int .i64 (lostOf s)) w) := by
  have HE := hid (show lostOf s = (if s = 4 then 3 else if s = 7 then 1 else if s = 0 then 2 else if s = 60 then 12 else if s = 63 then 4 else if s = 56 then 8 else 0) from rfl)
  go_enter Tryz.func122, Tryz.ntmps122
  go_wp2
  all_goals (go_ret; exact Ret.mk' (vint (by rw [HE.out]; go_light; simp_all)) (Ext.auto))
theorem rCas8_any (p : Pos) (w : World) (h0 : 0 ≤ p.castle) (h1 : p.castle ≤ 15) : Calls Tryz.prog 121 #[.agg (posCells p)] w (Ret (.int .i64 p.castle) w) := by
  go_enter Tryz.func121, Tryz.ntmps121
  go_wp2
  go_ret; exact Ret.mk' rfl (Ext.auto)
set_option maxRecDepth 100000 in
theorem rLong_any (m : Mv) (k s : Int) (w : World) (f0 : 0 ≤ m.fr) (f1 : m.fr < 64) (t0 : 0 ≤ m.to_) (t1 : m.to_ < 64) (hs : s = 0 ∨ s = 1) :
    Calls Tryz.prog 123 #[.agg #[.int .i64 k, .int .i64 s], .agg #[.int .i64 m.fr, .int .i64 m.to_, .int .i64 m.be]] w (Ret (.bool (longB m k s)) w) := by
  have h1 : m.fr.tmod 8 = m.fr % 8 := by rw [Int.tmod_eq_emod_of_nonneg f0]
  have h2 : m.to_.tmod 8 = m.to_ % 8 := by rw [Int.tmod_eq_emod_of_nonneg t0]
  have h3 : m.fr.tdiv 8 = m.fr / 8 := by rw [Int.tdiv_eq_ediv_of_nonneg f0]
  have h4 : m.to_.tdiv 8 = m.to_ / 8 := by rw [Int.tdiv_eq_ediv_of_nonneg t0]
  have g1 : fileOf m.fr = m.fr % 8 := if_pos ⟨f0, f1⟩
  have g2 : fileOf m.to_ = m.to_ % 8 := if_pos ⟨t0, t1⟩
  have g3 : rankOf m.fr = m.fr / 8 := if_pos ⟨f0, f1⟩
  have g4 : rankOf m.to_ = m.to_ / 8 := if_pos ⟨t0, t1⟩
  have HE := hid (show ∀ k s, longB m k s = decide (k = 1 ∧ m.fr % 8 = m.to_ % 8 ∧ m.fr / 8 = (if s = 1 then 6 else 1) ∧ m.to_ / 8 = (if s = 1 then 4 else 3)) by
    intro k s
    unfold longB turnsOf
    rw [g1, g2, g3, g4]
    congr 1
    rw [eq_iff_iff]
    constructor
    · rintro ⟨a, b, c, d⟩; exact ⟨a, by omega, c, d⟩
    · rintro ⟨a, b, c, d⟩; exact ⟨a, by omega, c, d⟩)
  clear g1 g2 g3 g4
  rcases hs with rfl | rfl
  · go_enter Tryz.func123, Tryz.ntmps123
    go_wp2
    all_goals (go_ret; exact Ret.mk' (vbool (by rw [HE.out]; go_light; rw [Bool.eq_iff_iff]; simp at *; omega)) (Ext.auto))
  · go_enter Tryz.func123, Tryz.ntmps123
    go_wp2
    all_goals (go_ret; exact Ret.mk' (vbool (by rw [HE.out]; go_light; rw [Bool.eq_iff_iff]; simp at *; omega)) (Ext.auto))
def overC (p : Pos) (m : Mv) : Bool := p.kind m.fr.toNat == 1 && m.fr % 8 != m.to_ % 8 && m.to_ == p.over && bareB p m.to_
set_option maxRecDepth 100000 in
set_option maxHeartbeats 2000000 in
theorem rOver8_any (p : Pos) (m : Mv) (w : World) (f0 : 0 ≤ m.fr) (f1 : m.fr < 64) (t0 : 0 ≤ m.to_) (t1 : m.to_ < 64) :
    Calls Tryz.prog 166 #[.agg (posCells p), .agg #[.int .i64 m.fr, .int .i64 m.to_, .int .i64 m.be]] w (Ret (.bool (overC p m)) w) := by
  have h1 : m.fr.tmod 8 = m.fr % 8 := by rw [Int.tmod_eq_emod_of_nonneg f0]
  have h2 : m.to_.tmod 8 = m.to_ % 8 := by rw [Int.tmod_eq_emod_of_nonneg t0]
  have f2 : m.fr.toNat < 64 := by omega
  have t2 : m.to_.toNat < 64 := by omega
  have HE := hid (show overC p m = (p.kind m.fr.toNat == 1 && m.fr % 8 != m.to_ % 8 && m.to_ == p.over && (p.kind m.to_.toNat == 0 && p.side m.to_.toNat == 0)) from rfl)
  cases e1 : (p.kind m.fr.toNat == 1)
  · rw [e1] at HE
    go_enter Tryz.func166, Tryz.ntmps166
    go_wp2
    all_goals (go_ret; exact Ret.mk' (vbool (by rw [HE.out]; rfl)) (Ext.auto))
  · cases e2 : (m.fr % 8 != m.to_ % 8)
    · rw [e1, e2] at HE
      go_enter Tryz.func166, Tryz.ntmps166
      go_wp2
      all_goals (go_ret; exact Ret.mk' (vbool (by rw [HE.out]; rfl)) (Ext.auto))
    · cases e3 : (m.to_ == p.over)
      · rw [e1, e2, e3] at HE
        go_enter Tryz.func166, Tryz.ntmps166
        go_wp2
        all_goals (go_ret; exact Ret.mk' (vbool (by rw [HE.out]; rfl)) (Ext.auto))
      · rw [e1, e2, e3] at HE
        have HO := hid (show m.to_ = p.over by simpa using e3)
        go_enter Tryz.func166, Tryz.ntmps166
        go_wp2
        all_goals (go_ret; exact Ret.mk' (vbool (by rw [HE.out]; simp_all)) (Ext.auto))
structure CanAt (p : Pos) (m : Mv) : Prop where
  f0 : 0 ≤ m.fr
  f1 : m.fr < 64
  t0 : 0 ≤ m.to_
  t1 : m.to_ < 64
  ne : m.fr ≠ m.to_
  k0 : 1 ≤ p.kind m.fr.toNat
  k1 : p.kind m.fr.toNat ≤ 6
  st : p.side m.fr.toNat = p.turn
  s0 : p.turn = 0 ∨ p.turn = 1
  be : (p.kind m.fr.toNat = 1 ∧ m.to_ / 8 = 7 * (1 - p.turn) ∧ 2 ≤ m.be ∧ m.be ≤ 5) ∨ (¬ (p.kind m.fr.toNat = 1 ∧ m.to_ / 8 = 7 * (1 - p.turn)) ∧ m.be = 0)
theorem can_at {p : Pos} {m : Mv} (h : takenE p m = 0) : CanAt p m := by
  unfold takenE at h
  split at h
  · rename_i hr
    split at h
    · rename_i hc
      unfold rangeB at hr
      rw [decide_eq_true_eq] at hr
      obtain ⟨f0, f1, t0, t1, ne⟩ := hr
      have hk : rankOf m.to_ = m.to_ / 8 := if_pos ⟨t0, t1⟩
      simp only [canB, canOf, decide_eq_true_eq, hk] at hc
      obtain ⟨k0, k1, st, s0, be⟩ := hc
      rw [st] at s0 be
      exact ⟨f0, f1, t0, t1, ne, k0, k1, st, s0, be⟩
    · cases h
  · cases h
set_option maxRecDepth 100000 in
set_option maxHeartbeats 2000000 in
theorem rCan_any (p : Pos) (m : Mv) (w : World) (h : takenE p m = 0) :
    Calls Tryz.prog 117 #[.agg (posCells p), .agg #[.int .i64 m.fr, .int .i64 m.to_, .int .i64 m.be]] w (Ret (.bool true) w) := by
  have H := can_at h
  obtain ⟨f0, f1, t0, t1, ne, k0, k1, st, s0, be⟩ := H
  have h4 : m.to_.tdiv 8 = m.to_ / 8 := by rw [Int.tdiv_eq_ediv_of_nonneg t0]
  have f2 : m.fr.toNat < 64 := by omega
  have hm : mayB (p.kind m.fr.toNat) (p.side m.fr.toNat) = true := by simp [mayB, k0, k1, st, s0]
  clear h
  rcases s0 with e | e
  · rw [e] at st be
    rw [st] at hm
    rcases be with ⟨b1, b2, b3, b4⟩ | ⟨b1, b2⟩
    · have b2 : m.to_ / 8 = 7 := by omega
      rw [b1] at hm k0 k1
      go_enter Tryz.func117, Tryz.ntmps117
      go_wp2_with (first | (go_at_call 165; (with_reducible refine (rMay_any _ _ _).mono ?_); rintro e w1 ⟨rfl, hx⟩; obtain ⟨hxc, hxf, hxb, hxs⟩ := hx.all; (try simp only [World.size_alloc, size_set, size_drew] at hxc hxf hxb hxs); (first | (have h4 := lt4 w.heap.size w1.heap.size (by omega)); (obtain ⟨_, _, _, _⟩ := h4) | (have h4 := lt3 w.heap.size w1.heap.size (by omega)); (obtain ⟨_, _, _⟩ := h4) | (have h4 := lt2 w.heap.size w1.heap.size (by omega)); (obtain ⟨_, _⟩ := h4) | have := lt1 w.heap.size w1.heap.size (by omega) | skip)))
      all_goals (go_ret; exact Ret.mk' rfl (Ext.auto))
    · by_cases b3 : p.kind m.fr.toNat = 1
      · have b5 : (m.to_ / 8 == 7) = false := by simp; omega
        rw [b3] at hm k0 k1
        clear b1
        go_enter Tryz.func117, Tryz.ntmps117
        go_wp2_with (first | (go_at_call 165; (with_reducible refine (rMay_any _ _ _).mono ?_); rintro e w1 ⟨rfl, hx⟩; obtain ⟨hxc, hxf, hxb, hxs⟩ := hx.all; (try simp only [World.size_alloc, size_set, size_drew] at hxc hxf hxb hxs); (first | (have h4 := lt4 w.heap.size w1.heap.size (by omega)); (obtain ⟨_, _, _, _⟩ := h4) | (have h4 := lt3 w.heap.size w1.heap.size (by omega)); (obtain ⟨_, _, _⟩ := h4) | (have h4 := lt2 w.heap.size w1.heap.size (by omega)); (obtain ⟨_, _⟩ := h4) | have := lt1 w.heap.size w1.heap.size (by omega) | skip)))
        all_goals (go_ret; exact Ret.mk' rfl (Ext.auto))
      · have b5 : (p.kind m.fr.toNat == 1) = false := by simpa using b3
        clear b1 b3
        go_enter Tryz.func117, Tryz.ntmps117
        go_wp2_with (first | (go_at_call 165; (with_reducible refine (rMay_any _ _ _).mono ?_); rintro e w1 ⟨rfl, hx⟩; obtain ⟨hxc, hxf, hxb, hxs⟩ := hx.all; (try simp only [World.size_alloc, size_set, size_drew] at hxc hxf hxb hxs); (first | (have h4 := lt4 w.heap.size w1.heap.size (by omega)); (obtain ⟨_, _, _, _⟩ := h4) | (have h4 := lt3 w.heap.size w1.heap.size (by omega)); (obtain ⟨_, _, _⟩ := h4) | (have h4 := lt2 w.heap.size w1.heap.size (by omega)); (obtain ⟨_, _⟩ := h4) | have := lt1 w.heap.size w1.heap.size (by omega) | skip)))
        all_goals (go_ret; exact Ret.mk' rfl (Ext.auto))
  · rw [e] at st be
    rw [st] at hm
    rcases be with ⟨b1, b2, b3, b4⟩ | ⟨b1, b2⟩
    · have b2 : m.to_ / 8 = 0 := by omega
      rw [b1] at hm k0 k1
      go_enter Tryz.func117, Tryz.ntmps117
      go_wp2_with (first | (go_at_call 165; (with_reducible refine (rMay_any _ _ _).mono ?_); rintro e w1 ⟨rfl, hx⟩; obtain ⟨hxc, hxf, hxb, hxs⟩ := hx.all; (try simp only [World.size_alloc, size_set, size_drew] at hxc hxf hxb hxs); (first | (have h4 := lt4 w.heap.size w1.heap.size (by omega)); (obtain ⟨_, _, _, _⟩ := h4) | (have h4 := lt3 w.heap.size w1.heap.size (by omega)); (obtain ⟨_, _, _⟩ := h4) | (have h4 := lt2 w.heap.size w1.heap.size (by omega)); (obtain ⟨_, _⟩ := h4) | have := lt1 w.heap.size w1.heap.size (by omega) | skip)))
      all_goals (go_ret; exact Ret.mk' rfl (Ext.auto))
    · by_cases b3 : p.kind m.fr.toNat = 1
      · have b5 : (m.to_ / 8 == 0) = false := by simp; omega
        rw [b3] at hm k0 k1
        clear b1
        go_enter Tryz.func117, Tryz.ntmps117
        go_wp2_with (first | (go_at_call 165; (with_reducible refine (rMay_any _ _ _).mono ?_); rintro e w1 ⟨rfl, hx⟩; obtain ⟨hxc, hxf, hxb, hxs⟩ := hx.all; (try simp only [World.size_alloc, size_set, size_drew] at hxc hxf hxb hxs); (first | (have h4 := lt4 w.heap.size w1.heap.size (by omega)); (obtain ⟨_, _, _, _⟩ := h4) | (have h4 := lt3 w.heap.size w1.heap.size (by omega)); (obtain ⟨_, _, _⟩ := h4) | (have h4 := lt2 w.heap.size w1.heap.size (by omega)); (obtain ⟨_, _⟩ := h4) | have := lt1 w.heap.size w1.heap.size (by omega) | skip)))
        all_goals (go_ret; exact Ret.mk' rfl (Ext.auto))
      · have b5 : (p.kind m.fr.toNat == 1) = false := by simpa using b3
        clear b1 b3
        go_enter Tryz.func117, Tryz.ntmps117
        go_wp2_with (first | (go_at_call 165; (with_reducible refine (rMay_any _ _ _).mono ?_); rintro e w1 ⟨rfl, hx⟩; obtain ⟨hxc, hxf, hxb, hxs⟩ := hx.all; (try simp only [World.size_alloc, size_set, size_drew] at hxc hxf hxb hxs); (first | (have h4 := lt4 w.heap.size w1.heap.size (by omega)); (obtain ⟨_, _, _, _⟩ := h4) | (have h4 := lt3 w.heap.size w1.heap.size (by omega)); (obtain ⟨_, _, _⟩ := h4) | (have h4 := lt2 w.heap.size w1.heap.size (by omega)); (obtain ⟨_, _⟩ := h4) | have := lt1 w.heap.size w1.heap.size (by omega) | skip)))
        all_goals (go_ret; exact Ret.mk' rfl (Ext.auto))
end Go.Proofs.YtdmgimfgoajmjaaGreatDoor
namespace Go.Proofs.YtdmgimfgoajmjaaGreatDoor
open Go.RowKit
set_option maxRecDepth 100000 in
theorem rBare_any (p : Pos) (s : Int) (w : World) : Calls Tryz.prog 214 #[.agg (posCells p), .int .i64 s] w (Ret (.bool (freeAt p s)) w) := by
  by_cases h : 0 ≤ s ∧ s < 64
  · obtain ⟨h0, h1⟩ := h
    have h2 : s.toNat < 64 := by omega
    have HE := hid (show freeAt p s = (p.kind s.toNat == 0 && p.side s.toNat == 0) by simp [freeAt, isSq, h0, h1, bareB])
    go_enter Tryz.func214, Tryz.ntmps214
    go_wp2
    all_goals (go_ret; exact Ret.mk' (vbool (by rw [HE.out]; (try simp_all))) (Ext.auto))
  · have HE := hid (show freeAt p s = false by simp [freeAt, isSq, h])
    by_cases h0 : 0 ≤ s
    · have h1 : ¬ s < 64 := fun h1 => h ⟨h0, h1⟩
      clear h
      go_enter Tryz.func214, Tryz.ntmps214
      go_wp2
      all_goals (go_ret; exact Ret.mk' (vbool (by rw [HE.out])) (Ext.auto))
    · clear h
      go_enter Tryz.func214, Tryz.ntmps214
      go_wp2
      all_goals (go_ret; exact Ret.mk' (vbool (by rw [HE.out])) (Ext.auto))
end Go.Proofs.YtdmgimfgoajmjaaGreatDoor
