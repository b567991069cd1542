/- A position and a move in it: its row of cells. -/
import Derived.Test.YtdmgimfgoajmjaaGreatDoorC03
import Derived.Test.YtdmgimfgoajmjaaGreatDoorC07
set_option linter.unusedVariables false
set_option linter.unusedSimpArgs false
namespace Go.Proofs.YtdmgimfgoajmjaaGreatDoor
open Go.RowKit
structure Mv where
 fr : Int
 to_ : Int
 be : Int
 deriving DecidableEq
def mvC (m : Mv) : Array Value := #[.int .i64 m.fr, .int .i64 m.to_, .int .i64 m.be]
def Pos.put (p : Pos) (s k sd : Int) : Pos := { p with kind := fun i => if i = s.toNat then k else p.kind i, side := fun i => if i = s.toNat then sd else p.side i }
def handCell (p : Pos) (m : Mv) (k s : Int) (i : Nat) : Value :=
 if i < 133 then posCell p i else if i = 133 then .int .i64 m.fr else if i = 134 then .int .i64 m.to_ else if i = 135 then .int .i64 m.be else if i = 136 then .int .i64 k else .int .i64 s
def handCells (p : Pos) (m : Mv) (k s : Int) : Array Value := Array.ofFn (n := 138) fun i => handCell p m k s i.val
@[go_sem] theorem handCells_size (p : Pos) (m : Mv) (k s : Int) : (handCells p m k s).size = 138 := by simp [handCells]
theorem handCells_get (p : Pos) (m : Mv) (k s : Int) (i : Nat) (h : i < 138) : (handCells p m k s)[i]? = some (handCell p m k s i) := by simp [handCells, h]
attribute [irreducible] handCells
@[go_sem high] theorem handCells_kind (p : Pos) (m : Mv) (k s : Int) (i : Nat) (h : i < 64) : (handCells p m k s)[i * 2]? = some (.int .i64 (p.kind i)) := by
  rw [handCells_get _ _ _ _ _ (by omega)]; simp [handCell, posCell, show i * 2 < 133 by omega]; omega
@[go_sem high] theorem handCells_side (p : Pos) (m : Mv) (k s : Int) (i : Nat) (h : i < 64) : (handCells p m k s)[i * 2 + 1]? = some (.int .i64 (p.side i)) := by
  rw [handCells_get _ _ _ _ _ (by omega)]; simp [handCell, posCell, show i * 2 + 1 < 133 by omega, show i * 2 + 1 < 128 by omega, show (i*2+1)/2 = i by omega]
@[go_sem high] theorem handCells_turn (p : Pos) (m : Mv) (k s : Int) : (handCells p m k s)[128]? = some (.int .i64 p.turn) := by rw [handCells_get _ _ _ _ _ (by omega)]; rfl
@[go_sem high] theorem handCells_castle (p : Pos) (m : Mv) (k s : Int) : (handCells p m k s)[129]? = some (.int .i64 p.castle) := by rw [handCells_get _ _ _ _ _ (by omega)]; rfl
@[go_sem high] theorem handCells_over (p : Pos) (m : Mv) (k s : Int) : (handCells p m k s)[130]? = some (.int .i64 p.over) := by rw [handCells_get _ _ _ _ _ (by omega)]; rfl
@[go_sem high] theorem handCells_half (p : Pos) (m : Mv) (k s : Int) : (handCells p m k s)[131]? = some (.int .i64 p.half) := by rw [handCells_get _ _ _ _ _ (by omega)]; rfl
@[go_sem high] theorem handCells_full (p : Pos) (m : Mv) (k s : Int) : (handCells p m k s)[132]? = some (.int .i64 p.full) := by rw [handCells_get _ _ _ _ _ (by omega)]; rfl
@[go_sem high] theorem handCells_fr (p : Pos) (m : Mv) (k s : Int) : (handCells p m k s)[133]? = some (.int .i64 m.fr) := by rw [handCells_get _ _ _ _ _ (by omega)]; rfl
@[go_sem high] theorem handCells_to (p : Pos) (m : Mv) (k s : Int) : (handCells p m k s)[134]? = some (.int .i64 m.to_) := by rw [handCells_get _ _ _ _ _ (by omega)]; rfl
@[go_sem high] theorem handCells_be (p : Pos) (m : Mv) (k s : Int) : (handCells p m k s)[135]? = some (.int .i64 m.be) := by rw [handCells_get _ _ _ _ _ (by omega)]; rfl
@[go_sem high] theorem handCells_pk (p : Pos) (m : Mv) (k s : Int) : (handCells p m k s)[136]? = some (.int .i64 k) := by rw [handCells_get _ _ _ _ _ (by omega)]; rfl
@[go_sem high] theorem handCells_ps (p : Pos) (m : Mv) (k s : Int) : (handCells p m k s)[137]? = some (.int .i64 s) := by rw [handCells_get _ _ _ _ _ (by omega)]; rfl
@[go_sem high] theorem handCells_turn' (p : Pos) (m : Mv) (k s : Int) (h : 128 < (handCells p m k s).size) : (handCells p m k s)[128]'h = .int .i64 p.turn := Option.some.inj ((Array.getElem?_eq_getElem h).symm.trans (handCells_turn p m k s))
@[go_sem high] theorem handCells_castle' (p : Pos) (m : Mv) (k s : Int) (h : 129 < (handCells p m k s).size) : (handCells p m k s)[129]'h = .int .i64 p.castle := Option.some.inj ((Array.getElem?_eq_getElem h).symm.trans (handCells_castle p m k s))
@[go_sem high] theorem handCells_over' (p : Pos) (m : Mv) (k s : Int) (h : 130 < (handCells p m k s).size) : (handCells p m k s)[130]'h = .int .i64 p.over := Option.some.inj ((Array.getElem?_eq_getElem h).symm.trans (handCells_over p m k s))
@[go_sem high] theorem handCells_half' (p : Pos) (m : Mv) (k s : Int) (h : 131 < (handCells p m k s).size) : (handCells p m k s)[131]'h = .int .i64 p.half := Option.some.inj ((Array.getElem?_eq_getElem h).symm.trans (handCells_half p m k s))
@[go_sem high] theorem handCells_full' (p : Pos) (m : Mv) (k s : Int) (h : 132 < (handCells p m k s).size) : (handCells p m k s)[132]'h = .int .i64 p.full := Option.some.inj ((Array.getElem?_eq_getElem h).symm.trans (handCells_full p m k s))
@[go_sem high] theorem handCells_fr' (p : Pos) (m : Mv) (k s : Int) (h : 133 < (handCells p m k s).size) : (handCells p m k s)[133]'h = .int .i64 m.fr := Option.some.inj ((Array.getElem?_eq_getElem h).symm.trans (handCells_fr p m k s))
@[go_sem high] theorem handCells_to' (p : Pos) (m : Mv) (k s : Int) (h : 134 < (handCells p m k s).size) : (handCells p m k s)[134]'h = .int .i64 m.to_ := Option.some.inj ((Array.getElem?_eq_getElem h).symm.trans (handCells_to p m k s))
@[go_sem high] theorem handCells_be' (p : Pos) (m : Mv) (k s : Int) (h : 135 < (handCells p m k s).size) : (handCells p m k s)[135]'h = .int .i64 m.be := Option.some.inj ((Array.getElem?_eq_getElem h).symm.trans (handCells_be p m k s))
@[go_sem high] theorem handCells_pk' (p : Pos) (m : Mv) (k s : Int) (h : 136 < (handCells p m k s).size) : (handCells p m k s)[136]'h = .int .i64 k := Option.some.inj ((Array.getElem?_eq_getElem h).symm.trans (handCells_pk p m k s))
@[go_sem high] theorem handCells_ps' (p : Pos) (m : Mv) (k s : Int) (h : 137 < (handCells p m k s).size) : (handCells p m k s)[137]'h = .int .i64 s := Option.some.inj ((Array.getElem?_eq_getElem h).symm.trans (handCells_ps p m k s))
@[go_sem high] theorem handCells_kind' (p : Pos) (m : Mv) (k s : Int) (i : Nat) (hi : i < 64) (h : i * 2 < (handCells p m k s).size) : (handCells p m k s)[i * 2]'h = .int .i64 (p.kind i) := Option.some.inj ((Array.getElem?_eq_getElem h).symm.trans (handCells_kind p m k s i hi))
@[go_sem high] theorem handCells_side' (p : Pos) (m : Mv) (k s : Int) (i : Nat) (hi : i < 64) (h : i * 2 + 1 < (handCells p m k s).size) : (handCells p m k s)[i * 2 + 1]'h = .int .i64 (p.side i) := Option.some.inj ((Array.getElem?_eq_getElem h).symm.trans (handCells_side p m k s i hi))
theorem handCells_eq (p : Pos) (m : Mv) (k s : Int) : handCells p m k s = posCells p ++ (mvC m ++ #[.int .i64 k, .int .i64 s]) := by
 apply Array.ext_getElem?
 intro i
 by_cases h : i < 133
 ·rw [handCells_get _ _ _ _ _ (by omega), Array.getElem?_append_left (by rw [posCells_size]; exact h), posCells_get _ _ h]; simp [handCell, h]
 ·rw [Array.getElem?_append_right (by rw [posCells_size]; omega), posCells_size]
  by_cases h2 : i < 138
  ·rw [handCells_get _ _ _ _ _ h2]
   obtain ⟨j, rfl⟩ : ∃ j, i = 133 + j := ⟨i - 133, by omega⟩
   have hj : j < 5 := by omega
   rcases (by omega : j = 0 ∨ j = 1 ∨ j = 2 ∨ j = 3 ∨ j = 4) with rfl | rfl | rfl | rfl | rfl <;> rfl
  ·rw [Array.getElem?_eq_none (by rw [handCells_size]; omega), Array.getElem?_eq_none (by simp [mvC]; omega)]
@[go_sem, simp] theorem handCells_pos (p : Pos) (m : Mv) (k s : Int) : (handCells p m k s).extract 0 133 = posCells p := by
  rw [handCells_eq, Array.extract_append]
  simp [posCells_size]
theorem handCells_set (p q : Pos) (m : Mv) (k s : Int) (j : Nat) (v : Value) (hj : j < 138) (h : ∀ i, i < 138 → handCell q m k s i = if i = j then v else handCell p m k s i) : (handCells p m k s).setIfInBounds j v = handCells q m k s := by
 apply Array.ext_getElem?
 intro i
 rw [Array.getElem?_setIfInBounds]
 by_cases hi : i < 138
 ·rw [handCells_get _ _ _ _ _ hi, handCells_get _ _ _ _ _ hi, h i hi, handCells_size]
  by_cases e : j = i
  ·subst e; simp [hj]
  ·simp [e, Ne.symm e]
 ·rw [Array.getElem?_eq_none (by rw [handCells_size]; omega), Array.getElem?_eq_none (by rw [handCells_size]; omega)]
  rw [if_neg (by omega)]
@[go_sem] theorem hand_turn (p : Pos) (m : Mv) (k s c : Int) : (handCells p m k s).setIfInBounds 128 (.int .i64 c) = handCells { p with turn := c } m k s :=
  handCells_set _ _ _ _ _ _ _ (by decide) fun i hi => by unfold handCell posCell; (repeat' split) <;> first | rfl | omega
@[go_sem] theorem hand_castle (p : Pos) (m : Mv) (k s c : Int) : (handCells p m k s).setIfInBounds 129 (.int .i64 c) = handCells { p with castle := c } m k s :=
  handCells_set _ _ _ _ _ _ _ (by decide) fun i hi => by unfold handCell posCell; (repeat' split) <;> first | rfl | omega
@[go_sem] theorem hand_over (p : Pos) (m : Mv) (k s c : Int) : (handCells p m k s).setIfInBounds 130 (.int .i64 c) = handCells { p with over := c } m k s :=
  handCells_set _ _ _ _ _ _ _ (by decide) fun i hi => by unfold handCell posCell; (repeat' split) <;> first | rfl | omega
@[go_sem] theorem hand_half (p : Pos) (m : Mv) (k s c : Int) : (handCells p m k s).setIfInBounds 131 (.int .i64 c) = handCells { p with half := c } m k s :=
  handCells_set _ _ _ _ _ _ _ (by decide) fun i hi => by unfold handCell posCell; (repeat' split) <;> first | rfl | omega
@[go_sem] theorem hand_full (p : Pos) (m : Mv) (k s c : Int) : (handCells p m k s).setIfInBounds 132 (.int .i64 c) = handCells { p with full := c } m k s :=
  handCells_set _ _ _ _ _ _ _ (by decide) fun i hi => by unfold handCell posCell; (repeat' split) <;> first | rfl | omega
theorem hand_put (p : Pos) (m : Mv) (k s : Int) (sq a b : Int) (h0 : 0 ≤ sq) (h1 : sq < 64) :
 ((handCells p m k s).setIfInBounds (sq.toNat * 2) (.int .i64 a)).setIfInBounds (sq.toNat * 2 + 1) (.int .i64 b) = handCells (p.put sq a b) m k s := by
 have h2 : sq.toNat < 64 := by omega
 rw [handCells_set p { p with kind := fun i => if i = sq.toNat then a else p.kind i } m k s (sq.toNat * 2) (.int .i64 a) (by omega)
  (fun i hi => by
   unfold handCell posCell
   by_cases e : i = sq.toNat * 2
   ·subst e
    simp [show sq.toNat * 2 < 133 by omega, show sq.toNat * 2 < 128 by omega]
   ·by_cases e2 : i < 128
    ·by_cases e3 : i % 2 = 0
     ·simp [e, e2, e3, show i < 133 by omega, show ¬ (i / 2 = sq.toNat) by omega]
     ·simp [e, e2, e3, show i < 133 by omega]
    ·simp [e, e2])]
 exact handCells_set _ _ m k s (sq.toNat * 2 + 1) (.int .i64 b) (by omega)
  (fun i hi => by
   unfold handCell posCell Pos.put
   by_cases e : i = sq.toNat * 2 + 1
   ·subst e
    simp [show sq.toNat * 2 + 1 < 133 by omega, show sq.toNat * 2 + 1 < 128 by omega, show (sq.toNat * 2 + 1) / 2 = sq.toNat by omega]
   ·by_cases e2 : i < 128
    ·by_cases e3 : i % 2 = 0
     ·simp [e, e2, e3, show i < 133 by omega]
     ·simp [e, e2, e3, show i < 133 by omega, show ¬ (i / 2 = sq.toNat) by omega]
    ·simp [e, e2])
@[go_sem] def buildHand (x y z : Value) (w : World) (dflt : Result Next) : Result Next :=
  match x, y, z with
  | .agg cs, .agg ds, .agg es => if cs.size = 133 ∧ ds.size = 3 ∧ es.size = 2 then .ok (.value (.agg (cs ++ (ds ++ es)))) w else dflt
  | _, _, _ => dflt
theorem size_pos : (Tryz.prog.info? 30).map (·.size) = some 133 := by kernel_rfl
theorem size_mv : (Tryz.prog.info? 51).map (·.size) = some 3 := by kernel_rfl
theorem zero_hand : (Tryz.prog.info? 190).map (·.zero) = some (some (.agg (Array.replicate 138 (.int .i64 0)))) := by kernel_rfl
theorem fold_at (cs z : Array Value) (k : Nat) (h : k + cs.size ≤ z.size) : cs.zipIdx.foldl (fun a (x : Value × Nat) => a.setIfInBounds (k + x.2) x.1) z = (z.toList.take k ++ cs.toList ++ z.toList.drop (k + cs.size)).toArray := by
 have H : ∀ (l : List Value) (j : Nat) (a : Array Value), k + j + l.length ≤ a.size → (l.zipIdx j).foldl (fun a (x : Value × Nat) => a.setIfInBounds (k + x.2) x.1) a = (a.toList.take (k + j) ++ l ++ a.toList.drop (k + j + l.length)).toArray := by
  intro l
  induction l with
  | nil => intro j a _; simp
  | cons x r ih =>
    intro j a hk
    simp only [List.zipIdx_cons, List.foldl_cons]
    rw [ih (j + 1) _ (by simp at hk ⊢; omega)]
    congr 1
    have hk' : k + j < a.toList.length := by simp at hk ⊢; omega
    simp only [Array.toList_setIfInBounds, List.length_cons]
    rw [show k + (j + 1) = k + j + 1 by omega, List.take_succ_eq_append_getElem (by simpa using hk'), List.drop_set_of_lt (by omega)]
    simp [List.take_set_of_le, show k + j + 1 + r.length = k + j + (r.length + 1) by omega]
 have := H cs.toList 0 z (by simpa using h)
 rw [← Array.foldl_toList, Array.toList_zipIdx]
 simpa using this
@[go_sem ↓] theorem build_hand (ρ : Operand → Value) (dst : Option Tmp) (x y z : Operand) (ty : TypeId) (pos : String) (af : Array Edge) (g : Option (Nat × Bool)) (w : World) :
 (execOp ρ ⟨dst, .build 190 #[(0, x), (1, y), (2, z)], ty, pos, af, g⟩).run Tryz.prog w = buildHand (ρ x) (ρ y) (ρ z) w (dfltAny Tryz.prog ρ ⟨dst, .build 190 #[(0, x), (1, y), (2, z)], ty, pos, af, g⟩ w) := by
  unfold buildHand
  split
  ·rename_i cs ds es hx hy hz
   split
   ·rename_i h
    obtain ⟨h1, h2, h3⟩ := h
    have e1 := zero_hand
    cases hq : Tryz.prog.info? 190 with
    | none => simp [hq] at e1
    | some i =>
      have hzz : i.zero = some (.agg (Array.replicate 138 (.int .i64 0))) := by simpa [hq] using e1
      have s1 := size_pos
      have s2 := size_mv
      have s3 := size_piece
      cases hp : Tryz.prog.info? 30 with
      | none => simp [hp] at s1
      | some i1 =>
      cases hm : Tryz.prog.info? 51 with
      | none => simp [hm] at s2
      | some i2 =>
      cases hc : Tryz.prog.info? 26 with
      | none => simp [hc] at s3
      | some i3 =>
        have t1 : i1.size = 133 := by simpa [hp] using s1
        have t2 : i2.size = 3 := by simpa [hm] using s2
        have t3 : i3.size = 2 := by simpa [hc] using s3
        have f1 := fold_at cs (Array.replicate 138 (Value.int .i64 0)) 0 (by simp; omega)
        have f2 := fold_at ds (cs.toList ++ List.replicate 5 (Value.int .i64 0)).toArray 133 (by simp; omega)
        have f3 := fold_at es (cs.toList ++ ds.toList ++ List.replicate 2 (Value.int .i64 0)).toArray 136 (by simp; omega)
        have hu := Tryz.underlying190
        simp only [Nat.zero_add] at f1
        rw [Array.size_zipIdx, h1] at f1
        rw [Array.size_zipIdx, h2] at f2
        rw [Array.size_zipIdx, h3] at f3
        have g1 : (List.take 0 (Array.replicate 138 (Value.int .i64 0)).toList ++ cs.toList ++ List.drop 133 (Array.replicate 138 (Value.int .i64 0)).toList).toArray = (cs.toList ++ List.replicate 5 (Value.int .i64 0)).toArray := by
         simp [List.drop_replicate]
        have g2 : (List.take 133 (cs.toList ++ List.replicate 5 (Value.int .i64 0)).toArray.toList ++ ds.toList ++ List.drop (133 + 3) (cs.toList ++ List.replicate 5 (Value.int .i64 0)).toArray.toList).toArray = (cs.toList ++ ds.toList ++ List.replicate 2 (Value.int .i64 0)).toArray := by
         have hl : cs.toList.length = 133 := by simpa using h1
         rw [List.take_append_of_le_length (by simp; omega), List.take_of_length_le (by omega), List.drop_append, List.drop_of_length_le (by omega)]
         simp [hl, List.drop_replicate]
        have g3 : (List.take 136 (cs.toList ++ ds.toList ++ List.replicate 2 (Value.int .i64 0)).toArray.toList ++ es.toList ++ List.drop (136 + 2) (cs.toList ++ ds.toList ++ List.replicate 2 (Value.int .i64 0)).toArray.toList).toArray = cs ++ (ds ++ es) := by
         have hl : (cs.toList ++ ds.toList).length = 136 := by simp; omega
         rw [List.take_append_of_le_length (by simp; omega), List.take_of_length_le (by omega), List.drop_append, List.drop_of_length_le (by omega)]
         simp [h1, h2, List.drop_replicate]
        rw [g1] at f1
        rw [g2] at f2
        rw [g3] at f3
        have z1 : (cs.toList ++ List.replicate 5 (Value.int .i64 0)).toArray.size = 138 := by simp; omega
        have z2 : (cs.toList ++ ds.toList ++ List.replicate 2 (Value.int .i64 0)).toArray.size = 138 := by simp; omega
        clear g1 g2 g3
        generalize (cs.toList ++ List.replicate 5 (Value.int .i64 0)).toArray = A1 at *
        generalize (cs.toList ++ ds.toList ++ List.replicate 2 (Value.int .i64 0)).toArray = A2 at *
        simp [z1, z2, execOp, Instr.build, zeroValue, typeInfo, hq, hzz, Value.cells, run_underlying hu, sizeOf, hp, hm, hc, t1, t2, t3, Instr.fill, hx, hy, hz, h1, h2, h3, Array.mapM_eq_foldlM, f1, f2, f3]
   ·simp [dfltAny]
  ·simp [dfltAny]
end Go.Proofs.YtdmgimfgoajmjaaGreatDoor
