/- Words for the walks: positions, pieces, moves as values; what a call leaves of the world. -/
import Derived.Test.YtdmgimfgoajmjaaGreatDoorProg
import Derived.WalkKit
import Derived.WalkSpells
import Derived.WalkLawsBesides
import Derived.Deep.Light
import Derived.Deep.RegionHeld3
import Derived.Deep.QuietTactic
import Derived.BigQuiet
import Derived.Maps.RangeWalk
import Derived.StillTail
set_option linter.unusedVariables false
set_option linter.unusedSimpArgs false
namespace Go.Proofs.YtdmgimfgoajmjaaGreatDoor
open Go.RowKit
theorem hid {p : Prop} (h : p) : Hid p := h
def Ext (w w' : World) : Prop := Below w.heap.size w w'
theorem Ext.refl (w : World) : Ext w w := Below.refl _ _
theorem Ext.trans {a b c : World} (h : Ext a b) (k : Ext b c) : Ext a c := Below.trans h (Below.mono k h.size)
theorem Ext.alloc {a w : World} (h : Ext a w) (o : Obj) : Ext a (w.alloc o) := Below.alloc h h.size o
theorem Ext.drew {a w : World} (h : Ext a w) : Ext a w.drew := Below.drew h
theorem Ext.set {a w : World} (h : Ext a w) {p : Addr} (hp : a.heap.size ≤ p.block) (u : Value) : Ext a (w.setCell p u) := Below.setCell h hp u
theorem Ext.cell {W w1 : World} (h : Ext W w1) : ∀ b o, b < W.heap.size → w1.cell? ⟨b, o, none⟩ = W.cell? ⟨b, o, none⟩ := fun b o hb => Below.cell (p := ⟨b, o, none⟩) h hb
theorem Ext.froz {W w1 : World} (h : Ext W w1) : ∀ b o, b < W.heap.size → w1.frozen? ⟨b, o, none⟩ = W.frozen? ⟨b, o, none⟩ := fun b o hb => Below.frozen (p := ⟨b, o, none⟩) h hb
def blk (w : World) (b : Nat) : Option Obj := w.heap[b]?
theorem Ext.blk {W w1 : World} (h : Ext W w1) : ∀ b, b < W.heap.size → blk w1 b = blk W b := fun b hb => Below.block h b hb
@[go_sem] theorem blk_alloc_at (w : World) (o : Obj) (n : Nat) (hn : n = w.heap.size) : blk (w.alloc o) n = some o := by subst hn; exact heap_alloc_new w o
@[go_sem] theorem blk_alloc_past (w : World) (o : Obj) (n : Nat) (hn : n < w.heap.size) : blk (w.alloc o) n = blk w n := by
  show (w.heap.push o)[n]? = w.heap[n]?
  rw [Array.getElem?_push, if_neg (by omega)]
@[go_sem] theorem blk_drew (w : World) (n : Nat) : blk w.drew n = blk w n := rfl
@[go_sem] theorem blk_setCell_past (w : World) (a : Addr) (v : Value) (n : Nat) (h : n ≠ a.block) : blk (w.setCell a v) n = blk w n := heap_setCell_other w a n v h
theorem blk_setCell_same (w : World) (g i : Nat) (cs : Array Value) (t : TypeId) (v : Value) (hg : blk w g = some (.cells cs t (0, 0))) : blk (w.setCell ⟨g, i, none⟩ v) g = some (.cells (cs.setIfInBounds i v) t (0, 0)) := heap_setCell_same w g i cs t v hg
theorem blk_cell {w : World} {b : Nat} {cs : Array Value} {t : TypeId} {fr : Nat × Nat} (h : blk w b = some (.cells cs t fr)) : ∀ o, w.cell? ⟨b, o, none⟩ = cs[o]? := fun o => cell_of_row w b o cs t fr h
theorem blk_froz {w : World} {b : Nat} {cs : Array Value} {t : TypeId} (h : blk w b = some (.cells cs t (0, 0))) : ∀ o, w.frozen? ⟨b, o, none⟩ = false := fun o => frozen_of_row w b o cs t h
theorem held3 {w w' : World} {b : Nat} {cs : Array Value} {t : TypeId} {fr : Nat × Nat} (h : blk w' b = some (.cells cs t fr)) (hx : Ext w w') : blk w' b = some (.cells cs t fr) ∧ (∀ o, w'.cell? ⟨b, o, none⟩ = cs[o]?) ∧ Ext w w' := ⟨h, blk_cell h, hx⟩
theorem blk_lt {w : World} {b : Nat} {o : Obj} (h : blk w b = some o) : b < w.heap.size := (Array.getElem?_eq_some_iff.1 h).1
theorem Ext.le {W w1 : World} (h : Ext W w1) : W.heap.size ≤ w1.heap.size := Below.size h
theorem Ext.lt {W w1 : World} (h : Ext W w1) : ∀ b, b < W.heap.size → b < w1.heap.size := fun b hb => Nat.lt_of_lt_of_le hb (Below.size h)
theorem size_set (w : World) (a : Addr) (v : Value) : (w.setCell a v).heap.size = w.heap.size := by simp [World.setCell]
theorem size_drew (w : World) : w.drew.heap.size = w.heap.size := rfl
theorem Ext.alle {W w1 : World} {o : Obj} (h : Ext (W.alloc o) w1) : W.heap.size + 1 ≤ w1.heap.size := by simpa using Below.size h
theorem held_keep {w W w1 : World} {b : Nat} {cs : Array Value} {t : TypeId} {fr : Nat × Nat} (h : blk W b = some (.cells cs t fr) ∧ (∀ o, W.cell? ⟨b, o, none⟩ = cs[o]?) ∧ Ext w W) (hx : Ext W w1) :
 blk w1 b = some (.cells cs t fr) ∧ (∀ o, w1.cell? ⟨b, o, none⟩ = cs[o]?) ∧ Ext w w1 := held3 ((hx.blk _ (blk_lt h.1)).trans h.1) (h.2.2.trans hx)
theorem Ext.auto {a w : World} (h : Ext a w := by repeat (first | (with_reducible exact Ext.refl _) | (with_reducible assumption) | (with_reducible apply Ext.alloc) | (with_reducible apply Ext.drew) | (with_reducible refine Ext.set ?_ (by first | omega | (simp; done) | (simp; omega)) _) | (with_reducible refine Ext.trans ?_ (by assumption)))) : Ext a w := h
theorem Ext.all {W w1 : World} (h : Ext W w1) : (∀ b o, b < W.heap.size → w1.cell? ⟨b, o, none⟩ = W.cell? ⟨b, o, none⟩) ∧ (∀ b o, b < W.heap.size → w1.frozen? ⟨b, o, none⟩ = W.frozen? ⟨b, o, none⟩) ∧ (∀ b, b < W.heap.size → Go.Proofs.YtdmgimfgoajmjaaGreatDoor.blk w1 b = Go.Proofs.YtdmgimfgoajmjaaGreatDoor.blk W b) ∧ W.heap.size ≤ w1.heap.size := ⟨h.cell, h.froz, h.blk, h.le⟩
theorem lt4 (n m : Nat) (h : n + 3 < m) : n < m ∧ n + 1 < m ∧ n + 2 < m ∧ n + 3 < m := by omega
theorem lt3 (n m : Nat) (h : n + 2 < m) : n < m ∧ n + 1 < m ∧ n + 2 < m := by omega
theorem lt2 (n m : Nat) (h : n + 1 < m) : n < m ∧ n + 1 < m := by omega
theorem lt1 (n m : Nat) (h : n < m) : n < m := h
def Sz (_ _ : Nat) (p : Prop) : Prop := p
theorem Sz.a4 (n m : Nat) (h : n + 3 < m := by omega) : Sz n m (n < m ∧ n + 1 < m ∧ n + 2 < m ∧ n + 3 < m) := lt4 _ _ h
theorem Sz.a3 (n m : Nat) (h : n + 2 < m := by omega) : Sz n m (n < m ∧ n + 1 < m ∧ n + 2 < m) := lt3 _ _ h
theorem Sz.a2 (n m : Nat) (h : n + 1 < m := by omega) : Sz n m (n < m ∧ n + 1 < m) := lt2 _ _ h
theorem Sz.a1 (n m : Nat) (h : n < m := by omega) : Sz n m (n < m) := h
theorem sA (n m : Nat) {p : Prop} (h : Sz n m p := by first | exact Sz.a4 _ _ | exact Sz.a3 _ _ | exact Sz.a2 _ _ | exact Sz.a1 _ _) : p := h
theorem sW (w v : World) {p : Prop} (h : Sz w.heap.size v.heap.size p := by first | exact Sz.a4 _ _ | exact Sz.a3 _ _ | exact Sz.a2 _ _ | exact Sz.a1 _ _) : p := h
theorem Ext.als {W w1 : World} {S : Nat} (h : Ext W w1) (hs : W.heap.size = S := by first | (simp only [World.size_alloc, size_set, size_drew]; done) | (simp only [World.size_alloc, size_set, size_drew]; rfl) | rfl) :
 (∀ b o, b < S → w1.cell? ⟨b, o, none⟩ = W.cell? ⟨b, o, none⟩) ∧ (∀ b o, b < S → w1.frozen? ⟨b, o, none⟩ = W.frozen? ⟨b, o, none⟩) ∧ (∀ b, b < S → Go.Proofs.YtdmgimfgoajmjaaGreatDoor.blk w1 b = Go.Proofs.YtdmgimfgoajmjaaGreatDoor.blk W b) ∧ S ≤ w1.heap.size := by subst hs; exact h.all
def Ret (v : Value) (w : World) (e : Ending) (w' : World) : Prop := e = .returned v ∧ Ext w w'
theorem arm {P : Program} {F : FuncId} {args : Array Value} {v : Value} {W : World} {S : Nat} {R : Ending → World → Prop} (hc : Calls P F args W (Ret v W))
 (k : ∀ w1, Ext W w1 → (∀ b o, b < S → w1.cell? ⟨b, o, none⟩ = W.cell? ⟨b, o, none⟩) → (∀ b o, b < S → w1.frozen? ⟨b, o, none⟩ = W.frozen? ⟨b, o, none⟩) → (∀ b, b < S → blk w1 b = blk W b) → S ≤ w1.heap.size → R (.returned v) w1)
 (hs : W.heap.size = S := by first | (simp only [World.size_alloc, size_set, size_drew]; done) | (simp only [World.size_alloc, size_set, size_drew]; rfl) | rfl) : Calls P F args W R := hc.mono (by rintro e w1 ⟨rfl, hx⟩; obtain ⟨a, b, c, d⟩ := hx.als hs; exact k w1 hx a b c d)
theorem Ret.mk' {v v' : Value} {w w' : World} (h : v' = v) (hx : Ext w w') : Ret v w (.returned v') w' := ⟨by rw [h], hx⟩
theorem vint {k : IntKind} {a b : Int} (h : a = b) : Value.int k a = Value.int k b := by rw [h]
theorem vbool {a b : Bool} (h : a = b) : Value.bool a = Value.bool b := by rw [h]
section
variable {P : Program} {ops : Array Oper} {Q : Exit → Act → World → Prop} {md : Region.Mode}
theorem aTk (i : Nat) {v : Value} {oi : Oper} {fuel : Nat} {listed : Array Bool} {a : Act} {w : World} (h : wpAny P md ops Q fuel (listed.setIfInBounds i true) (a.put oi.dst v) w) (hi : ops[i]? = some oi := by simp only [List.getElem?_toArray, List.getElem?_cons_succ, List.getElem?_cons_zero]; rfl)
 (hy : ∀ w, (execOp a.eval oi).run P w = .ok (.value v) w := by intro w0; go_simp; try with_reducible rfl) (hs : Region.noSelect ops = true := by kernel_rfl) (hf : Region.free md ops listed i = true := by kernel_rfl) (hr : (Region.ready md ops listed).contains i = true := by kernel_rfl)
 (hQ : ∀ c a w, Q (.panic c) (a.put oi.dst v) w → Q (.panic c) a w := by exact fun _ _ _ h => h) (hw : Region.wanted oi (yielded ops a.tmps) = true := by rfl) : wpAny P md ops Q (fuel + 1) listed a w := wpAny_take hi hs hf hr hQ (Or.inl ⟨hw, hy⟩) h
theorem aCo {fuel : Nat} {listed : Array Bool} {a : Act} {w : World} {i : Nat} {o : Oper} {rs : List Nat}
 (h : ∀ K' : Act → World → Prop, (∀ a w, wpAny P md ops Q fuel (listed.setIfInBounds i true) a w → K' a w) → if Region.wanted o (yielded ops a.tmps) = true then Oper.wp P o a w K' Q else K' (a.put o.dst undef) w)
 (hs : AllReady P md ops Q fuel listed a w rs) (ho : ops[i]? = some o := by simp only [List.getElem?_toArray, List.getElem?_cons_succ, List.getElem?_cons_zero]; rfl) : AllReady P md ops Q fuel listed a w (i :: rs) := AllReady.cons ho h hs
theorem aRy (rs : List Nat) {fuel : Nat} {listed : Array Bool} {a : Act} {w : World} (h : AllReady P md ops Q fuel listed a w rs) (hr : Region.ready md ops listed = rs := by kernel_rfl) (hne : rs ≠ [] := by simp) : wpAny P md ops Q (fuel + 1) listed a w := wpAny_ready hr hne h
end
structure Pos where
 kind : Nat → Int
 side : Nat → Int
 turn : Int
 castle : Int
 over : Int
 half : Int
 full : Int
def posCell (p : Pos) (i : Nat) : Value :=
 if i < 128 then (if i % 2 = 0 then .int .i64 (p.kind (i / 2)) else .int .i64 (p.side (i / 2)))
 else if i = 128 then .int .i64 p.turn else if i = 129 then .int .i64 p.castle else if i = 130 then .int .i64 p.over else if i = 131 then .int .i64 p.half else .int .i64 p.full
def posCells (p : Pos) : Array Value := Array.ofFn (n := 133) fun i => posCell p i.val
@[go_sem] theorem posCells_size (p : Pos) : (posCells p).size = 133 := by simp [posCells]
theorem posCells_get (p : Pos) (i : Nat) (h : i < 133) : (posCells p)[i]? = some (posCell p i) := by
 simp [posCells, h]
attribute [irreducible] posCells
@[go_sem high] theorem posCells_kind (p : Pos) (i : Nat) (h : i < 64) : (posCells p)[i * 2]? = some (.int .i64 (p.kind i)) := by
  rw [posCells_get p _ (by omega)]; simp [posCell]; omega
@[go_sem high] theorem posCells_side (p : Pos) (i : Nat) (h : i < 64) : (posCells p)[i * 2 + 1]? = some (.int .i64 (p.side i)) := by
  rw [posCells_get p _ (by omega)]; simp [posCell, show i * 2 + 1 < 128 by omega, show (i*2+1)/2 = i by omega]
@[go_sem high] theorem posCells_turn (p : Pos) : (posCells p)[128]? = some (.int .i64 p.turn) := by
  rw [posCells_get p _ (by omega)]; rfl
@[go_sem high] theorem posCells_castle (p : Pos) : (posCells p)[129]? = some (.int .i64 p.castle) := by
  rw [posCells_get p _ (by omega)]; rfl
@[go_sem high] theorem posCells_over (p : Pos) : (posCells p)[130]? = some (.int .i64 p.over) := by
  rw [posCells_get p _ (by omega)]; rfl
@[go_sem high] theorem posCells_half (p : Pos) : (posCells p)[131]? = some (.int .i64 p.half) := by
  rw [posCells_get p _ (by omega)]; rfl
@[go_sem high] theorem posCells_full (p : Pos) : (posCells p)[132]? = some (.int .i64 p.full) := by
  rw [posCells_get p _ (by omega)]; rfl
@[go_sem high] theorem posCells_turn' (p : Pos) (h : 128 < (posCells p).size) : (posCells p)[128]'h = .int .i64 p.turn := by
  have := posCells_turn p
  rw [Array.getElem?_eq_getElem h] at this
  exact Option.some.inj this
@[go_sem high] theorem posCells_castle' (p : Pos) (h : 129 < (posCells p).size) : (posCells p)[129]'h = .int .i64 p.castle := by
  have := posCells_castle p
  rw [Array.getElem?_eq_getElem h] at this
  exact Option.some.inj this
@[go_sem high] theorem posCells_over' (p : Pos) (h : 130 < (posCells p).size) : (posCells p)[130]'h = .int .i64 p.over := by
  have := posCells_over p
  rw [Array.getElem?_eq_getElem h] at this
  exact Option.some.inj this
@[go_sem high] theorem posCells_half' (p : Pos) (h : 131 < (posCells p).size) : (posCells p)[131]'h = .int .i64 p.half := by
  have := posCells_half p
  rw [Array.getElem?_eq_getElem h] at this
  exact Option.some.inj this
@[go_sem high] theorem posCells_full' (p : Pos) (h : 132 < (posCells p).size) : (posCells p)[132]'h = .int .i64 p.full := by
  have := posCells_full p
  rw [Array.getElem?_eq_getElem h] at this
  exact Option.some.inj this
@[go_sem high] theorem posCells_kind' (p : Pos) (i : Nat) (hi : i < 64) (h : i * 2 < (posCells p).size) : (posCells p)[i * 2]'h = .int .i64 (p.kind i) := by
  have := posCells_kind p i hi
  rw [Array.getElem?_eq_getElem h] at this
  exact Option.some.inj this
@[go_sem high] theorem posCells_side' (p : Pos) (i : Nat) (hi : i < 64) (h : i * 2 + 1 < (posCells p).size) : (posCells p)[i * 2 + 1]'h = .int .i64 (p.side i) := by
  have := posCells_side p i hi
  rw [Array.getElem?_eq_getElem h] at this
  exact Option.some.inj this
end Go.Proofs.YtdmgimfgoajmjaaGreatDoor
namespace Go.Proofs.YtdmgimfgoajmjaaGreatDoor
open Go.RowKit
section
variable {P : Program} {ops : Array Oper} {Q : Exit → Act → World → Prop} {md : Region.Mode} {S : World → Prop}
theorem hTk {i : Nat} {oi : Oper} {v : Value} {fuel : Nat} {listed : Array Bool} {a : Act} {w : World} (hi : ops[i]? = some oi := by simp only [List.getElem?_toArray, List.getElem?_cons_succ, List.getElem?_cons_zero]; rfl)
 (hs : Region.noSelect ops = true := by kernel_rfl) (hf : Region.free md ops listed i = true := by kernel_rfl) (hr : (Region.ready md ops listed).contains i = true := by kernel_rfl)
 (hQ : ∀ c a w, Q (.panic c) (a.put oi.dst v) w → Q (.panic c) a w := by exact fun _ _ _ h => h) (hy : YieldsIf P ops S oi v a) (hS : S w := by assumption)
 (h : wpAnyH P md ops Q S fuel (listed.setIfInBounds i true) (a.put oi.dst v) w) : wpAnyH P md ops Q S (fuel + 1) listed a w := wpAnyH_take hi hs hf hr hQ hy hS h
theorem hCo {fuel : Nat} {listed : Array Bool} {a : Act} {w : World} {i : Nat} {o : Oper} {rs : List Nat} (ho : ops[i]? = some o := by simp only [List.getElem?_toArray, List.getElem?_cons_succ, List.getElem?_cons_zero]; rfl)
 (h : ∀ K' : Act → World → Prop, Shut (∀ a w, S w → (S w → wpAnyH P md ops Q S fuel (listed.setIfInBounds i true) a w) → K' a w) → if Region.wanted o (yielded ops a.tmps) = true then Oper.wp P o a w K' Q else K' (a.put o.dst undef) w)
 (hs : AllReadyH P md ops Q S fuel listed a w rs) : AllReadyH P md ops Q S fuel listed a w (i :: rs) := AllReadyH.cons ho h hs
theorem hTy (i : Nat) (v : Value) {oi : Oper} {fuel : Nat} {listed : Array Bool} {a : Act} {w : World} (hy : ∀ w, S w → (execOp a.eval oi).run P w = .ok (.value v) w) (h : wpAnyH P md ops Q S fuel (listed.setIfInBounds i true) (a.put oi.dst v) w) (hi : ops[i]? = some oi := by simp only [List.getElem?_toArray, List.getElem?_cons_succ, List.getElem?_cons_zero]; rfl)
 (hs : Region.noSelect ops = true := by kernel_rfl) (hf : Region.free md ops listed i = true := by kernel_rfl) (hr : (Region.ready md ops listed).contains i = true := by kernel_rfl)
 (hQ : ∀ c a w, Q (.panic c) (a.put oi.dst v) w → Q (.panic c) a w := by exact fun _ _ _ h => h) (hw : Region.wanted oi (yielded ops a.tmps) = true := by rfl) (hS : S w := by assumption) : wpAnyH P md ops Q S (fuel + 1) listed a w := wpAnyH_take hi hs hf hr hQ (Or.inl ⟨hw, hy⟩) hS h
theorem hTn (i : Nat) {oi : Oper} {fuel : Nat} {listed : Array Bool} {a : Act} {w : World} (h : wpAnyH P md ops Q S fuel (listed.setIfInBounds i true) (a.put oi.dst undef) w) (hi : ops[i]? = some oi := by simp only [List.getElem?_toArray, List.getElem?_cons_succ, List.getElem?_cons_zero]; rfl)
 (hs : Region.noSelect ops = true := by kernel_rfl) (hf : Region.free md ops listed i = true := by kernel_rfl) (hr : (Region.ready md ops listed).contains i = true := by kernel_rfl)
 (hQ : ∀ c a w, Q (.panic c) (a.put oi.dst undef) w → Q (.panic c) a w := by exact fun _ _ _ h => h) (hw : Region.wanted oi (yielded ops a.tmps) = false := by rfl) (hS : S w := by assumption) : wpAnyH P md ops Q S (fuel + 1) listed a w := wpAnyH_take hi hs hf hr hQ (Or.inr ⟨hw, rfl⟩) hS h
theorem hCp {fuel : Nat} {listed : Array Bool} {a : Act} {w : World} {i : Nat} {o : Oper} {rs : List Nat}
 (h : ∀ K' : Act → World → Prop, Shut (∀ a w, S w → (S w → wpAnyH P md ops Q S fuel (listed.setIfInBounds i true) a w) → K' a w) → if Region.wanted o (yielded ops a.tmps) = true then Oper.wp P o a w K' Q else K' (a.put o.dst undef) w)
 (hs : AllReadyH P md ops Q S fuel listed a w rs) (ho : ops[i]? = some o := by simp only [List.getElem?_toArray, List.getElem?_cons_succ, List.getElem?_cons_zero]; rfl) : AllReadyH P md ops Q S fuel listed a w (i :: rs) := AllReadyH.cons ho h hs
theorem hRy (rs : List Nat) {fuel : Nat} {listed : Array Bool} {a : Act} {w : World} (h : AllReadyH P md ops Q S fuel listed a w rs) (hr : Region.ready md ops listed = rs := by kernel_rfl) (hne : rs ≠ [] := by simp) : wpAnyH P md ops Q S (fuel + 1) listed a w := wpAnyH_ready hr hne h
theorem hTz {T : World → Prop} (u : ∀ w, S w → T w) (i : Nat) {v : Value} {oi : Oper} {fuel : Nat} {listed : Array Bool} {a : Act} {w : World} (h : wpAnyH P md ops Q S fuel (listed.setIfInBounds i true) (a.put oi.dst v) w) (hi : ops[i]? = some oi := by simp only [List.getElem?_toArray, List.getElem?_cons_succ, List.getElem?_cons_zero]; rfl)
 (hy : ∀ w, T w → (execOp a.eval oi).run P w = .ok (.value v) w := by intro w0 hS; go_simp; try with_reducible rfl) (hs : Region.noSelect ops = true := by kernel_rfl) (hf : Region.free md ops listed i = true := by kernel_rfl) (hr : (Region.ready md ops listed).contains i = true := by kernel_rfl)
 (hQ : ∀ c a w, Q (.panic c) (a.put oi.dst v) w → Q (.panic c) a w := by exact fun _ _ _ h => h) (hw : Region.wanted oi (yielded ops a.tmps) = true := by rfl) (hS : S w := by assumption) : wpAnyH P md ops Q S (fuel + 1) listed a w := wpAnyH_take hi hs hf hr hQ (Or.inl ⟨hw, fun w hw => hy w (u w hw)⟩) hS h
end
def splitQ (P : Program) (ops : Array Oper) (tl : List Oper) (Q : Exit → Act → World → Prop) : Exit → Act → World → Prop
 | .normal, a, w => wpList P ops Q tl a w
 | e, a, w => Q e a w
def splitB (l : List Oper) (n : Nat) : Bool :=
 decide (n < l.length) && Region.sinkB .any l.toArray n && Region.chainB .any l.toArray n &&
 (l.take n).zipIdx.all (fun x => (x.1.after.all fun e => !Region.binds .any e || decide (e.on < x.2)) && (match x.1.guard with | some (g, _) => decide (g < n) | none => true)) &&
 Region.seqB .any l.toArray (l.length - n) n (List.replicate n true ++ List.replicate (l.length - n) false).toArray
theorem wp_outer {P : Program} {o : Oper} {a : Act} {w : World} {K : Act → World → Prop} {Q Q' : Exit → Act → World → Prop} (hq : ∀ e a w, e ≠ .normal → Q e a w → Q' e a w) (h : o.wp P a w K Q) : o.wp P a w K Q' := by
 unfold Oper.wp at *
 generalize (execOp a.eval o).run P w = r at *
 cases r with
 | ok n w' =>
   cases n <;> simp only [Oper.upon] at h ⊢ <;>
    first
     | exact h
     | exact Calls.mono h (fun e w'' he => by
      cases e with
      | returned v => exact he
      | panicked c => exact hq _ _ _ (by simp) he
      | outgrown => obtain ⟨a1, w1, h1⟩ := he; exact ⟨a1, w1, hq _ _ _ (by simp) h1⟩)
     | exact Rows.mono h (fun _ _ he => he)
 | halt x w' => cases x <;> simp only [Oper.upon] at h ⊢ <;> first | exact h | exact hq _ _ _ (by simp) h
def headOf (listed : Array Bool) (n : Nat) : Array Bool := (listed.toList.take n).toArray
theorem headOf_get (listed : Array Bool) (n i : Nat) (h : i < n) (d : Bool) : (headOf listed n).getD i d = listed.getD i d := by
 unfold headOf
 simp [Array.getElem?_toList, List.getElem?_take, h, Array.getD_eq_getD_getElem?]
theorem headOf_set (listed : Array Bool) (n i : Nat) : headOf (listed.setIfInBounds i true) n = (headOf listed n).setIfInBounds i true := by
 unfold headOf
 apply Array.ext_getElem?
 intro k
 simp only [Array.toList_setIfInBounds, List.getElem?_toArray, List.getElem?_take, List.getElem?_set, Array.getElem?_setIfInBounds, List.length_take, Array.length_toList, List.size_toArray]
 by_cases hk : k < n
 ·by_cases hik : i = k
  ·subst hik
   simp only [hk, if_true]
   by_cases hs : i < listed.size
   ·simp [hs]; omega
   ·simp [hs]; omega
  ·simp [hik, hk]
 ·by_cases hik : i = k
  ·subst hik; simp [hk]; omega
  ·simp [hik, hk]
def openAt (listed : Array Bool) (n : Nat) : Nat := (listed.toList.take n).countP (· == false)
theorem wpAny_split {P : Program} {Q : Exit → Act → World → Prop} {l : List Oper} {n : Nat} (hB : splitB l n = true) : ∀ (f : Nat) (listed : Array Bool) (a : Act) (w : World),
 HeadInv .any l.toArray n listed → openAt listed n = f → wpAny P .any (l.take n).toArray (splitQ P l.toArray (l.drop n) Q) f (headOf listed n) a w →
 wpAny P .any l.toArray Q (f + (l.length - n)) listed a w := by
 simp only [splitB, Bool.and_eq_true, decide_eq_true_eq] at hB
 obtain ⟨⟨⟨⟨hn, hs⟩, hc⟩, hb⟩, hseq⟩ := hB
 have hn' : n < l.toArray.size := by simpa using hn
 have hback : ∀ j o, j < n → l[j]? = some o → (∀ e ∈ o.after, Region.binds .any e = true → e.on < j) ∧ (∀ g b, o.guard = some (g, b) → g < n) := by
  intro j o hj ho
  have hm : (o, j) ∈ (l.take n).zipIdx := by
   rw [List.mem_zipIdx_iff_getElem?]
   simp [List.getElem?_take, hj, ho]
  have := List.all_eq_true.1 hb _ hm
  simp only [Bool.and_eq_true, Array.all_eq_true_iff_forall_mem, Bool.or_eq_true, Bool.not_eq_true', decide_eq_true_eq] at this
  refine ⟨fun e he hbi => ?_, fun g b hg => ?_⟩
  ·rcases this.1 e he with h | h
   ·rw [h] at hbi; cases hbi
   ·exact h
  ·have h2 := this.2
   rw [hg] at h2
   simpa using h2
 intro f
 induction f with
 | zero =>
   intro listed a w inv hop h
   have hall : ∀ i, i < n → listed.getD i false = true := by
    intro i hi
    have hsz := inv.size
    have hi2 : i < listed.size := by omega
    unfold openAt at hop
    rw [List.countP_eq_zero] at hop
    have hm : listed[i] ∈ listed.toList.take n := by
     rw [List.mem_take_iff_getElem]
     exact ⟨i, by simp; omega, by simp⟩
    have := hop _ hm
    simp at this
    simp [Array.getD_eq_getD_getElem?, hi2, this]
   have hlist : listed = (List.replicate n true ++ List.replicate (l.length - n) false).toArray := by
    apply Array.ext_getElem?
    intro i
    have hsz := inv.size
    simp only [List.size_toArray] at hsz
    rw [show (List.replicate n true ++ List.replicate (l.length - n) false).toArray[i]? = (List.replicate n true ++ List.replicate (l.length - n) false)[i]? from List.getElem?_toArray ..]
    by_cases h1 : i < n
    ·have := hall i h1
     have hi2 : i < listed.size := by omega
     simp only [Array.getD_eq_getD_getElem?, Array.getElem?_eq_getElem hi2, Option.getD_some] at this
     rw [Array.getElem?_eq_getElem hi2, this, List.getElem?_append_left (by simpa using h1)]
     simp [h1]
    ·by_cases h2 : i < l.length
     ·have := inv.tail i (by omega) (by simpa using h2)
      have hi2 : i < listed.size := by omega
      simp only [Array.getD_eq_getD_getElem?, Array.getElem?_eq_getElem hi2, Option.getD_some] at this
      rw [Array.getElem?_eq_getElem hi2, this, List.getElem?_append_right (by simpa using h1)]
      rw [List.getElem?_replicate, if_pos (by simp; omega)]
     ·rw [Array.getElem?_eq_none (by omega), List.getElem?_eq_none (by simp; omega)]
   have h2 : wpList P l.toArray Q (l.drop n) a w := h.2
   have hlen : (l.drop n).length = l.length - n := by simp
   have H := wpAny_of_seq (P := P) (md := .any) (ops := l.toArray) (Q' := Q) (l.drop n) n listed a w (fun j => by simp [List.getElem?_drop]) (by rw [hlen, hlist]; exact hseq) h2
   rw [hlen] at H
   simpa using H
 | succ f ih =>
   intro listed a w inv hop h
   have hsz := inv.size
   simp only [List.size_toArray] at hsz
   have hex : ∃ i, i < n ∧ listed.getD i true = false := by
    have hpos : 0 < (listed.toList.take n).countP (· == false) := by unfold openAt at hop; omega
    obtain ⟨x, hx, hx2⟩ := List.countP_pos_iff.1 hpos
    obtain ⟨i, hi, rfl⟩ := List.mem_take_iff_getElem.1 hx
    simp at hi hx2
    exact ⟨i, by omega, by simp [Array.getD_eq_getD_getElem?, hx2, show i < listed.size by omega]⟩
   have hleast : ∃ i, i < n ∧ listed.getD i true = false ∧ ∀ j, j < i → listed.getD j false = true := by
    obtain ⟨i, hi, hi2⟩ := hex
    induction i using Nat.strongRecOn with
    | _ i ihi =>
      by_cases hj : ∃ j, j < i ∧ listed.getD j true = false
      ·obtain ⟨j, hj1, hj2⟩ := hj
       exact ihi j hj1 (by omega) hj2
      ·refine ⟨i, hi, hi2, fun j hj' => ?_⟩
       have hjs : j < listed.size := by omega
       cases hv : listed.getD j true with
       | false => exact absurd ⟨j, hj', hv⟩ hj
       | true => simpa [Array.getD_eq_getD_getElem?, hjs] using hv
   obtain ⟨i0, hi0, hi0u, hi0l⟩ := hleast
   have hready0 : i0 ∈ Region.ready .any l.toArray listed := by
    refine mem_ready.2 ⟨hi0u, l[i0]'(by omega), by simp [show i0 < l.length by omega], fun e he hbi => ?_⟩
    exact hi0l _ ((hback i0 _ hi0 (by simp [show i0 < l.length by omega])).1 e he hbi)
   rw [show f + 1 + (l.length - n) = f + (l.length - n) + 1 by omega]
   refine ⟨fun h0 => (by rw [h0] at hready0; cases hready0), fun j hj => ?_⟩
   have hjn : j < n := by
    rcases Nat.lt_or_ge j n with h' | h'
    ·exact h'
    ·exact absurd hj (tail_waits hs hc hn' inv _ i0 rfl hi0 hi0u j h')
   obtain ⟨hju, oj, hoj, hjall⟩ := mem_ready.1 hj
   have hoj' : l[j]? = some oj := by simpa using hoj
   have hoh : (l.take n).toArray[j]? = some oj := by simp [List.getElem?_take, hjn, hoj']
   have hjh : j ∈ Region.ready .any (l.take n).toArray (headOf listed n) :=
    mem_ready.2 ⟨by rw [headOf_get _ _ _ hjn]; exact hju, oj, hoh, fun e he hbi => by
     have hlt := (hback j oj hjn hoj').1 e he hbi
     rw [headOf_get _ _ _ (by omega)]; exact hjall e he hbi⟩
   have hstep := h.2 j hjh
   have hopen : openAt (listed.setIfInBounds j true) n = f := by
    unfold openAt at hop ⊢
    have hjs : j < listed.size := by omega
    have hv : listed[j] = false := by simpa [Array.getD_eq_getD_getElem?, hjs] using hju
    rw [Array.toList_setIfInBounds, List.take_set]
    have hjt : j < (listed.toList.take n).length := by simp; omega
    have := List.countP_set (p := (· == false)) (l := listed.toList.take n) (i := j) (a := true) hjt
    rw [this, hop]
    simp [hv]
   have inv' := inv.set hj hjn
   have hK : ∀ a' w', wpAny P .any (l.take n).toArray (splitQ P l.toArray (l.drop n) Q) f ((headOf listed n).setIfInBounds j true) a' w' → wpAny P .any l.toArray Q (f + (l.length - n)) (listed.setIfInBounds j true) a' w' :=
    fun a' w' h' => ih _ a' w' inv' hopen (by rw [headOf_set]; exact h')
   have hy : ∀ t : Array Value, Region.wanted oj (yielded (l.take n).toArray t) = Region.wanted oj (yielded l.toArray t) := by
    intro t
    unfold Region.wanted
    cases hg : oj.guard with
    | none => rfl
    | some x =>
      obtain ⟨g, b⟩ := x
      have hgn := (hback j oj hjn hoj').2 g b hg
      have : yielded (l.take n).toArray t g = yielded l.toArray t g := by
       unfold yielded
       simp [List.getElem?_take, hgn]
      simp [this]
   unfold wpOp at hstep ⊢
   simp only [hoh] at hstep
   simp only [hoj]
   rw [hy] at hstep
   split
   ·rename_i hw
    rw [if_pos hw] at hstep
    rcases hstep with hstep | ⟨hask, a1, w1, h1⟩
    ·exact .inl (wp_outer (fun e a w hne hq => by cases e <;> first | exact absurd rfl hne | exact hq) (Oper.wp_mono hK hstep))
    ·exact .inr ⟨hask, a1, w1, h1⟩
   ·rename_i hw
    rw [if_neg hw] at hstep
    exact hK _ _ hstep
theorem wp_region_split {P : Program} {id : Nat} {Q : Exit → Act → World → Prop} {a : Act} {w : World} {l : List Oper} (n : Nat) (S : World → Prop) (hm : P.follows .mixedOrders = true) (hB : splitB l n = true) (hS : S w.drew)
 (h : S w.drew → wpAnyH P .any (l.take n).toArray (splitQ P l.toArray (l.drop n) Q) S n (Array.replicate n false) a w.drew) : (Code.region id l.toArray true).wp P Q a w := by
 refine wp_region_any hm ?_
 have hn : n < l.length := by
  simp only [splitB, Bool.and_eq_true, decide_eq_true_eq] at hB
  exact hB.1.1.1.1
 have inv0 : HeadInv .any l.toArray n (Array.replicate l.toArray.size false) :=
  ⟨by simp, fun j oj _ hl => (by rw [getD_replicate_false] at hl; cases hl), fun t _ ht => getD_in (by simpa using ht) (getD_replicate_false _ _)⟩
 have hh : headOf (Array.replicate l.toArray.size false) n = Array.replicate n false := by
  unfold headOf
  apply Array.ext_getElem?
  intro k
  simp only [Array.toList_replicate, List.take_replicate, List.getElem?_toArray, List.getElem?_replicate, Array.getElem?_replicate, List.size_toArray]
  by_cases hk : k < n
  ·rw [if_pos (by omega), if_pos hk]
  ·rw [if_neg (by omega), if_neg hk]
 have hop : openAt (Array.replicate l.toArray.size false) n = n := by
  unfold openAt
  simp [List.take_replicate]
  rw [List.countP_eq_length.2 (by intro x hx; rw [List.eq_of_mem_replicate hx]; rfl)]
  simp; omega
 have H := wpAny_split (P := P) (Q := Q) hB n (Array.replicate l.toArray.size false) a w.drew inv0 hop (by rw [hh]; exact wpAny_of_held _ _ _ _ (h hS))
 have e : n + (l.length - n) = l.toArray.size := by simp; omega
 rw [e] at H
 exact H
end Go.Proofs.YtdmgimfgoajmjaaGreatDoor
namespace Go.Proofs.YtdmgimfgoajmjaaGreatDoor
open Go.RowKit
def pickI (x n : Int) : Int := if n < 1 then 0 else x % n
theorem tmod_fix {x n : Int} (hn : 0 < n) : (if Int.tmod x n < 0 then Int.tmod x n + n else Int.tmod x n) = x % n ∧ -n < Int.tmod x n := by
 have h1 := Int.emod_nonneg x (show n ≠ 0 by omega)
 have h2 := Int.emod_lt_of_pos x hn
 have e := Int.tmod_eq_emod (a := x) (b := n)
 split at e
 ·have e' : Int.tmod x n = x % n := by omega
  rw [e', if_neg (by omega)]; exact ⟨rfl, by omega⟩
 ·rename_i h
  have h3 : x % n ≠ 0 := fun h0 => h (Or.inr (Int.dvd_of_emod_eq_zero h0))
  have h4 : ((n.natAbs : Nat) : Int) = n := by omega
  rw [h4] at e
  rw [e, if_pos (by omega)]; exact ⟨by omega, by omega⟩
theorem Pick_any (x n : Int) (w : World) (hx : -9223372036854775808 ≤ x ∧ x ≤ 9223372036854775807) (hn : n ≤ 4611686018427387904) : Calls Tryz.prog 31 #[.int .i64 x, .int .i64 n] w (Ret (.int .i64 (pickI x n)) w) := by
 by_cases h1 : n < 1
 ·rw [show pickI x n = 0 from if_pos h1]
  go_enter Tryz.func31, Tryz.ntmps31
  go_wp2
  go_ret
  exact Ret.mk' rfl (Ext.refl _)
 ·have HE := hid (show pickI x n = x % n from if_neg h1)
  obtain ⟨hT, hb2⟩ := tmod_fix (x := x) (show 0 < n by omega)
  have hb1 := Int.tmod_lt_of_pos x (show 0 < n by omega)
  generalize hr : Int.tmod x n = r at *
  by_cases hr0 : r < 0
  ·rw [if_pos hr0] at hT
   have HT := hid hT
   clear hT
   go_enter Tryz.func31, Tryz.ntmps31
   go_wp2
   go_ret
   exact Ret.mk' (vint (HT.out.trans HE.out.symm)) (Ext.refl _)
  ·rw [if_neg hr0] at hT
   have HT := hid hT
   clear hT
   go_enter Tryz.func31, Tryz.ntmps31
   go_wp2
   go_ret
   exact Ret.mk' (vint (HT.out.trans HE.out.symm)) (Ext.refl _)
end Go.Proofs.YtdmgimfgoajmjaaGreatDoor
