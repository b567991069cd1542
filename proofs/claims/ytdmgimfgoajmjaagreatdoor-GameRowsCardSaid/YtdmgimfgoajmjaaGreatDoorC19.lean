/- A piece that moves: its row of cells; whether nothing stands on some squares. -/
import Derived.Test.YtdmgimfgoajmjaaGreatDoorC18
import Derived.Test.YtdmgimfgoajmjaaGreatDoorC09
import Derived.Test.YtdmgimfgoajmjaaGreatDoorC11
set_option linter.unusedVariables false
set_option linter.unusedSimpArgs false
set_option maxRecDepth 100000
set_option maxHeartbeats 4000000
namespace Go.Proofs.YtdmgimfgoajmjaaGreatDoor
open Go.RowKit
def moverCell (p : Pos) (at_ k s : Int) (i : Nat) : Value :=
 if i < 133 then posCell p i else if i = 133 then .int .i64 at_ else if i = 134 then .int .i64 k else .int .i64 s
def moverCells (p : Pos) (at_ k s : Int) : Array Value := Array.ofFn (n := 136) fun i => moverCell p at_ k s i.val
@[go_sem] theorem moverCells_size (p : Pos) (a k s : Int) : (moverCells p a k s).size = 136 := by simp [moverCells]
theorem moverCells_get (p : Pos) (a k s : Int) (i : Nat) (h : i < 136) : (moverCells p a k s)[i]? = some (moverCell p a k s i) := by simp [moverCells, h]
attribute [irreducible] moverCells
@[go_sem high] theorem moverCells_kind (p : Pos) (a k s : Int) (i : Nat) (h : i < 64) : (moverCells p a k s)[i * 2]? = some (.int .i64 (p.kind i)) := by
  rw [moverCells_get _ _ _ _ _ (by omega)]; simp [moverCell, posCell, show i * 2 < 133 by omega]; omega
@[go_sem high] theorem moverCells_side (p : Pos) (a k s : Int) (i : Nat) (h : i < 64) : (moverCells p a k s)[i * 2 + 1]? = some (.int .i64 (p.side i)) := by
  rw [moverCells_get _ _ _ _ _ (by omega)]; simp [moverCell, posCell, show i * 2 + 1 < 133 by omega, show i * 2 + 1 < 128 by omega, show (i*2+1)/2 = i by omega]
@[go_sem high] theorem moverCells_turn (p : Pos) (a k s : Int) : (moverCells p a k s)[128]? = some (.int .i64 p.turn) := by rw [moverCells_get _ _ _ _ _ (by omega)]; rfl
@[go_sem high] theorem moverCells_turn' (p : Pos) (a k s : Int) (h : 128 < (moverCells p a k s).size) : (moverCells p a k s)[128]'h = .int .i64 p.turn := Option.some.inj ((Array.getElem?_eq_getElem h).symm.trans (moverCells_turn p a k s))
@[go_sem high] theorem moverCells_castle (p : Pos) (a k s : Int) : (moverCells p a k s)[129]? = some (.int .i64 p.castle) := by rw [moverCells_get _ _ _ _ _ (by omega)]; rfl
@[go_sem high] theorem moverCells_castle' (p : Pos) (a k s : Int) (h : 129 < (moverCells p a k s).size) : (moverCells p a k s)[129]'h = .int .i64 p.castle := Option.some.inj ((Array.getElem?_eq_getElem h).symm.trans (moverCells_castle p a k s))
@[go_sem high] theorem moverCells_over (p : Pos) (a k s : Int) : (moverCells p a k s)[130]? = some (.int .i64 p.over) := by rw [moverCells_get _ _ _ _ _ (by omega)]; rfl
@[go_sem high] theorem moverCells_over' (p : Pos) (a k s : Int) (h : 130 < (moverCells p a k s).size) : (moverCells p a k s)[130]'h = .int .i64 p.over := Option.some.inj ((Array.getElem?_eq_getElem h).symm.trans (moverCells_over p a k s))
@[go_sem high] theorem moverCells_half (p : Pos) (a k s : Int) : (moverCells p a k s)[131]? = some (.int .i64 p.half) := by rw [moverCells_get _ _ _ _ _ (by omega)]; rfl
@[go_sem high] theorem moverCells_half' (p : Pos) (a k s : Int) (h : 131 < (moverCells p a k s).size) : (moverCells p a k s)[131]'h = .int .i64 p.half := Option.some.inj ((Array.getElem?_eq_getElem h).symm.trans (moverCells_half p a k s))
@[go_sem high] theorem moverCells_full (p : Pos) (a k s : Int) : (moverCells p a k s)[132]? = some (.int .i64 p.full) := by rw [moverCells_get _ _ _ _ _ (by omega)]; rfl
@[go_sem high] theorem moverCells_full' (p : Pos) (a k s : Int) (h : 132 < (moverCells p a k s).size) : (moverCells p a k s)[132]'h = .int .i64 p.full := Option.some.inj ((Array.getElem?_eq_getElem h).symm.trans (moverCells_full p a k s))
@[go_sem high] theorem moverCells_at (p : Pos) (a k s : Int) : (moverCells p a k s)[133]? = some (.int .i64 a) := by rw [moverCells_get _ _ _ _ _ (by omega)]; rfl
@[go_sem high] theorem moverCells_at' (p : Pos) (a k s : Int) (h : 133 < (moverCells p a k s).size) : (moverCells p a k s)[133]'h = .int .i64 a := Option.some.inj ((Array.getElem?_eq_getElem h).symm.trans (moverCells_at p a k s))
@[go_sem high] theorem moverCells_k (p : Pos) (a k s : Int) : (moverCells p a k s)[134]? = some (.int .i64 k) := by rw [moverCells_get _ _ _ _ _ (by omega)]; rfl
@[go_sem high] theorem moverCells_k' (p : Pos) (a k s : Int) (h : 134 < (moverCells p a k s).size) : (moverCells p a k s)[134]'h = .int .i64 k := Option.some.inj ((Array.getElem?_eq_getElem h).symm.trans (moverCells_k p a k s))
@[go_sem high] theorem moverCells_s (p : Pos) (a k s : Int) : (moverCells p a k s)[135]? = some (.int .i64 s) := by rw [moverCells_get _ _ _ _ _ (by omega)]; rfl
@[go_sem high] theorem moverCells_s' (p : Pos) (a k s : Int) (h : 135 < (moverCells p a k s).size) : (moverCells p a k s)[135]'h = .int .i64 s := Option.some.inj ((Array.getElem?_eq_getElem h).symm.trans (moverCells_s p a k s))
@[go_sem high] theorem moverCells_kind' (p : Pos) (a k s : Int) (i : Nat) (hi : i < 64) (h : i * 2 < (moverCells p a k s).size) : (moverCells p a k s)[i * 2]'h = .int .i64 (p.kind i) := Option.some.inj ((Array.getElem?_eq_getElem h).symm.trans (moverCells_kind p a k s i hi))
@[go_sem high] theorem moverCells_side' (p : Pos) (a k s : Int) (i : Nat) (hi : i < 64) (h : i * 2 + 1 < (moverCells p a k s).size) : (moverCells p a k s)[i * 2 + 1]'h = .int .i64 (p.side i) := Option.some.inj ((Array.getElem?_eq_getElem h).symm.trans (moverCells_side p a k s i hi))
theorem mc_turn {p : Pos} {a k s : Int} {b : Nat} {w : World} {t : TypeId} {fr : Nat × Nat} (hb : blk w b = some (.cells (moverCells p a k s) t fr)) : w.cell? ⟨b, 128, none⟩ = some (.int .i64 p.turn) := (blk_cell hb _).trans (moverCells_turn _ _ _ _)
theorem mc_castle {p : Pos} {a k s : Int} {b : Nat} {w : World} {t : TypeId} {fr : Nat × Nat} (hb : blk w b = some (.cells (moverCells p a k s) t fr)) : w.cell? ⟨b, 129, none⟩ = some (.int .i64 p.castle) := (blk_cell hb _).trans (moverCells_castle _ _ _ _)
theorem mc_over {p : Pos} {a k s : Int} {b : Nat} {w : World} {t : TypeId} {fr : Nat × Nat} (hb : blk w b = some (.cells (moverCells p a k s) t fr)) : w.cell? ⟨b, 130, none⟩ = some (.int .i64 p.over) := (blk_cell hb _).trans (moverCells_over _ _ _ _)
theorem mc_half {p : Pos} {a k s : Int} {b : Nat} {w : World} {t : TypeId} {fr : Nat × Nat} (hb : blk w b = some (.cells (moverCells p a k s) t fr)) : w.cell? ⟨b, 131, none⟩ = some (.int .i64 p.half) := (blk_cell hb _).trans (moverCells_half _ _ _ _)
theorem mc_full {p : Pos} {a k s : Int} {b : Nat} {w : World} {t : TypeId} {fr : Nat × Nat} (hb : blk w b = some (.cells (moverCells p a k s) t fr)) : w.cell? ⟨b, 132, none⟩ = some (.int .i64 p.full) := (blk_cell hb _).trans (moverCells_full _ _ _ _)
theorem mc_at {p : Pos} {a k s : Int} {b : Nat} {w : World} {t : TypeId} {fr : Nat × Nat} (hb : blk w b = some (.cells (moverCells p a k s) t fr)) : w.cell? ⟨b, 133, none⟩ = some (.int .i64 a) := (blk_cell hb _).trans (moverCells_at _ _ _ _)
theorem mc_k {p : Pos} {a k s : Int} {b : Nat} {w : World} {t : TypeId} {fr : Nat × Nat} (hb : blk w b = some (.cells (moverCells p a k s) t fr)) : w.cell? ⟨b, 134, none⟩ = some (.int .i64 k) := (blk_cell hb _).trans (moverCells_k _ _ _ _)
theorem mc_s {p : Pos} {a k s : Int} {b : Nat} {w : World} {t : TypeId} {fr : Nat × Nat} (hb : blk w b = some (.cells (moverCells p a k s) t fr)) : w.cell? ⟨b, 135, none⟩ = some (.int .i64 s) := (blk_cell hb _).trans (moverCells_s _ _ _ _)
theorem mc_kind {p : Pos} {a k s : Int} {b : Nat} {w : World} {t : TypeId} {fr : Nat × Nat} (hb : blk w b = some (.cells (moverCells p a k s) t fr)) (i : Nat) (h : i < 64) : w.cell? ⟨b, i * 2, none⟩ = some (.int .i64 (p.kind i)) := (blk_cell hb _).trans (moverCells_kind _ _ _ _ _ h)
theorem mc_side {p : Pos} {a k s : Int} {b : Nat} {w : World} {t : TypeId} {fr : Nat × Nat} (hb : blk w b = some (.cells (moverCells p a k s) t fr)) (i : Nat) (h : i < 64) : w.cell? ⟨b, i * 2 + 1, none⟩ = some (.int .i64 (p.side i)) := (blk_cell hb _).trans (moverCells_side _ _ _ _ _ h)
theorem moverCells_eq (p : Pos) (a k s : Int) : moverCells p a k s = posCells p ++ (#[.int .i64 a] ++ #[.int .i64 k, .int .i64 s]) := by
 apply Array.ext_getElem?
 intro i
 by_cases h : i < 133
 ·rw [moverCells_get _ _ _ _ _ (by omega), Array.getElem?_append_left (by rw [posCells_size]; exact h), posCells_get _ _ h]; simp [moverCell, h]
 ·rw [Array.getElem?_append_right (by rw [posCells_size]; omega), posCells_size]
  by_cases h2 : i < 136
  ·rw [moverCells_get _ _ _ _ _ h2]
   obtain ⟨j, rfl⟩ : ∃ j, i = 133 + j := ⟨i - 133, by omega⟩
   rcases (by omega : j = 0 ∨ j = 1 ∨ j = 2) with rfl | rfl | rfl <;> rfl
  ·rw [Array.getElem?_eq_none (by rw [moverCells_size]; omega), Array.getElem?_eq_none (by simp; omega)]
@[go_sem] theorem mover_fold (p : Pos) (a k s : Int) : posCells p ++ (#[.int .i64 a] ++ #[.int .i64 k, .int .i64 s]) = moverCells p a k s := (moverCells_eq p a k s).symm
@[go_sem] theorem mover_fold' (p : Pos) (a k s : Int) : posCells p ++ #[.int .i64 a, .int .i64 k, .int .i64 s] = moverCells p a k s := (moverCells_eq p a k s).symm
@[go_sem, simp] theorem moverCells_pos (p : Pos) (a k s : Int) : (moverCells p a k s).extract 0 133 = posCells p := by
  rw [moverCells_eq, Array.extract_append]
  simp [posCells_size]
@[go_sem, simp] theorem moverCells_whole (p : Pos) (a k s : Int) : (moverCells p a k s).extract 0 136 = moverCells p a k s := by
  have h := moverCells_size p a k s
  rw [← h]; simp
@[go_sem ↓] theorem load_moves_mover (ρ : Operand → Value) (dst : Option Tmp) (x : Operand) (ty : TypeId) (pos : String) (af : Array Edge) (g : Option (Nat × Bool)) (w : World) :
 (execOp ρ ⟨dst, .load 219 x, ty, pos, af, g⟩).run Tryz.prog w = loadSub 136 (ρ x) w (dfltLoad Tryz.prog 219 (ρ x) w) :=
  exec_load_sub (Tryz.underlying219) (by kernel_rfl) (by kernel_rfl) ρ dst x ty pos af g w
@[go_sem ↓] theorem build_mover (ρ : Operand → Value) (dst : Option Tmp) (x y z : Operand) (ty : TypeId) (pos : String) (af : Array Edge) (g : Option (Nat × Bool)) (w : World) :
 (execOp ρ ⟨dst, .build 219 #[(0, x), (1, y), (2, z)], ty, pos, af, g⟩).run Tryz.prog w = buildAll [133, 1, 2] [ρ x, ρ y, ρ z] w (dfltAny Tryz.prog ρ ⟨dst, .build 219 #[(0, x), (1, y), (2, z)], ty, pos, af, g⟩ w) :=
  exec_build_all (sizes := [133, 1, 2]) Tryz.underlying219 (by kernel_rfl) (by kernel_rfl) ρ dst _ _ (by simp [partsV]) ty pos af g w
@[go_sem high] theorem neq_piece (a b c d : Int) (w : World) : (binOp .neq 26 (.agg #[.int .i64 a, .int .i64 b]) (.agg #[.int .i64 c, .int .i64 d])).run Tryz.prog w = .ok (.bool (!(a == c && b == d))) w := by
  have h := eql_piece a b c d w
  rw [run_eql_struct] at h
  rw [run_neq_struct]
  cases hr : (Op.equalIn 10000 26 (.agg #[.int .i64 a, .int .i64 b]) (.agg #[.int .i64 c, .int .i64 d])).run Tryz.prog w with
  | ok x w' => rw [hr] at h; simp at h; obtain ⟨rfl, rfl⟩ := h; rfl
  | halt x w' => rw [hr] at h; simp at h
def freeB (p : Pos) (L : List Int) : Bool := L.all fun s => isSq s && bareB p s
def notFree (p : Pos) (s : Int) : Bool := !isSq s || !bareB p s
theorem free1_any (p : Pos) (a k s x : Int) (b : Nat) (w : World) (hb : blk w b = some (.cells (moverCells p a k s) 219 (0, 0))) :
 Calls Tryz.prog 241 #[.int .i64 x, .pointer (some ⟨b, 0, none⟩)] w (Ret (.bool (notFree p x)) w) := by
 have hlt := blk_lt hb
 by_cases h : 0 ≤ x ∧ x < 64
 ·have hI : isSq x = true := by simp [isSq, h]
  obtain ⟨h0, h1⟩ := h
  have h2 : x.toNat < 64 := by omega
  have c0 := mc_kind hb _ h2
  have c1 := mc_side hb _ h2
  have E := hid (show notFree p x = !(p.kind x.toNat == 0 && p.side x.toNat == 0) by unfold notFree bareB; rw [hI]; rfl)
  clear hb
  go_enter Tryz.func241, Tryz.ntmps241
  go_wp2_with (go_at_call 142; with_reducible refine arm (Is_any _ _) fun w1 hx hxc hxf hxb hxs => ?_; (try have := sW w w1))
  all_goals (go_ret; exact Ret.mk' (vbool (by rw [E.out]; simp [*])) (Ext.auto))
 ·have hI : isSq x = false := by simp only [isSq, decide_eq_false_iff_not]; exact h
  have E := hid (show notFree p x = true by unfold notFree; rw [hI]; rfl)
  clear h hb
  go_enter Tryz.func241, Tryz.ntmps241
  go_wp2_with (go_at_call 142; with_reducible refine arm (Is_any _ _) fun w1 hx hxc hxf hxb hxs => ?_; (try have := sW w w1))
  go_ret
  exact Ret.mk' (vbool (by rw [E.out])) (Ext.auto)
def idxPost (pr : Int → Bool) (L : List Int) (r : Int) : Prop := (r = -1 ∧ ∀ x ∈ L, pr x = false) ∨ (∃ k : Nat, r = k ∧ ∃ x, L[k]? = some x ∧ pr x = true ∧ ∀ y ∈ L.take k, pr y = false)
def IdxRet (pr : Int → Bool) (L : List Int) (w : World) (e : Ending) (w' : World) : Prop := ∃ r, e = .returned (.int .i64 r) ∧ idxPost pr L r ∧ Ext w w'
theorem IndexFunc_any (pr : Int → Bool) (g : Nat) (lb : Array Value) (L : List Int) (v : Value) (w : World) (hS : Sl w 1 v L.length (ints L)) (hn : L.length ≤ 1000000)
 (eg : ∀ args w, (callFunc g args).run Tryz.prog w = .ok (.enter g args) w)
 (hc : ∀ x, x ∈ L → ∀ w', Ext w w' → Calls Tryz.prog g (#[.int .i64 x] ++ lb) w' (Ret (.bool (pr x)) w')) : Calls Tryz.prog 158 #[v, .func (.func g) #[] lb] w (IdxRet pr L w) := by
 obtain ⟨a, cap, rfl⟩ := hS.form
 have HS := hid hS
 clear hS
 go_enter Tryz.func158, Tryz.ntmps158
 go_wp2
 go_loopw [8] (fun i wr => ∃ j : Nat, i = .int .i64 j ∧ j ≤ L.length ∧ (∀ y ∈ L.take j, pr y = false) ∧ Ext w wr) (fun i _ => L.length - (intOf i).toNat)
 case atStart => exact ⟨0, rfl, by omega, by simp, Ext.refl _⟩
 case round =>
  obtain ⟨j, rfl, hj, hno, hx0⟩ := hrel
  have HN := hid hno
  clear hno
  by_cases hlt : j < L.length
  ·obtain ⟨b, off, rfl, hbl, hcl⟩ := (HS.out.ext hx0).pos (by omega)
   obtain ⟨u, hu⟩ : ∃ u, L[j]? = some u := ⟨_, List.getElem?_eq_getElem hlt⟩
   have cg := hcl j _ (ints_get hu)
   have HU := hid hu
   have hc' := hc u (List.mem_of_getElem? hu) wr hx0
   clear hcl hu
   cases hp : pr u
   ·have HP := hid hp
    rw [hp] at hc'
    go_wp2
    refine hc'.mono ?_
    rintro e w1 ⟨rfl, hx1⟩
    go_wp2
    go_roundw
    case rel =>
     refine ⟨j + 1, by go_num, by omega, ?_, hx0.trans hx1⟩
     intro y hy
     rw [List.take_add_one, HU.out] at hy
     rcases List.mem_append.1 hy with h | h
     ·exact HN.out y h
     ·simp at h; rw [h]; exact HP.out
    case measure => simp [intOf]; omega
   ·have HP := hid hp
    rw [hp] at hc'
    go_wp2
    refine hc'.mono ?_
    rintro e w1 ⟨rfl, hx1⟩
    go_wp2
    go_ret
    exact ⟨_, rfl, .inr ⟨j, rfl, u, HU.out, HP.out, HN.out⟩, hx0.trans hx1⟩
  ·obtain rfl : j = L.length := by omega
   go_wp2
   go_ret
   exact ⟨_, rfl, .inl ⟨rfl, fun x hx => HN.out x (by rw [List.take_length]; exact hx)⟩, hx0⟩
theorem idx_any {pr : Int → Bool} {L : List Int} {r : Int} (h : idxPost pr L r) : decide (0 ≤ r) = L.any pr := by
 rcases h with ⟨rfl, h⟩ | ⟨k, rfl, x, hx, hp, _⟩
 ·rw [List.any_eq_false.2 (fun x hx => by rw [h x hx]; simp)]; rfl
 ·rw [List.any_eq_true.2 ⟨x, List.mem_of_getElem? hx, hp⟩]; simp
theorem ContainsFunc_any (pr : Int → Bool) (g : Nat) (lb : Array Value) (L : List Int) (v : Value) (w : World) (hS : Sl w 1 v L.length (ints L)) (hn : L.length ≤ 1000000)
 (eg : ∀ args w, (callFunc g args).run Tryz.prog w = .ok (.enter g args) w)
 (hc : ∀ x, x ∈ L → ∀ w', Ext w w' → Calls Tryz.prog g (#[.int .i64 x] ++ lb) w' (Ret (.bool (pr x)) w')) : Calls Tryz.prog 108 #[v, .func (.func g) #[] lb] w (Ret (.bool (L.any pr)) w) := by
 generalize hA : L.any pr = A
 have HA := hid hA
 clear hA
 go_enter Tryz.func108, Tryz.ntmps108
 go_wp2_with (go_at_call 158; (with_reducible refine (IndexFunc_any pr g lb L v _ hS hn eg hc).mono ?_); rintro e w1 ⟨r, rfl, hr, hx⟩; have HR := hid hr; clear hr)
 go_ret
 exact Ret.mk' (vbool (by rw [← HA.out, ← idx_any HR.out])) hx
theorem free_all (p : Pos) (L : List Int) : freeB p L = !L.any (notFree p) := by
 unfold freeB notFree
 induction L with
 | nil => rfl
 | cons x r ih => rw [List.all_cons, List.any_cons, ih]; cases isSq x <;> cases bareB p x <;> simp
theorem free1_enters : ∀ args w, (callFunc 241 args).run Tryz.prog w = .ok (.enter 241 args) w := enters_of Tryz.func241 (by kernel_rfl) rfl
theorem free_any2 (p : Pos) (a k s : Int) (L : List Int) (v : Value) (w : World) (hS : Sl w 1 v L.length (ints L)) (hn : L.length ≤ 1000000) : Calls Tryz.prog 225 #[.agg (moverCells p a k s), v] w (Ret (.bool (freeB p L)) w) := by
 generalize hA : L.any (notFree p) = A
 have HA := hid (show freeB p L = !A by rw [free_all, hA])
 obtain ⟨a', cap, rfl⟩ := hS.form
 have HH := hid hA
 clear hA
 have hM : blk (w.alloc (.cells (moverCells p a k s) 219 (0, 0))) w.heap.size = some (.cells (moverCells p a k s) 219 (0, 0)) := blk_alloc_at _ _ _ rfl
 have hC : ∀ x w', Ext (w.alloc (.cells (moverCells p a k s) 219 (0, 0))) w' → Calls Tryz.prog 241 (#[.int .i64 x] ++ #[.pointer (some ⟨w.heap.size, 0, none⟩)]) w' (Ret (.bool (notFree p x)) w') :=
  fun x w' hx => free1_any p a k s x w.heap.size w' ((hx.blk _ (by simp)).trans hM)
 have hQ := ContainsFunc_any (notFree p) 241 #[.pointer (some ⟨w.heap.size, 0, none⟩)] L _ _ (hS.ext (Ext.alloc (Ext.refl w) (.cells (moverCells p a k s) 219 (0, 0)))) hn free1_enters (fun x _ => hC x)
 rw [HH.out] at hQ
 have HS := hid hS
 clear hS hM hC
 go_enter Tryz.func225, Tryz.ntmps225
 go_wp2_with (go_at_call 108; (with_reducible refine hQ.mono ?_); rintro e w1 ⟨rfl, hx⟩)
 go_ret
 exact Ret.mk' (vbool (by rw [HA.out])) (Ext.auto)
theorem Sl.lits {w : World} {b : Nat} {t : TypeId} {fr : Nat × Nat} (l : List Int) (cap n : Nat) (hn : n = l.length) (h : blk w b = some (.cells (ints l).toArray t fr)) : Sl w 1 (.slice (some ⟨b, 0, none⟩) n cap) l.length (ints l) := by
 subst hn
 have := Sl.of_blk h 1 l.length (by simp [ints]) cap
 simpa using this
theorem FromL_len (p : Pos) (s : Int) : (FromL p s).length ≤ 64 := by
 unfold FromL
 split
 ·rw [sortL_len]; exact fromL_len p s
 ·simp
theorem mem_sortL {l : List Int} {x : Int} : x ∈ sortL l ↔ x ∈ l := by unfold sortL; exact List.mem_mergeSort
def shortB (p : Pos) (s : Int) : Bool := p.castle / (if s = 1 then 4 else 1) % 2 == 1 && standsB p 4 s (homeOf s + 3) && freeB p [homeOf s + 1, homeOf s + 2]
def farB (p : Pos) (s : Int) : Bool := p.castle / (if s = 1 then 8 else 2) % 2 == 1 && standsB p 4 s (homeOf s - 4) && freeB p [homeOf s - 1, homeOf s - 2, homeOf s - 3]
def castlingsL (p : Pos) (a k s : Int) : List Int :=
 if k = 6 ∧ a = homeOf s ∧ 0 ≤ p.castle ∧ p.castle ≤ 15 then (if shortB p s = true then [homeOf s + 2] else []) ++ (if farB p s = true then [homeOf s - 2] else []) else []
abbrev MSc.T (p : Pos) (a k s : Int) (b g i j : Nat) (w W : World) : Prop :=
 blk W b = some (.cells (moverCells p a k s) 219 (0, 0)) ∧ blk W g = some (.cells #[.int .i64 4, .int .i64 s] 26 (0, 0)) ∧ Ext w W ∧
 W.cell? ⟨g, 0, none⟩ = some (.int .i64 4) ∧ W.cell? ⟨g, 1, none⟩ = some (.int .i64 s) ∧
 W.cell? ⟨b, i * 2, none⟩ = some (.int .i64 (p.kind i)) ∧ W.cell? ⟨b, i * 2 + 1, none⟩ = some (.int .i64 (p.side i)) ∧ W.cell? ⟨b, j * 2, none⟩ = some (.int .i64 (p.kind j)) ∧ W.cell? ⟨b, j * 2 + 1, none⟩ = some (.int .i64 (p.side j))
def MSc (p : Pos) (a k s : Int) (b g i j : Nat) (w W : World) : Prop := MSc.T p a k s b g i j w W
theorem MSc.u {p a k s b g i j w} (W) (h : MSc p a k s b g i j w W) : MSc.T p a k s b g i j w W := h
theorem MSc.mk' {p : Pos} {a k s : Int} {b g i j : Nat} {w W : World} (hi : i < 64) (hj : j < 64) (h1 : blk W b = some (.cells (moverCells p a k s) 219 (0, 0))) (h2 : blk W g = some (.cells #[.int .i64 4, .int .i64 s] 26 (0, 0))) (h3 : Ext w W) : MSc p a k s b g i j w W :=
 ⟨h1, h2, h3, blk_cell h2 0, blk_cell h2 1, mc_kind h1 _ hi, mc_side h1 _ hi, mc_kind h1 _ hj, mc_side h1 _ hj⟩
theorem MSc.ext {p : Pos} {a k s : Int} {b g i j : Nat} {w W W' : World} (hi : i < 64) (hj : j < 64) (h : MSc p a k s b g i j w W) (hx : Ext W W') : MSc p a k s b g i j w W' :=
 MSc.mk' hi hj ((hx.blk _ (blk_lt h.1)).trans h.1) ((hx.blk _ (blk_lt h.2.1)).trans h.2.1) (h.2.2.1.trans hx)
theorem MSc.x {p : Pos} {a k s : Int} {b g i j : Nat} {w W : World} (h : MSc p a k s b g i j w W) : Ext w W := h.2.2.1
theorem MSc.chg {p : Pos} {a k s : Int} {b g i j : Nat} {w W W' : World} (hi : i < 64) (hj : j < 64) (h : MSc p a k s b g i j w W) (hb : b < w.heap.size + 2) (hg : g < w.heap.size + 2) {r : Option Nat} (hx : W.grownBy W' r) (hr : ∀ x, r = some x → w.heap.size + 2 ≤ x) : MSc p a k s b g i j w W' :=
 MSc.mk' hi hj ((hx.block _ (blk_lt h.1) (fun e => by have := hr b e.symm; omega)).trans h.1) ((hx.block _ (blk_lt h.2.1) (fun e => by have := hr g e.symm; omega)).trans h.2.1) (Below.grown h.2.2.1 hx h.2.2.1.le fun x hx' => by have := hr x hx'; omega)
theorem alloc_ints3 (w : World) (x y z : Int) (t : TypeId) : blk (w.alloc (.cells #[.int .i64 x, .int .i64 y, .int .i64 z] t (0, 0))) w.heap.size = some (.cells (ints [x, y, z]).toArray t (0, 0)) := blk_alloc_at _ _ _ rfl
theorem alloc_ints3d (w : World) (x y z : Int) (t : TypeId) : blk (w.alloc (.cells #[.int .i64 x, .int .i64 y, .int .i64 z] t (0, 0))).drew w.heap.size = some (.cells (ints [x, y, z]).toArray t (0, 0)) := blk_alloc_at _ _ _ rfl
theorem castlings_no (p : Pos) (a k s : Int) (w : World) (hs : s = 0 ∨ s = 1) (h : ¬ (k = 6 ∧ a = homeOf s ∧ 0 ≤ p.castle ∧ p.castle ≤ 15)) : Calls Tryz.prog 204 #[.agg (moverCells p a k s)] w (RetInts (castlingsL p a k s) w) := by
 have E := hid (show castlingsL p a k s = [] by unfold castlingsL; rw [if_neg h])
 have hd : (k != 6) = true ∨ ((k != 6) = false ∧ (a != homeOf s) = true) ∨ ((k != 6) = false ∧ (a != homeOf s) = false ∧ p.castle < 0) ∨ ((k != 6) = false ∧ (a != homeOf s) = false ∧ ¬ p.castle < 0 ∧ 15 < p.castle) := by
  by_cases h1 : k = 6
  ·by_cases h2 : a = homeOf s
   ·by_cases h3 : p.castle < 0
    ·exact .inr (.inr (.inl ⟨by simp [h1], by simp [h2], h3⟩))
    ·exact .inr (.inr (.inr ⟨by simp [h1], by simp [h2], h3, by omega⟩))
   ·exact .inr (.inl ⟨by simp [h1], by simp [h2]⟩)
  ·exact .inl (by simp [h1])
 clear h
 rcases hs with rfl | rfl
 all_goals
  simp only [homeOf, if_true, if_false, reduceIte, Int.reduceEq] at hd
  rcases hd with g1 | ⟨g1, g2⟩ | ⟨g1, g2, g3⟩ | ⟨g1, g2, g3, g4⟩
  all_goals
   go_enter Tryz.func204, Tryz.ntmps204
   go_wp2
   go_ret
   rw [E.out]
   exact RetInts.nil _ _ (Ext.auto)
abbrev MSc0.T (p : Pos) (w W : World) : Prop :=
 blk W w.heap.size = some (.cells (moverCells p 4 6 0) 219 (0, 0)) ∧ blk W (w.heap.size + 1) = some (.cells #[.int .i64 4, .int .i64 0] 26 (0, 0)) ∧ Ext w W ∧
 W.cell? ⟨w.heap.size + 1, 0, none⟩ = some (.int .i64 4) ∧ W.cell? ⟨w.heap.size + 1, 1, none⟩ = some (.int .i64 0) ∧
 W.cell? ⟨w.heap.size, 14, none⟩ = some (.int .i64 (p.kind 7)) ∧ W.cell? ⟨w.heap.size, 14 + 1, none⟩ = some (.int .i64 (p.side 7)) ∧ W.cell? ⟨w.heap.size, 0, none⟩ = some (.int .i64 (p.kind 0)) ∧ W.cell? ⟨w.heap.size, 0 + 1, none⟩ = some (.int .i64 (p.side 0)) ∧
 W.cell? ⟨w.heap.size, 14 + 1, none⟩ = some (.int .i64 (p.side 7)) ∧ W.cell? ⟨w.heap.size, 15, none⟩ = some (.int .i64 (p.side 7)) ∧ W.cell? ⟨w.heap.size, 1, none⟩ = some (.int .i64 (p.side 0))
def MSc0 (p : Pos) (w W : World) : Prop := MSc0.T p w W
theorem MSc0.u {p w} (W) (h : MSc0 p w W) : MSc0.T p w W := h
theorem MSc0.mk' {p : Pos} {w W : World} (h1 : blk W w.heap.size = some (.cells (moverCells p 4 6 0) 219 (0, 0))) (h2 : blk W (w.heap.size + 1) = some (.cells #[.int .i64 4, .int .i64 0] 26 (0, 0))) (h3 : Ext w W) : MSc0 p w W :=
 ⟨h1, h2, h3, blk_cell h2 0, blk_cell h2 1, mc_kind h1 7 (by decide), mc_side h1 7 (by decide), mc_kind h1 0 (by decide), mc_side h1 0 (by decide), mc_side h1 7 (by decide), mc_side h1 7 (by decide), mc_side h1 0 (by decide)⟩
theorem MSc0.ext {p : Pos} {w W W' : World} (h : MSc0 p w W) (hx : Ext W W') : MSc0 p w W' :=
 MSc0.mk' ((hx.blk _ (blk_lt h.1)).trans h.1) ((hx.blk _ (blk_lt h.2.1)).trans h.2.1) (h.2.2.1.trans hx)
theorem MSc0.x {p : Pos} {w W : World} (h : MSc0 p w W) : Ext w W := h.2.2.1
theorem MSc0.sz {p : Pos} {w W : World} (h : MSc0 p w W) : w.heap.size + 2 ≤ W.heap.size := blk_lt h.2.1
theorem MSc0.grown {p : Pos} {w W W' : World} (h : MSc0 p w W) {v : Value} {n : Nat} {xs : List Value} (ho : W.ownsRow (w.heap.size + 2) 3 1 v n xs) (hx : W.grownBy W' v.ownBlock) : MSc0 p w W' :=
 have hr : ∀ x, v.ownBlock = some x → w.heap.size + 2 ≤ x := fun x hx => (ho.lt x hx).1
 MSc0.mk' ((hx.block _ (blk_lt h.1) (fun e => by have := hr _ e.symm; omega)).trans h.1) ((hx.block _ (blk_lt h.2.1) (fun e => by have := hr _ e.symm; omega)).trans h.2.1) (Below.grown h.2.2.1 hx h.2.2.1.le fun x hx' => by have := hr x hx'; omega)
theorem castlings_yes0 (p : Pos) (w : World) (p0 : 0 ≤ p.castle) (p1 : p.castle ≤ 15) : Calls Tryz.prog 204 #[.agg (moverCells p 4 6 0)] w (RetInts ((if shortB p 0 = true then [4 + 2] else []) ++ (if farB p 0 = true then [4 - 2] else [])) w) := by
 have HS := hid (show shortB p 0 = (p.castle / 1 % 2 == 1 && (p.kind 7 == 4 && p.side 7 == 0) && freeB p [4 + 1, 4 + 2]) from rfl)
 have HF := hid (show farB p 0 = (p.castle / 2 % 2 == 1 && (p.kind 0 == 4 && p.side 0 == 0) && freeB p [4 - 1, 4 - 2, 4 - 3]) from rfl)
 have z0 : IntKind.i64.wrap 0 = 0 := by decide
 have z1 : IntKind.i64.wrap 1 = 1 := by decide
 have z2 : IntKind.i64.wrap 2 = 2 := by decide
 have z3 : IntKind.i64.wrap 3 = 3 := by decide
 have z5 : IntKind.i64.wrap 5 = 5 := by decide
 have z6 : IntKind.i64.wrap 6 = 6 := by decide
 have z7 : IntKind.i64.wrap 7 = 7 := by decide
 generalize hL1 : (if shortB p 0 = true then [(4 : Int) + 2] else []) = L1 at *
 generalize hL2 : (if farB p 0 = true then [(4 : Int) - 2] else []) = L2 at *
 generalize hB1 : shortB p 0 = B1 at *
 generalize hB2 : farB p 0 = B2 at *
 have HL1 := hid hL1
 have HL2 := hid hL2
 have hlen : L1.length ≤ 1 := by rw [← hL1]; split <;> simp
 clear hB1 hB2 hL1 hL2
 have y0 : 0 ≤ p.castle / 4 := by omega
 have y1 : p.castle / 4 ≤ 15 := by omega
 go_enter Tryz.func204, Tryz.ntmps204
 go_upto_region 6 with (fail)
 have hM0 : MSc0 p w ((w.alloc (.cells (moverCells p 4 6 0) 219 (0, 0))).alloc (.cells #[.int .i64 4, .int .i64 0] 26 (0, 0))) := MSc0.mk' (by simp [go_sem]) (blk_alloc_at _ _ _ (by simp)) (Ext.auto)
 refine world_cut (fun W => MSc0 p w W) hM0 ?_
 clear hM0
 intro W hM
 go_cut [66] (fun s66 wx => s66 = .bool B1 ∧ MSc0 p w wx)
 case first =>
  cases hb : (p.castle % 2 != 0)
  ·have HO := hid (show B1 = false by rw [HS.out, show (p.castle / 1 % 2 == 1) = false by simp at hb ⊢; omega]; rfl)
   clear HS
   refine wp_region_held_drew (S := MSc0 p w) (by kernel_rfl) (hM.ext (Ext.drew (Ext.refl _))) (fun hH => ?_)
   refine hTz MSc0.u 0 ?_; (try go_frame)
   refine hTz MSc0.u 1 ?_; (try go_frame)
   refine hTz MSc0.u 2 ?_; (try go_frame)
   refine hTz MSc0.u 3 ?_; (try go_frame)
   refine hTn 4 ?_; (try go_frame)
   refine hTn 5 ?_; (try go_frame)
   refine hTn 6 ?_; (try go_frame)
   refine hTn 7 ?_; (try go_frame)
   refine hTn 8 ?_; (try go_frame)
   refine hTn 9 ?_; (try go_frame)
   refine hTn 10 ?_; (try go_frame)
   refine hTn 11 ?_; (try go_frame)
   refine hTz MSc0.u 12 ?_; (try go_frame)
   refine hTz MSc0.u 13 ?_; (try go_frame)
   refine hTn 14 ?_; (try go_frame)
   refine hTn 15 ?_; (try go_frame)
   refine hTn 16 ?_; (try go_frame)
   refine hTn 17 ?_; (try go_frame)
   refine hTn 18 ?_; (try go_frame)
   refine hTn 19 ?_; (try go_frame)
   refine hTn 20 ?_; (try go_frame)
   refine hTz MSc0.u 21 ?_; (try go_frame)
   refine wpAnyH_done (by kernel_rfl) ?_ _
   go_wp2
   go_meet
   case rel => exact ⟨by rw [HO.out], hH⟩
  ·cases hq : (p.kind 7 == 4 && p.side 7 == 0)
   ·have HO := hid (show B1 = false by rw [HS.out, hq]; simp)
    clear HS
    refine wp_region_held_drew (S := MSc0 p w) (by kernel_rfl) (hM.ext (Ext.drew (Ext.refl _))) (fun hH => ?_)
    refine hTz MSc0.u 0 ?_; (try go_frame)
    refine hTz MSc0.u 1 ?_; (try go_frame)
    refine hTz MSc0.u 2 ?_; (try go_frame)
    refine hTz MSc0.u 3 ?_; (try go_frame)
    refine hTz MSc0.u 4 ?_; (try go_frame)
    refine hTz MSc0.u 5 ?_; (try go_frame)
    refine hTz MSc0.u 6 ?_; (try go_frame)
    refine hTz MSc0.u 7 ?_; (try go_frame)
    refine hTz MSc0.u 8 ?_; (try go_frame)
    refine hTz MSc0.u 9 ?_; (try go_frame)
    refine hTz MSc0.u 10 ?_; (try go_frame)
    refine hTz MSc0.u 11 ?_; (try go_frame)
    refine hTz MSc0.u 12 ?_; (try go_frame)
    refine hTz MSc0.u 13 ?_; (try go_frame)
    refine hTn 14 ?_; (try go_frame)
    refine hTn 15 ?_; (try go_frame)
    refine hTn 16 ?_; (try go_frame)
    refine hTn 17 ?_; (try go_frame)
    refine hTn 18 ?_; (try go_frame)
    refine hTn 19 ?_; (try go_frame)
    refine hTn 20 ?_; (try go_frame)
    refine hTz MSc0.u 21 ?_; (try go_frame)
    refine wpAnyH_done (by kernel_rfl) ?_ _
    go_wp2
    go_meet
    case rel => exact ⟨by rw [HO.out], hH⟩
   ·have HO := hid (show B1 = freeB p [5, 6] by rw [HS.out, hq, show (p.castle / 1 % 2 == 1) = true by simp at hb ⊢; omega]; rfl)
    clear HS
    refine wp_region_held_drew (S := MSc0 p w) (by kernel_rfl) (hM.ext (Ext.drew (Ext.refl _))) (fun hH => ?_)
    refine hTz MSc0.u 0 ?_; (try go_frame)
    refine hTz MSc0.u 1 ?_; (try go_frame)
    refine hTz MSc0.u 2 ?_; (try go_frame)
    refine hTz MSc0.u 3 ?_; (try go_frame)
    refine hTz MSc0.u 4 ?_; (try go_frame)
    refine hTz MSc0.u 5 ?_; (try go_frame)
    refine hTz MSc0.u 6 ?_; (try go_frame)
    refine hTz MSc0.u 7 ?_; (try go_frame)
    refine hTz MSc0.u 8 ?_; (try go_frame)
    refine hTz MSc0.u 9 ?_; (try go_frame)
    refine hTz MSc0.u 10 ?_; (try go_frame)
    refine hTz MSc0.u 11 ?_; (try go_frame)
    refine hTz MSc0.u 12 ?_; (try go_frame)
    refine hTz MSc0.u 13 ?_; (try go_frame)
    refine hTz MSc0.u 14 ?_; (try go_frame)
    refine hTz MSc0.u 15 ?_; (try go_frame)
    refine hTz MSc0.u 16 ?_; (try go_frame)
    refine hTz MSc0.u 17 ?_; (try go_frame)
    refine hTz MSc0.u 18 ?_; (try go_frame)
    refine hRy [19] (hCp (fun K hK => ?_) AllReadyH.nil); go_simp
    refine hK.out _ _ (hH.ext (by first | assumption | exact Ext.alloc (Ext.refl _) _)) (fun hH => ?_); clear hK; (try go_frame)
    refine hRy [20] (hCp (fun K hK => ?_) AllReadyH.nil); go_simp
    refine (free_any2 p _ _ _ [5, 6] _ _ (Sl.lits [5, 6] _ _ rfl (alloc_ints2d _ _ _ _)) (by simp)).mono ?_
    rintro e w8 ⟨rfl, hx8⟩
    refine hK.out _ _ (hH.ext (by first | assumption | exact Ext.alloc (Ext.refl _) _)) (fun hH => ?_); clear hK; (try go_frame)
    refine hTz MSc0.u 21 ?_; (try go_frame)
    refine wpAnyH_done (by kernel_rfl) ?_ _
    go_wp2
    go_meet
    case rel => exact ⟨by rw [HO.out], hH⟩
 case rest =>
  obtain ⟨rfl, hM2⟩ := hcut
  clear hM
  go_upto_if 66 with (fail)
  go_cut [2] (fun s2 wx => wx.ownsRow (w.heap.size + 2) 3 1 s2 L1.length (ints L1) ∧ MSc0 p w wx)
  case first =>
   have HM := hid hM2
   have hsz := hM2.sz
   clear hM2
   cases B1
   ·go_wp2
    go_meet
    case rel => exact ⟨by rw [← HL1.out]; exact World.ownsRow_nil _ _ _ _, HM.out⟩
   ·go_wp2_with (at_builtin; refine wpList_append_int rfl _ _ rfl (w.heap.size + 2) (.slice none 0 0) 0 [] rfl (World.ownsRow_nil _ _ _ _) _ (.int .i64 (4 + 2)) rfl rfl ?c1 (by decide) ?c3 (fun v' w1 hown1 hg1 => ?_))
    case c3 => first | omega | (simp; omega)
    go_meet
    case rel => exact ⟨by rw [← HL1.out]; simpa [ints] using hown1, (HM.out.ext (Ext.alloc (Ext.refl _) _)).grown (World.ownsRow_nil _ _ _ _) hg1⟩
  case rest =>
   obtain ⟨ho, hM3⟩ := hcut
   clear hM2
   go_upto_region 8 with (fail)
   have hM := And.intro hM3 ho
   clear hM3 ho
   go_cut [2, 95] (fun s2 s95 wx => s95 = .bool B2 ∧ (MSc0 p w wx ∧ wx.ownsRow (w.heap.size + 2) 3 1 s2 L1.length (ints L1)))
   case first =>
    cases hb : (p.castle / 2 % 2 * 2 != 0)
    ·have HO := hid (show B2 = false by rw [HF.out, show (p.castle / 2 % 2 == 1) = false by simp at hb ⊢; omega]; rfl)
     clear HF
     have u := hid (fun W (h : (fun W => MSc0 p w W ∧ W.ownsRow (w.heap.size + 2) 3 1 u2 L1.length (ints L1)) W) => show (fun W => MSc0.T p w W ∧ W.ownsRow (w.heap.size + 2) 3 1 u2 L1.length (ints L1)) W from h)
     refine wp_region_held_drew (S := (fun W => MSc0 p w W ∧ W.ownsRow (w.heap.size + 2) 3 1 u2 L1.length (ints L1))) (by kernel_rfl) (⟨hM.1.ext (Ext.drew (Ext.refl _)), own_ext hM.2 (Ext.drew (Ext.refl _))⟩) (fun hH => ?_)
     refine hTz u.out 0 ?_; (try go_frame)
     refine hTz u.out 1 ?_; (try go_frame)
     refine hTz u.out 2 ?_; (try go_frame)
     refine hTz u.out 3 ?_; (try go_frame)
     refine hTn 4 ?_; (try go_frame)
     refine hTn 5 ?_; (try go_frame)
     refine hTn 6 ?_; (try go_frame)
     refine hTn 7 ?_; (try go_frame)
     refine hTn 8 ?_; (try go_frame)
     refine hTn 9 ?_; (try go_frame)
     refine hTn 10 ?_; (try go_frame)
     refine hTn 11 ?_; (try go_frame)
     refine hTz u.out 12 ?_; (try go_frame)
     refine hTz u.out 13 ?_; (try go_frame)
     refine hTn 14 ?_; (try go_frame)
     refine hTn 15 ?_; (try go_frame)
     refine hTn 16 ?_; (try go_frame)
     refine hTn 17 ?_; (try go_frame)
     refine hTn 18 ?_; (try go_frame)
     refine hTn 19 ?_; (try go_frame)
     refine hTn 20 ?_; (try go_frame)
     refine hTn 21 ?_; (try go_frame)
     refine hTn 22 ?_; (try go_frame)
     refine hTz u.out 23 ?_; (try go_frame)
     refine wpAnyH_done (by kernel_rfl) ?_ _
     go_wp2
     go_meet
     case rel => exact ⟨by rw [HO.out], hH⟩
    ·cases hq : (p.kind 0 == 4 && p.side 0 == 0)
     ·have HO := hid (show B2 = false by rw [HF.out, hq]; simp)
      clear HF
      have u := hid (fun W (h : (fun W => MSc0 p w W ∧ W.ownsRow (w.heap.size + 2) 3 1 u2 L1.length (ints L1)) W) => show (fun W => MSc0.T p w W ∧ W.ownsRow (w.heap.size + 2) 3 1 u2 L1.length (ints L1)) W from h)
      refine wp_region_held_drew (S := (fun W => MSc0 p w W ∧ W.ownsRow (w.heap.size + 2) 3 1 u2 L1.length (ints L1))) (by kernel_rfl) (⟨hM.1.ext (Ext.drew (Ext.refl _)), own_ext hM.2 (Ext.drew (Ext.refl _))⟩) (fun hH => ?_)
      refine hTz u.out 0 ?_; (try go_frame)
      refine hTz u.out 1 ?_; (try go_frame)
      refine hTz u.out 2 ?_; (try go_frame)
      refine hTz u.out 3 ?_; (try go_frame)
      refine hTz u.out 4 ?_; (try go_frame)
      refine hTz u.out 5 ?_; (try go_frame)
      refine hTz u.out 6 ?_; (try go_frame)
      refine hTz u.out 7 ?_; (try go_frame)
      refine hTz u.out 8 ?_; (try go_frame)
      refine hTz u.out 9 ?_; (try go_frame)
      refine hTz u.out 10 ?_; (try go_frame)
      refine hTz u.out 11 ?_; (try go_frame)
      refine hTz u.out 12 ?_; (try go_frame)
      refine hTz u.out 13 ?_; (try go_frame)
      refine hTn 14 ?_; (try go_frame)
      refine hTn 15 ?_; (try go_frame)
      refine hTn 16 ?_; (try go_frame)
      refine hTn 17 ?_; (try go_frame)
      refine hTn 18 ?_; (try go_frame)
      refine hTn 19 ?_; (try go_frame)
      refine hTn 20 ?_; (try go_frame)
      refine hTn 21 ?_; (try go_frame)
      refine hTn 22 ?_; (try go_frame)
      refine hTz u.out 23 ?_; (try go_frame)
      refine wpAnyH_done (by kernel_rfl) ?_ _
      go_wp2
      go_meet
      case rel => exact ⟨by rw [HO.out], hH⟩
     ·have HO := hid (show B2 = freeB p [3, 2, 1] by rw [HF.out, hq, show (p.castle / 2 % 2 == 1) = true by simp at hb ⊢; omega]; rfl)
      clear HF
      have u := hid (fun W (h : (fun W => MSc0 p w W ∧ W.ownsRow (w.heap.size + 2) 3 1 u2 L1.length (ints L1)) W) => show (fun W => MSc0.T p w W ∧ W.ownsRow (w.heap.size + 2) 3 1 u2 L1.length (ints L1)) W from h)
      refine wp_region_held_drew (S := (fun W => MSc0 p w W ∧ W.ownsRow (w.heap.size + 2) 3 1 u2 L1.length (ints L1))) (by kernel_rfl) (⟨hM.1.ext (Ext.drew (Ext.refl _)), own_ext hM.2 (Ext.drew (Ext.refl _))⟩) (fun hH => ?_)
      refine hTz u.out 0 ?_; (try go_frame)
      refine hTz u.out 1 ?_; (try go_frame)
      refine hTz u.out 2 ?_; (try go_frame)
      refine hTz u.out 3 ?_; (try go_frame)
      refine hTz u.out 4 ?_; (try go_frame)
      refine hTz u.out 5 ?_; (try go_frame)
      refine hTz u.out 6 ?_; (try go_frame)
      refine hTz u.out 7 ?_; (try go_frame)
      refine hTz u.out 8 ?_; (try go_frame)
      refine hTz u.out 9 ?_; (try go_frame)
      refine hTz u.out 10 ?_; (try go_frame)
      refine hTz u.out 11 ?_; (try go_frame)
      refine hTz u.out 12 ?_; (try go_frame)
      refine hTz u.out 13 ?_; (try go_frame)
      refine hTz u.out 14 ?_; (try go_frame)
      refine hTz u.out 15 ?_; (try go_frame)
      refine hTz u.out 16 ?_; (try go_frame)
      refine hTz u.out 17 ?_; (try go_frame)
      refine hTz u.out 18 ?_; (try go_frame)
      refine hTz u.out 19 ?_; (try go_frame)
      refine hTz u.out 20 ?_; (try go_frame)
      refine hRy [21] (hCp (fun K hK => ?_) AllReadyH.nil); go_simp
      refine hK.out _ _ (⟨hH.1.ext (by first | assumption | exact Ext.alloc (Ext.refl _) _), own_ext hH.2 (by first | assumption | exact Ext.alloc (Ext.refl _) _)⟩) (fun hH => ?_); clear hK; (try go_frame)
      refine hRy [22] (hCp (fun K hK => ?_) AllReadyH.nil); go_simp
      refine (free_any2 p _ _ _ [3, 2, 1] _ _ (Sl.lits [3, 2, 1] _ _ rfl (alloc_ints3d _ _ _ _ _)) (by simp)).mono ?_
      rintro e w8 ⟨rfl, hx8⟩
      refine hK.out _ _ (⟨hH.1.ext (by first | assumption | exact Ext.alloc (Ext.refl _) _), own_ext hH.2 (by first | assumption | exact Ext.alloc (Ext.refl _) _)⟩) (fun hH => ?_); clear hK; (try go_frame)
      refine hTz u.out 23 ?_; (try go_frame)
      refine wpAnyH_done (by kernel_rfl) ?_ _
      go_wp2
      go_meet
      case rel => exact ⟨by rw [HO.out], hH⟩
   case rest =>
    obtain ⟨rfl, hM4⟩ := hcut
    clear hM
    go_upto_if 95 with (fail)
    have hsz := hM4.1.sz
    have HM := hid hM4
    clear hM4
    cases B2
    ·go_wp2
     go_ret
     exact RetInts.mk' HM.out.2 (by rw [← HL2.out]; simp) (by rw [← HL2.out]; simp) (by omega) HM.out.1.x
    ·go_wp2_with (at_builtin; refine wpList_append_int rfl _ _ rfl (w.heap.size + 2) _ L1.length (ints L1) rfl (own_ext HM.out.2 (Ext.alloc (Ext.refl _) _)) _ (.int .i64 (4 - 2)) rfl rfl ?d1 (by omega) ?d3 (fun v' w1 hown1 hg1 => ?_))
     case d3 => first | omega | (simp; omega)
     go_ret
     exact RetInts.mk' hown1 (by rw [← HL2.out]; simp) (by rw [← HL2.out]; simp [ints]) (by omega) ((HM.out.1.ext (Ext.alloc (Ext.refl _) _)).grown (own_ext HM.out.2 (Ext.alloc (Ext.refl _) _)) hg1).x
abbrev MSc1.T (p : Pos) (w W : World) : Prop :=
 blk W w.heap.size = some (.cells (moverCells p 60 6 1) 219 (0, 0)) ∧ blk W (w.heap.size + 1) = some (.cells #[.int .i64 4, .int .i64 1] 26 (0, 0)) ∧ Ext w W ∧
 W.cell? ⟨w.heap.size + 1, 0, none⟩ = some (.int .i64 4) ∧ W.cell? ⟨w.heap.size + 1, 1, none⟩ = some (.int .i64 1) ∧
 W.cell? ⟨w.heap.size, 126, none⟩ = some (.int .i64 (p.kind 63)) ∧ W.cell? ⟨w.heap.size, 126 + 1, none⟩ = some (.int .i64 (p.side 63)) ∧ W.cell? ⟨w.heap.size, 112, none⟩ = some (.int .i64 (p.kind 56)) ∧ W.cell? ⟨w.heap.size, 112 + 1, none⟩ = some (.int .i64 (p.side 56)) ∧
 W.cell? ⟨w.heap.size, 126 + 1, none⟩ = some (.int .i64 (p.side 63)) ∧ W.cell? ⟨w.heap.size, 127, none⟩ = some (.int .i64 (p.side 63)) ∧ W.cell? ⟨w.heap.size, 113, none⟩ = some (.int .i64 (p.side 56))
def MSc1 (p : Pos) (w W : World) : Prop := MSc1.T p w W
theorem MSc1.u {p w} (W) (h : MSc1 p w W) : MSc1.T p w W := h
theorem MSc1.mk' {p : Pos} {w W : World} (h1 : blk W w.heap.size = some (.cells (moverCells p 60 6 1) 219 (0, 0))) (h2 : blk W (w.heap.size + 1) = some (.cells #[.int .i64 4, .int .i64 1] 26 (0, 0))) (h3 : Ext w W) : MSc1 p w W :=
 ⟨h1, h2, h3, blk_cell h2 0, blk_cell h2 1, mc_kind h1 63 (by decide), mc_side h1 63 (by decide), mc_kind h1 56 (by decide), mc_side h1 56 (by decide), mc_side h1 63 (by decide), mc_side h1 63 (by decide), mc_side h1 56 (by decide)⟩
theorem MSc1.ext {p : Pos} {w W W' : World} (h : MSc1 p w W) (hx : Ext W W') : MSc1 p w W' :=
 MSc1.mk' ((hx.blk _ (blk_lt h.1)).trans h.1) ((hx.blk _ (blk_lt h.2.1)).trans h.2.1) (h.2.2.1.trans hx)
theorem MSc1.x {p : Pos} {w W : World} (h : MSc1 p w W) : Ext w W := h.2.2.1
theorem MSc1.sz {p : Pos} {w W : World} (h : MSc1 p w W) : w.heap.size + 2 ≤ W.heap.size := blk_lt h.2.1
theorem MSc1.grown {p : Pos} {w W W' : World} (h : MSc1 p w W) {v : Value} {n : Nat} {xs : List Value} (ho : W.ownsRow (w.heap.size + 2) 3 1 v n xs) (hx : W.grownBy W' v.ownBlock) : MSc1 p w W' :=
 have hr : ∀ x, v.ownBlock = some x → w.heap.size + 2 ≤ x := fun x hx => (ho.lt x hx).1
 MSc1.mk' ((hx.block _ (blk_lt h.1) (fun e => by have := hr _ e.symm; omega)).trans h.1) ((hx.block _ (blk_lt h.2.1) (fun e => by have := hr _ e.symm; omega)).trans h.2.1) (Below.grown h.2.2.1 hx h.2.2.1.le fun x hx' => by have := hr x hx'; omega)
theorem castlings_yes1 (p : Pos) (w : World) (p0 : 0 ≤ p.castle) (p1 : p.castle ≤ 15) : Calls Tryz.prog 204 #[.agg (moverCells p 60 6 1)] w (RetInts ((if shortB p 1 = true then [60 + 2] else []) ++ (if farB p 1 = true then [60 - 2] else [])) w) := by
 have HS := hid (show shortB p 1 = (p.castle / 4 % 2 == 1 && (p.kind 63 == 4 && p.side 63 == 1) && freeB p [60 + 1, 60 + 2]) from rfl)
 have HF := hid (show farB p 1 = (p.castle / 8 % 2 == 1 && (p.kind 56 == 4 && p.side 56 == 1) && freeB p [60 - 1, 60 - 2, 60 - 3]) from rfl)
 have z56 : IntKind.i64.wrap 56 = 56 := by decide
 have z57 : IntKind.i64.wrap 57 = 57 := by decide
 have z58 : IntKind.i64.wrap 58 = 58 := by decide
 have z59 : IntKind.i64.wrap 59 = 59 := by decide
 have z61 : IntKind.i64.wrap 61 = 61 := by decide
 have z62 : IntKind.i64.wrap 62 = 62 := by decide
 have z63 : IntKind.i64.wrap 63 = 63 := by decide
 generalize hL1 : (if shortB p 1 = true then [(60 : Int) + 2] else []) = L1 at *
 generalize hL2 : (if farB p 1 = true then [(60 : Int) - 2] else []) = L2 at *
 generalize hB1 : shortB p 1 = B1 at *
 generalize hB2 : farB p 1 = B2 at *
 have HL1 := hid hL1
 have HL2 := hid hL2
 have hlen : L1.length ≤ 1 := by rw [← hL1]; split <;> simp
 clear hB1 hB2 hL1 hL2
 have y0 : 0 ≤ p.castle / 4 := by omega
 have y1 : p.castle / 4 ≤ 15 := by omega
 go_enter Tryz.func204, Tryz.ntmps204
 go_upto_region 6 with (fail)
 have hM0 : MSc1 p w ((w.alloc (.cells (moverCells p 60 6 1) 219 (0, 0))).alloc (.cells #[.int .i64 4, .int .i64 1] 26 (0, 0))) := MSc1.mk' (by simp [go_sem]) (blk_alloc_at _ _ _ (by simp)) (Ext.auto)
 refine world_cut (fun W => MSc1 p w W) hM0 ?_
 clear hM0
 intro W hM
 go_cut [66] (fun s66 wx => s66 = .bool B1 ∧ MSc1 p w wx)
 case first =>
  cases hb : (p.castle / 4 % 2 != 0)
  ·have HO := hid (show B1 = false by rw [HS.out, show (p.castle / 4 % 2 == 1) = false by simp at hb ⊢; omega]; rfl)
   clear HS
   refine wp_region_held_drew (S := MSc1 p w) (by kernel_rfl) (hM.ext (Ext.drew (Ext.refl _))) (fun hH => ?_)
   refine hTz MSc1.u 0 ?_; (try go_frame)
   refine hTz MSc1.u 1 ?_; (try go_frame)
   refine hTz MSc1.u 2 ?_; (try go_frame)
   refine hTz MSc1.u 3 ?_; (try go_frame)
   refine hTn 4 ?_; (try go_frame)
   refine hTn 5 ?_; (try go_frame)
   refine hTn 6 ?_; (try go_frame)
   refine hTn 7 ?_; (try go_frame)
   refine hTn 8 ?_; (try go_frame)
   refine hTn 9 ?_; (try go_frame)
   refine hTn 10 ?_; (try go_frame)
   refine hTn 11 ?_; (try go_frame)
   refine hTz MSc1.u 12 ?_; (try go_frame)
   refine hTz MSc1.u 13 ?_; (try go_frame)
   refine hTn 14 ?_; (try go_frame)
   refine hTn 15 ?_; (try go_frame)
   refine hTn 16 ?_; (try go_frame)
   refine hTn 17 ?_; (try go_frame)
   refine hTn 18 ?_; (try go_frame)
   refine hTn 19 ?_; (try go_frame)
   refine hTn 20 ?_; (try go_frame)
   refine hTz MSc1.u 21 ?_; (try go_frame)
   refine wpAnyH_done (by kernel_rfl) ?_ _
   go_wp2
   go_meet
   case rel => exact ⟨by rw [HO.out], hH⟩
  ·cases hq : (p.kind 63 == 4 && p.side 63 == 1)
   ·have HO := hid (show B1 = false by rw [HS.out, hq]; simp)
    clear HS
    refine wp_region_held_drew (S := MSc1 p w) (by kernel_rfl) (hM.ext (Ext.drew (Ext.refl _))) (fun hH => ?_)
    refine hTz MSc1.u 0 ?_; (try go_frame)
    refine hTz MSc1.u 1 ?_; (try go_frame)
    refine hTz MSc1.u 2 ?_; (try go_frame)
    refine hTz MSc1.u 3 ?_; (try go_frame)
    refine hTz MSc1.u 4 ?_; (try go_frame)
    refine hTz MSc1.u 5 ?_; (try go_frame)
    refine hTz MSc1.u 6 ?_; (try go_frame)
    refine hTz MSc1.u 7 ?_; (try go_frame)
    refine hTz MSc1.u 8 ?_; (try go_frame)
    refine hTz MSc1.u 9 ?_; (try go_frame)
    refine hTz MSc1.u 10 ?_; (try go_frame)
    refine hTz MSc1.u 11 ?_; (try go_frame)
    refine hTz MSc1.u 12 ?_; (try go_frame)
    refine hTz MSc1.u 13 ?_; (try go_frame)
    refine hTn 14 ?_; (try go_frame)
    refine hTn 15 ?_; (try go_frame)
    refine hTn 16 ?_; (try go_frame)
    refine hTn 17 ?_; (try go_frame)
    refine hTn 18 ?_; (try go_frame)
    refine hTn 19 ?_; (try go_frame)
    refine hTn 20 ?_; (try go_frame)
    refine hTz MSc1.u 21 ?_; (try go_frame)
    refine wpAnyH_done (by kernel_rfl) ?_ _
    go_wp2
    go_meet
    case rel => exact ⟨by rw [HO.out], hH⟩
   ·have HO := hid (show B1 = freeB p [61, 62] by rw [HS.out, hq, show (p.castle / 4 % 2 == 1) = true by simp at hb ⊢; omega]; rfl)
    clear HS
    refine wp_region_held_drew (S := MSc1 p w) (by kernel_rfl) (hM.ext (Ext.drew (Ext.refl _))) (fun hH => ?_)
    refine hTz MSc1.u 0 ?_; (try go_frame)
    refine hTz MSc1.u 1 ?_; (try go_frame)
    refine hTz MSc1.u 2 ?_; (try go_frame)
    refine hTz MSc1.u 3 ?_; (try go_frame)
    refine hTz MSc1.u 4 ?_; (try go_frame)
    refine hTz MSc1.u 5 ?_; (try go_frame)
    refine hTz MSc1.u 6 ?_; (try go_frame)
    refine hTz MSc1.u 7 ?_; (try go_frame)
    refine hTz MSc1.u 8 ?_; (try go_frame)
    refine hTz MSc1.u 9 ?_; (try go_frame)
    refine hTz MSc1.u 10 ?_; (try go_frame)
    refine hTz MSc1.u 11 ?_; (try go_frame)
    refine hTz MSc1.u 12 ?_; (try go_frame)
    refine hTz MSc1.u 13 ?_; (try go_frame)
    refine hTz MSc1.u 14 ?_; (try go_frame)
    refine hTz MSc1.u 15 ?_; (try go_frame)
    refine hTz MSc1.u 16 ?_; (try go_frame)
    refine hTz MSc1.u 17 ?_; (try go_frame)
    refine hTz MSc1.u 18 ?_; (try go_frame)
    refine hRy [19] (hCp (fun K hK => ?_) AllReadyH.nil); go_simp
    refine hK.out _ _ (hH.ext (by first | assumption | exact Ext.alloc (Ext.refl _) _)) (fun hH => ?_); clear hK; (try go_frame)
    refine hRy [20] (hCp (fun K hK => ?_) AllReadyH.nil); go_simp
    refine (free_any2 p _ _ _ [61, 62] _ _ (Sl.lits [61, 62] _ _ rfl (alloc_ints2d _ _ _ _)) (by simp)).mono ?_
    rintro e w8 ⟨rfl, hx8⟩
    refine hK.out _ _ (hH.ext (by first | assumption | exact Ext.alloc (Ext.refl _) _)) (fun hH => ?_); clear hK; (try go_frame)
    refine hTz MSc1.u 21 ?_; (try go_frame)
    refine wpAnyH_done (by kernel_rfl) ?_ _
    go_wp2
    go_meet
    case rel => exact ⟨by rw [HO.out], hH⟩
 case rest =>
  obtain ⟨rfl, hM2⟩ := hcut
  clear hM
  go_upto_if 66 with (fail)
  go_cut [2] (fun s2 wx => wx.ownsRow (w.heap.size + 2) 3 1 s2 L1.length (ints L1) ∧ MSc1 p w wx)
  case first =>
   have HM := hid hM2
   have hsz := hM2.sz
   clear hM2
   cases B1
   ·go_wp2
    go_meet
    case rel => exact ⟨by rw [← HL1.out]; exact World.ownsRow_nil _ _ _ _, HM.out⟩
   ·go_wp2_with (at_builtin; refine wpList_append_int rfl _ _ rfl (w.heap.size + 2) (.slice none 0 0) 0 [] rfl (World.ownsRow_nil _ _ _ _) _ (.int .i64 (60 + 2)) rfl rfl ?c1 (by decide) ?c3 (fun v' w1 hown1 hg1 => ?_))
    case c3 => first | omega | (simp; omega)
    go_meet
    case rel => exact ⟨by rw [← HL1.out]; simpa [ints] using hown1, (HM.out.ext (Ext.alloc (Ext.refl _) _)).grown (World.ownsRow_nil _ _ _ _) hg1⟩
  case rest =>
   obtain ⟨ho, hM3⟩ := hcut
   clear hM2
   go_upto_region 8 with (fail)
   have hM := And.intro hM3 ho
   clear hM3 ho
   go_cut [2, 95] (fun s2 s95 wx => s95 = .bool B2 ∧ (MSc1 p w wx ∧ wx.ownsRow (w.heap.size + 2) 3 1 s2 L1.length (ints L1)))
   case first =>
    cases hb : (p.castle / 4 / 2 % 2 * 2 != 0)
    ·have HO := hid (show B2 = false by rw [HF.out, show (p.castle / 8 % 2 == 1) = false by simp at hb ⊢; omega]; rfl)
     clear HF
     have u := hid (fun W (h : (fun W => MSc1 p w W ∧ W.ownsRow (w.heap.size + 2) 3 1 u2 L1.length (ints L1)) W) => show (fun W => MSc1.T p w W ∧ W.ownsRow (w.heap.size + 2) 3 1 u2 L1.length (ints L1)) W from h)
     refine wp_region_held_drew (S := (fun W => MSc1 p w W ∧ W.ownsRow (w.heap.size + 2) 3 1 u2 L1.length (ints L1))) (by kernel_rfl) (⟨hM.1.ext (Ext.drew (Ext.refl _)), own_ext hM.2 (Ext.drew (Ext.refl _))⟩) (fun hH => ?_)
     refine hTz u.out 0 ?_; (try go_frame)
     refine hTz u.out 1 ?_; (try go_frame)
     refine hTz u.out 2 ?_; (try go_frame)
     refine hTz u.out 3 ?_; (try go_frame)
     refine hTn 4 ?_; (try go_frame)
     refine hTn 5 ?_; (try go_frame)
     refine hTn 6 ?_; (try go_frame)
     refine hTn 7 ?_; (try go_frame)
     refine hTn 8 ?_; (try go_frame)
     refine hTn 9 ?_; (try go_frame)
     refine hTn 10 ?_; (try go_frame)
     refine hTn 11 ?_; (try go_frame)
     refine hTz u.out 12 ?_; (try go_frame)
     refine hTz u.out 13 ?_; (try go_frame)
     refine hTn 14 ?_; (try go_frame)
     refine hTn 15 ?_; (try go_frame)
     refine hTn 16 ?_; (try go_frame)
     refine hTn 17 ?_; (try go_frame)
     refine hTn 18 ?_; (try go_frame)
     refine hTn 19 ?_; (try go_frame)
     refine hTn 20 ?_; (try go_frame)
     refine hTn 21 ?_; (try go_frame)
     refine hTn 22 ?_; (try go_frame)
     refine hTz u.out 23 ?_; (try go_frame)
     refine wpAnyH_done (by kernel_rfl) ?_ _
     go_wp2
     go_meet
     case rel => exact ⟨by rw [HO.out], hH⟩
    ·cases hq : (p.kind 56 == 4 && p.side 56 == 1)
     ·have HO := hid (show B2 = false by rw [HF.out, hq]; simp)
      clear HF
      have u := hid (fun W (h : (fun W => MSc1 p w W ∧ W.ownsRow (w.heap.size + 2) 3 1 u2 L1.length (ints L1)) W) => show (fun W => MSc1.T p w W ∧ W.ownsRow (w.heap.size + 2) 3 1 u2 L1.length (ints L1)) W from h)
      refine wp_region_held_drew (S := (fun W => MSc1 p w W ∧ W.ownsRow (w.heap.size + 2) 3 1 u2 L1.length (ints L1))) (by kernel_rfl) (⟨hM.1.ext (Ext.drew (Ext.refl _)), own_ext hM.2 (Ext.drew (Ext.refl _))⟩) (fun hH => ?_)
      refine hTz u.out 0 ?_; (try go_frame)
      refine hTz u.out 1 ?_; (try go_frame)
      refine hTz u.out 2 ?_; (try go_frame)
      refine hTz u.out 3 ?_; (try go_frame)
      refine hTz u.out 4 ?_; (try go_frame)
      refine hTz u.out 5 ?_; (try go_frame)
      refine hTz u.out 6 ?_; (try go_frame)
      refine hTz u.out 7 ?_; (try go_frame)
      refine hTz u.out 8 ?_; (try go_frame)
      refine hTz u.out 9 ?_; (try go_frame)
      refine hTz u.out 10 ?_; (try go_frame)
      refine hTz u.out 11 ?_; (try go_frame)
      refine hTz u.out 12 ?_; (try go_frame)
      refine hTz u.out 13 ?_; (try go_frame)
      refine hTn 14 ?_; (try go_frame)
      refine hTn 15 ?_; (try go_frame)
      refine hTn 16 ?_; (try go_frame)
      refine hTn 17 ?_; (try go_frame)
      refine hTn 18 ?_; (try go_frame)
      refine hTn 19 ?_; (try go_frame)
      refine hTn 20 ?_; (try go_frame)
      refine hTn 21 ?_; (try go_frame)
      refine hTn 22 ?_; (try go_frame)
      refine hTz u.out 23 ?_; (try go_frame)
      refine wpAnyH_done (by kernel_rfl) ?_ _
      go_wp2
      go_meet
      case rel => exact ⟨by rw [HO.out], hH⟩
     ·have HO := hid (show B2 = freeB p [59, 58, 57] by rw [HF.out, hq, show (p.castle / 8 % 2 == 1) = true by simp at hb ⊢; omega]; rfl)
      clear HF
      have u := hid (fun W (h : (fun W => MSc1 p w W ∧ W.ownsRow (w.heap.size + 2) 3 1 u2 L1.length (ints L1)) W) => show (fun W => MSc1.T p w W ∧ W.ownsRow (w.heap.size + 2) 3 1 u2 L1.length (ints L1)) W from h)
      refine wp_region_held_drew (S := (fun W => MSc1 p w W ∧ W.ownsRow (w.heap.size + 2) 3 1 u2 L1.length (ints L1))) (by kernel_rfl) (⟨hM.1.ext (Ext.drew (Ext.refl _)), own_ext hM.2 (Ext.drew (Ext.refl _))⟩) (fun hH => ?_)
      refine hTz u.out 0 ?_; (try go_frame)
      refine hTz u.out 1 ?_; (try go_frame)
      refine hTz u.out 2 ?_; (try go_frame)
      refine hTz u.out 3 ?_; (try go_frame)
      refine hTz u.out 4 ?_; (try go_frame)
      refine hTz u.out 5 ?_; (try go_frame)
      refine hTz u.out 6 ?_; (try go_frame)
      refine hTz u.out 7 ?_; (try go_frame)
      refine hTz u.out 8 ?_; (try go_frame)
      refine hTz u.out 9 ?_; (try go_frame)
      refine hTz u.out 10 ?_; (try go_frame)
      refine hTz u.out 11 ?_; (try go_frame)
      refine hTz u.out 12 ?_; (try go_frame)
      refine hTz u.out 13 ?_; (try go_frame)
      refine hTz u.out 14 ?_; (try go_frame)
      refine hTz u.out 15 ?_; (try go_frame)
      refine hTz u.out 16 ?_; (try go_frame)
      refine hTz u.out 17 ?_; (try go_frame)
      refine hTz u.out 18 ?_; (try go_frame)
      refine hTz u.out 19 ?_; (try go_frame)
      refine hTz u.out 20 ?_; (try go_frame)
      refine hRy [21] (hCp (fun K hK => ?_) AllReadyH.nil); go_simp
      refine hK.out _ _ (⟨hH.1.ext (by first | assumption | exact Ext.alloc (Ext.refl _) _), own_ext hH.2 (by first | assumption | exact Ext.alloc (Ext.refl _) _)⟩) (fun hH => ?_); clear hK; (try go_frame)
      refine hRy [22] (hCp (fun K hK => ?_) AllReadyH.nil); go_simp
      refine (free_any2 p _ _ _ [59, 58, 57] _ _ (Sl.lits [59, 58, 57] _ _ rfl (alloc_ints3d _ _ _ _ _)) (by simp)).mono ?_
      rintro e w8 ⟨rfl, hx8⟩
      refine hK.out _ _ (⟨hH.1.ext (by first | assumption | exact Ext.alloc (Ext.refl _) _), own_ext hH.2 (by first | assumption | exact Ext.alloc (Ext.refl _) _)⟩) (fun hH => ?_); clear hK; (try go_frame)
      refine hTz u.out 23 ?_; (try go_frame)
      refine wpAnyH_done (by kernel_rfl) ?_ _
      go_wp2
      go_meet
      case rel => exact ⟨by rw [HO.out], hH⟩
   case rest =>
    obtain ⟨rfl, hM4⟩ := hcut
    clear hM
    go_upto_if 95 with (fail)
    have hsz := hM4.1.sz
    have HM := hid hM4
    clear hM4
    cases B2
    ·go_wp2
     go_ret
     exact RetInts.mk' HM.out.2 (by rw [← HL2.out]; simp) (by rw [← HL2.out]; simp) (by omega) HM.out.1.x
    ·go_wp2_with (at_builtin; refine wpList_append_int rfl _ _ rfl (w.heap.size + 2) _ L1.length (ints L1) rfl (own_ext HM.out.2 (Ext.alloc (Ext.refl _) _)) _ (.int .i64 (60 - 2)) rfl rfl ?d1 (by omega) ?d3 (fun v' w1 hown1 hg1 => ?_))
     case d3 => first | omega | (simp; omega)
     go_ret
     exact RetInts.mk' hown1 (by rw [← HL2.out]; simp) (by rw [← HL2.out]; simp [ints]) (by omega) ((HM.out.1.ext (Ext.alloc (Ext.refl _) _)).grown (own_ext HM.out.2 (Ext.alloc (Ext.refl _) _)) hg1).x
theorem castlings_any (p : Pos) (a k s : Int) (w : World) (hs : s = 0 ∨ s = 1) : Calls Tryz.prog 204 #[.agg (moverCells p a k s)] w (RetInts (castlingsL p a k s) w) := by
 by_cases h : k = 6 ∧ a = homeOf s ∧ 0 ≤ p.castle ∧ p.castle ≤ 15
 ·have E : castlingsL p a k s = (if shortB p s = true then [homeOf s + 2] else []) ++ (if farB p s = true then [homeOf s - 2] else []) := if_pos h
  obtain ⟨rfl, rfl, c0, c1⟩ := h
  rw [E]
  rcases hs with rfl | rfl
  ·exact castlings_yes0 p w c0 c1
  ·exact castlings_yes1 p w c0 c1
 ·exact castlings_no p a k s w hs h
theorem ringL_sq (s : Int) (l : List (Int × Int)) : ∀ t ∈ ringL s l, 0 ≤ t ∧ t < 64 := by
 intro t ht
 simp only [ringL, List.mem_filter, List.mem_map] at ht
 obtain ⟨⟨x, _, rfl⟩, h2⟩ := ht
 have := step_bd s x.1 x.2
 have h3 : stepOf s x.1 x.2 ≠ -1 := by simpa using h2
 omega
def pawnTakes (p : Pos) (s t : Int) : Bool := (!bareB p t && p.side t.toNat == otherOf s) || (bareB p t && t == p.over)
def stepsL (p : Pos) (a s : Int) : List Int :=
 (if freeB p [stepOf a 0 (1 - 2 * s)] = true then [stepOf a 0 (1 - 2 * s)] else []) ++
 (if (rankOf a == 1 + 5 * s && freeB p [stepOf a 0 (1 - 2 * s), stepOf a 0 (2 * (1 - 2 * s))]) = true then [stepOf a 0 (2 * (1 - 2 * s))] else []) ++
 (FromL p a).filter (pawnTakes p s)
theorem freeB_one (p : Pos) (t : Int) (h0 : 0 ≤ t) (h1 : t < 64) : freeB p [t] = bareB p t := by simp [freeB, isSq, h0, h1]
theorem alloc_own {w : World} {base e size n : Nat} {v : Value} {xs : List Value} (h : w.ownsRow base e size v n xs) {w' : World} (hx : Ext w w') : w'.ownsRow base e size v n xs := own_ext h hx
abbrev MSs.T (p : Pos) (a k s : Int) (w W : World) : Prop := blk W w.heap.size = some (.cells (moverCells p a k s) 219 (0, 0)) ∧ Ext w W ∧ W.cell? ⟨w.heap.size, 133, none⟩ = some (.int .i64 a) ∧ W.cell? ⟨w.heap.size, 134, none⟩ = some (.int .i64 k) ∧ W.cell? ⟨w.heap.size, 135, none⟩ = some (.int .i64 s) ∧ W.cell? ⟨w.heap.size, 130, none⟩ = some (.int .i64 p.over)
def MSs (p : Pos) (a k s : Int) (w W : World) : Prop := MSs.T p a k s w W
theorem MSs.u {p a k s w} (W) (h : MSs p a k s w W) : MSs.T p a k s w W := h
theorem MSs.mk' {p : Pos} {a k s : Int} {w W : World} (h : blk W w.heap.size = some (.cells (moverCells p a k s) 219 (0, 0))) (hx : Ext w W) : MSs p a k s w W := ⟨h, hx, mc_at h, mc_k h, mc_s h, mc_over h⟩
theorem MSs.ext {p : Pos} {a k s : Int} {w W W' : World} (h : MSs p a k s w W) (hx : Ext W W') : MSs p a k s w W' := MSs.mk' ((hx.blk _ (blk_lt h.1)).trans h.1) (h.2.1.trans hx)
theorem MSs.sz {p : Pos} {a k s : Int} {w W : World} (h : MSs p a k s w W) : w.heap.size + 1 ≤ W.heap.size := blk_lt h.1
theorem MSs.grown {p : Pos} {a k s : Int} {w W W' : World} (h : MSs p a k s w W) {v : Value} {n : Nat} {xs : List Value} (ho : W.ownsRow (w.heap.size + 1) 3 1 v n xs) (hx : W.grownBy W' v.ownBlock) : MSs p a k s w W' :=
 have hr : ∀ x, v.ownBlock = some x → w.heap.size + 1 ≤ x := fun x hx => (ho.lt x hx).1
 MSs.mk' ((hx.block _ (blk_lt h.1) (fun e => by have := hr _ e.symm; omega)).trans h.1) (Below.grown h.2.1 hx h.2.1.le fun x hx' => by have := hr x hx'; omega)
theorem MSs.hb {p : Pos} {a k s : Int} {w W : World} (h : MSs p a k s w W) : blk W w.heap.size = some (.cells (moverCells p a k s) 219 (0, 0)) := h.1
theorem MSs.x {p : Pos} {a k s : Int} {w W : World} (h : MSs p a k s w W) : Ext w W := h.2.1
abbrev MSo.T (p : Pos) (a k s : Int) (w : World) (v : Value) (L : List Int) (W : World) : Prop := MSs p a k s w W ∧ W.ownsRow (w.heap.size + 1) 3 1 v L.length (ints L)
def MSo (p : Pos) (a k s : Int) (w : World) (v : Value) (L : List Int) (W : World) : Prop := MSo.T p a k s w v L W
theorem MSo.u {p a k s w v L} (W) (h : MSo p a k s w v L W) : MSo.T p a k s w v L W := h
theorem MSo.ext {p : Pos} {a k s : Int} {w W W' : World} {v : Value} {L : List Int} (h : MSo p a k s w v L W) (hx : Ext W W') : MSo p a k s w v L W' := ⟨h.1.ext hx, own_ext h.2 hx⟩
theorem MSo.put {p : Pos} {a k s x : Int} {w W W' : World} {v v' : Value} {L : List Int} (h : MSo p a k s w v L W) (ho : W'.ownsRow (w.heap.size + 1) 3 1 v' (L.length + 1) (ints L ++ [.int .i64 x])) (hg : W.grownBy W' v.ownBlock) : MSo p a k s w v' (L ++ [x]) W' :=
 ⟨h.1.grown h.2 hg, by rw [List.length_append, ints_append]; exact ho⟩
theorem free_1 (p : Pos) (a k s x : Int) (w : World) (t : TypeId) : Calls Tryz.prog 225 #[.agg (moverCells p a k s), .slice (some ⟨w.heap.size, 0, none⟩) 1 1] (w.alloc (.cells #[.int .i64 x] t (0, 0))) (Ret (.bool (freeB p [x])) (w.alloc (.cells #[.int .i64 x] t (0, 0)))) :=
 free_any2 p a k s [x] _ _ (Sl.lits [x] _ _ rfl (alloc_ints1 _ _ _)) (by simp)
theorem free_1d (p : Pos) (a k s x : Int) (w : World) (t : TypeId) : Calls Tryz.prog 225 #[.agg (moverCells p a k s), .slice (some ⟨w.heap.size, 0, none⟩) 1 1] (w.alloc (.cells #[.int .i64 x] t (0, 0))).drew (Ret (.bool (freeB p [x])) (w.alloc (.cells #[.int .i64 x] t (0, 0))).drew) :=
 free_any2 p a k s [x] _ _ (Sl.lits [x] _ _ rfl (alloc_ints1d _ _ _)) (by simp)
theorem free_at (p : Pos) (a k s x : Int) (b : Nat) (w : World) (h : blk w b = some (.cells #[.int .i64 x] 3 (0, 0))) : Calls Tryz.prog 225 #[.agg (moverCells p a k s), .slice (some ⟨b, 0, none⟩) 1 1] w (Ret (.bool (freeB p [x])) w) :=
 free_any2 p a k s [x] _ _ (Sl.lits [x] _ _ rfl h) (by simp)
theorem Sl.grownN {w w' : World} {size n : Nat} {v : Value} {cs : List Value} {r : Option Nat} (h : Sl w size v n cs) (hg : w.grownBy w' r) (hne : ∀ b off cap, v = .slice (some ⟨b, off, none⟩) n cap → r ≠ some b) : Sl w' size v n cs := by
 refine ⟨h.1, ?_⟩
 rcases h.2 with h | ⟨b, off, cap, hv, hb, hc⟩
 ·exact .inl h
 ·refine .inr ⟨b, off, cap, hv, Nat.lt_of_lt_of_le hb hg.size, fun j u hu => ?_⟩
  rw [← hc j u hu]
  exact World.cell?_of_block (hg.block b hb (fun e => hne b off cap hv e.symm))
def apartV (a : Option Addr) (v : Value) (w : World) : Prop := ∀ b o, a = some ⟨b, o, none⟩ → v.ownBlock ≠ some b ∧ b < w.heap.size
abbrev MSq.T (p : Pos) (wr : World) (t : Int) (W : World) : Prop := Ext wr W ∧ blk W wr.heap.size = some (.cells #[.int .i64 (p.kind t.toNat), .int .i64 (p.side t.toNat)] 26 (0, 0)) ∧ W.cell? ⟨wr.heap.size, 0, none⟩ = some (.int .i64 (p.kind t.toNat)) ∧ W.cell? ⟨wr.heap.size, 1, none⟩ = some (.int .i64 (p.side t.toNat))
def MSq (p : Pos) (wr : World) (t : Int) (W : World) : Prop := MSq.T p wr t W
theorem MSq.u {p wr t} (W) (h : MSq p wr t W) : MSq.T p wr t W := h
theorem MSq.mk' {p : Pos} {wr W : World} {t : Int} (hx : Ext wr W) (h : blk W wr.heap.size = some (.cells #[.int .i64 (p.kind t.toNat), .int .i64 (p.side t.toNat)] 26 (0, 0))) : MSq p wr t W := ⟨hx, h, blk_cell h 0, blk_cell h 1⟩
theorem MSq.ext {p : Pos} {wr W W' : World} {t : Int} (h : MSq p wr t W) (hx : Ext W W') : MSq p wr t W' := MSq.mk' (h.1.trans hx) ((hx.blk _ (blk_lt h.2.1)).trans h.2.1)
theorem filt_snoc {l : List Int} {f : Int → Bool} {j : Nat} {t : Int} (h : l[j]? = some t) : (l.take (j + 1)).filter f = (l.take j).filter f ++ if f t = true then [t] else [] := by
 rw [List.take_add_one, h, List.filter_append]
 congr 1
 simp only [Option.toList_some, List.filter_cons, List.filter_nil]
theorem filt_len {l : List Int} {f : Int → Bool} {j : Nat} : ((l.take j).filter f).length ≤ l.length := Nat.le_trans (List.length_filter_le _ _) (by simp; omega)
theorem FromL_sq {p : Pos} {a : Int} (h : p.kind a.toNat = 1) : ∀ t ∈ FromL p a, 0 ≤ t ∧ t < 64 := by
 intro t ht
 unfold FromL at ht
 split at ht
 ·rw [mem_sortL] at ht
  unfold fromL at ht
  dsimp only at ht
  rw [if_pos h] at ht
  split at ht
  ·exact ringL_sq _ _ t ht
  ·simp at ht
 ·simp at ht
theorem steps_any (p : Pos) (a s : Int) (w : World) (a0 : 0 ≤ a) (a1 : a < 64) (hk : p.kind a.toNat = 1) (hs : s = 0 ∨ s = 1) : Calls Tryz.prog 200 #[.agg (moverCells p a 1 s)] w (RetInts (stepsL p a s) w) := by
 have s0 : 0 ≤ s := by omega
 have s1 : s ≤ 1 := by omega
 have z1 : IntKind.i64.wrap (2 * (1 - 2 * s)) = 2 * (1 - 2 * s) := IntWalk.i64_in _ (by omega)
 have z2 : IntKind.i64.wrap (5 * s) = 5 * s := IntWalk.i64_in _ (by omega)
 have z3 : IntKind.i64.wrap (1 + 5 * s) = 1 + 5 * s := IntWalk.i64_in _ (by omega)
 have S1 := fun w => Step_any a 0 (1 - 2 * s) w (by omega) (by omega) (by omega) (by omega)
 have S2 := fun w => Step_any a 0 (2 * (1 - 2 * s)) w (by omega) (by omega) (by omega) (by omega)
 obtain ⟨X, hX⟩ : ∃ X, stepsL p a s = X := ⟨_, rfl⟩
 rw [hX]
 unfold stepsL at hX
 generalize h1 : stepOf a 0 (1 - 2 * s) = one at *
 generalize h2 : stepOf a 0 (2 * (1 - 2 * s)) = two at *
 generalize hB1 : freeB p [one] = B1 at *
 have HB1 := hid hB1
 generalize hB2 : (rankOf a == 1 + 5 * s && freeB p [one, two]) = B2 at *
 have HB2 := hid hB2
 generalize hL1 : (if B1 = true then [one] else []) = L1 at *
 have HL1 := hid hL1
 generalize hL2 : (if B2 = true then [two] else []) = L2 at *
 have HL2 := hid hL2
 have l1 : L1.length ≤ 1 := by rw [← hL1]; split <;> simp
 have l2 : L2.length ≤ 1 := by rw [← hL2]; split <;> simp
 have HX := hid hX
 clear h1 h2 hB1 hB2 hL1 hL2 hX
 go_enter Tryz.func200, Tryz.ntmps200
 go_wp2
 refine wp_quiet (by kernel_rfl) (by kernel_rfl) ?_; (repeat (first | go_big_quiet_step (first | (go_at_call 151; with_reducible exact Calls.reg (S1 _)) | (go_at_call 151; with_reducible exact Calls.reg (S2 _))) | quiet_step (first | (go_at_call 151; with_reducible exact Calls.reg (S1 _)) | (go_at_call 151; with_reducible exact Calls.reg (S2 _))))); refine wpQuiet_nil ?_; intro w1 hx; obtain ⟨hxc, hxf, hxb, hxs⟩ := hx.als; (try have := sW w w1); (try have := sW W w1)
 have hM : MSs p a 1 s w w1 := MSs.mk' ((hx.blk _ (by simp)).trans (blk_alloc_at _ _ _ rfl)) (Ext.trans (Ext.auto) hx)
 have hM1 := hM.hb
 have hM2 := hM.sz
 have H0 := hid hM
 clear hx hxc hxf hxb hxs hM
 go_upto_if 26 with (go_at_call 225; (with_reducible refine (free_1 p a 1 s one _ _).mono ?_); rintro e w2 ⟨rfl, hx2⟩)
 rw [HB1.out]
 have hM3 := H0.out.ext (Ext.trans (Ext.alloc (Ext.refl _) _) hx2)
 clear hM1 hM2 hx2 H0
 go_cut [2] (fun s2 wx => MSo p a 1 s w s2 L1 wx)
 case first =>
  have hsz := hM3.sz
  have HM := hid hM3
  clear hM3
  cases B1
  ·go_wp2
   go_meet
   case rel => exact ⟨HM.out, by rw [← HL1.out]; exact World.ownsRow_nil _ _ _ _⟩
  ·go_wp2_with (at_builtin; refine wpList_append_int rfl _ _ rfl (w.heap.size + 1) (.slice none 0 0) 0 [] rfl (World.ownsRow_nil _ _ _ _) _ (.int .i64 one) rfl rfl ?c1 (by decide) ?c3 (fun v' w1 hown1 hg1 => ?_))
   case c3 => first | omega | (simp; omega)
   go_meet
   case rel => exact ⟨(HM.out.ext (Ext.alloc (Ext.refl _) _)).grown (World.ownsRow_nil _ _ _ _) hg1, by rw [← HL1.out]; simpa [ints] using hown1⟩
 case rest =>
  clear hM3
  have hM := hcut
  clear hcut
  go_upto_region 5 with (fail)
  go_cut [2, 46] (fun s2 s46 wx => s46 = .bool B2 ∧ MSo p a 1 s w s2 L1 wx)
  case first =>
   cases hr : (rankOf a == 1 + 5 * s)
   ·have HO := hid (show B2 = false by rw [← HB2.out, hr]; rfl)
    clear HB2
    have u := hid (fun W (h : (fun W => MSs p a 1 s w W ∧ W.ownsRow (w.heap.size + 1) 3 1 u2 L1.length (ints L1)) W) => show (fun W => MSs.T p a 1 s w W ∧ W.ownsRow (w.heap.size + 1) 3 1 u2 L1.length (ints L1)) W from h)
    refine wp_region_held_drew (S := (fun W => MSs p a 1 s w W ∧ W.ownsRow (w.heap.size + 1) 3 1 u2 L1.length (ints L1))) (by kernel_rfl) (MSo.ext hM (Ext.drew (Ext.refl _))) (fun hH => ?_)
    refine hTz u.out 0 ?_; (try go_frame)
    refine hTz u.out 1 ?_; (try go_frame)
    refine hTz u.out 3 ?_; (try go_frame)
    refine hTz u.out 4 ?_; (try go_frame)
    refine hTz u.out 5 ?_; (try go_frame)
    refine hTz u.out 6 ?_; (try go_frame)
    refine hTz u.out 7 ?_; (try go_frame)
    refine hRy [2] (hCp (fun K hK => ?_) AllReadyH.nil); go_simp
    refine (Rank_any _ _).mono ?_
    rintro e w8 ⟨rfl, hx8⟩
    refine hK.out _ _ (MSo.ext hH (by first | assumption | exact Ext.alloc (Ext.refl _) _)) (fun hH => ?_); clear hK; (try go_frame)
    refine hTz u.out 8 ?_; (try go_frame)
    refine hTz u.out 9 ?_; (try go_frame)
    refine hTn 10 ?_; (try go_frame)
    refine hTn 11 ?_; (try go_frame)
    refine hTn 12 ?_; (try go_frame)
    refine hTn 13 ?_; (try go_frame)
    refine hTn 14 ?_; (try go_frame)
    refine hTz u.out 15 ?_; (try go_frame)
    refine wpAnyH_done (by kernel_rfl) ?_ _
    go_wp2
    go_meet
    case rel => exact ⟨by rw [HO.out], hH⟩
   ·have HO := hid (show B2 = freeB p [one, two] by rw [← HB2.out, hr]; rfl)
    clear HB2
    have u := hid (fun W (h : (fun W => MSs p a 1 s w W ∧ W.ownsRow (w.heap.size + 1) 3 1 u2 L1.length (ints L1)) W) => show (fun W => MSs.T p a 1 s w W ∧ W.ownsRow (w.heap.size + 1) 3 1 u2 L1.length (ints L1)) W from h)
    refine wp_region_held_drew (S := (fun W => MSs p a 1 s w W ∧ W.ownsRow (w.heap.size + 1) 3 1 u2 L1.length (ints L1))) (by kernel_rfl) (MSo.ext hM (Ext.drew (Ext.refl _))) (fun hH => ?_)
    refine hTz u.out 0 ?_; (try go_frame)
    refine hTz u.out 1 ?_; (try go_frame)
    refine hTz u.out 3 ?_; (try go_frame)
    refine hTz u.out 4 ?_; (try go_frame)
    refine hTz u.out 5 ?_; (try go_frame)
    refine hTz u.out 6 ?_; (try go_frame)
    refine hTz u.out 7 ?_; (try go_frame)
    refine hRy [2] (hCp (fun K hK => ?_) AllReadyH.nil); go_simp
    refine (Rank_any _ _).mono ?_
    rintro e w8 ⟨rfl, hx8⟩
    refine hK.out _ _ (MSo.ext hH (by first | assumption | exact Ext.alloc (Ext.refl _) _)) (fun hH => ?_); clear hK; (try go_frame)
    refine hTz u.out 8 ?_; (try go_frame)
    refine hTz u.out 9 ?_; (try go_frame)
    refine hTz u.out 10 ?_; (try go_frame)
    refine hTz u.out 11 ?_; (try go_frame)
    refine hTz u.out 12 ?_; (try go_frame)
    refine hRy [13] (hCp (fun K hK => ?_) AllReadyH.nil); go_simp
    refine hK.out _ _ (MSo.ext hH (by first | assumption | exact Ext.alloc (Ext.refl _) _)) (fun hH => ?_); clear hK; (try go_frame)
    refine hRy [14] (hCp (fun K hK => ?_) AllReadyH.nil); go_simp
    refine (free_any2 p _ _ _ [one, two] _ _ (Sl.lits [one, two] _ _ rfl (alloc_ints2 _ _ _ _)) (by simp)).mono ?_
    rintro e w9 ⟨rfl, hx9⟩
    refine hK.out _ _ (MSo.ext hH (by first | assumption | exact Ext.alloc (Ext.refl _) _)) (fun hH => ?_); clear hK; (try go_frame)
    refine hTz u.out 15 ?_; (try go_frame)
    refine wpAnyH_done (by kernel_rfl) ?_ _
    go_wp2
    go_meet
    case rel => exact ⟨by rw [HO.out], hH⟩
  case rest =>
   clear hM
   obtain ⟨rfl, hM⟩ := hcut
   go_upto_if 46 with (fail)
   go_cut [2] (fun s2 wx => MSo p a 1 s w s2 (L1 ++ L2) wx)
   case first =>
    have hsz := hM.1.sz
    have HM := hid hM
    clear hM
    cases B2
    ·go_wp2
     go_meet
     case rel => rw [← HL2.out]; simpa using HM.out
    ·go_wp2_with (at_builtin; refine wpList_append_int rfl _ _ rfl (w.heap.size + 1) _ L1.length (ints L1) rfl (own_ext HM.out.2 (Ext.alloc (Ext.refl _) _)) _ (.int .i64 two) rfl rfl ?d1 (by omega) ?d3 (fun v' w1 hown1 hg1 => ?_))
     case d3 => first | omega | (simp; omega)
     go_meet
     case rel => rw [← HL2.out]; exact (HM.out.ext (Ext.alloc (Ext.refl _) _)).put hown1 hg1
   case rest =>
    clear hM
    have hM := hcut
    clear hcut
    have hmb := hM.1.hb
    have hsz := hM.1.sz
    have v1 := mc_at hmb
    have HM := hid hM
    clear hM
    go_wp2_with (go_at_call 203; (with_reducible refine (From_any p a _).mono ?_); rintro e w1 ⟨v5, rfl, hown5, hx⟩; obtain ⟨a5, cap5, rfl⟩ := (Sl.of_own hown5).form; obtain ⟨hxc, hxf, hxb, hxs⟩ := hx.als; (try have := sW w w1); (try have := sW W w1))
    have hM5 := HM.out.ext hx
    have hl5 := FromL_len p a
    have hS5 := Sl.of_own hown5
    have hA5 : apartV a5 u2 w1 := fun b o e => ⟨fun e2 => (by have h1 := (HM.out.2.lt b e2).2; have h2 := (hown5.lt b (by rw [e]; rfl)).1; omega), (hown5.lt b (by rw [e]; rfl)).2⟩
    clear hmb hsz v1 HM hx hxc hxf hxb hxs hown5
    go_loopw [2, 57] (fun v i wr => ∃ j : Nat, i = .int .i64 j ∧ j ≤ (FromL p a).length ∧ MSo p a 1 s w v (L1 ++ L2 ++ ((FromL p a).take j).filter (pawnTakes p s)) wr ∧ Sl wr 1 (.slice a5 (FromL p a).length cap5) (FromL p a).length (ints (FromL p a)) ∧ apartV a5 v wr) (fun _ i _ => (FromL p a).length - (intOf i).toNat)
    case atStart => exact ⟨0, rfl, by omega, by simpa using hM5, hS5, hA5⟩
    case round =>
     obtain ⟨j, rfl, hj, hM6, hS6, hA6⟩ := hrel
     clear hM5 hS5 hA5
     by_cases hlt : j < (FromL p a).length
     ·obtain ⟨b, off, rfl, hbl, hcl⟩ := hS6.pos (by omega)
      obtain ⟨t, ht⟩ : ∃ t, (FromL p a)[j]? = some t := ⟨_, List.getElem?_eq_getElem hlt⟩
      have cg := hcl j _ (ints_get ht)
      obtain ⟨t0, t1⟩ := FromL_sq hk t (List.mem_of_getElem? ht)
      have t2 : t.toNat < 64 := by omega
      have q0 := mc_kind hM6.1.hb _ t2
      have q1 := mc_side hM6.1.hb _ t2
      have hmb := hM6.1.hb
      have hlb := blk_lt hmb
      have F := fun b W h => free_at p a 1 s t b W h
      rw [freeB_one p t t0 t1] at F
      have HF := hid (filt_snoc (f := pawnTakes p s) ht)
      have hlen := filt_len (l := FromL p a) (f := pawnTakes p s) (j := j)
      have HM := hid hM6
      have HSl := hid hS6
      have HA := hid hA6
      clear hcl ht hM6 hS6 hA6
      cases hb : bareB p t
      ·have hb' : (p.kind t.toNat == 0 && p.side t.toNat == 0) = false := hb
       rw [hb] at F
       cases he : (p.side t.toNat == otherOf s)
       ·have HN := hid (show ((FromL p a).take (j + 1)).filter (pawnTakes p s) = ((FromL p a).take j).filter (pawnTakes p s) by rw [HF.out, show pawnTakes p s t = false by simp [pawnTakes, hb, he]]; simp)
        clear HF hb
        go_wp2
        have hS0 : MSs p a 1 s w _ ∧ MSq p wr t _ := ⟨HM.out.1.ext (Ext.drew (Ext.alloc (Ext.refl wr) (.cells #[.int .i64 (p.kind t.toNat), .int .i64 (p.side t.toNat)] 26 (0, 0)))), MSq.mk' (Ext.drew (Ext.alloc (Ext.refl wr) _)) (blk_alloc_at _ _ _ rfl)⟩
        have u := hid (fun W (h : (fun W => MSs p a 1 s w W ∧ MSq p wr t W) W) => show (fun W => MSs.T p a 1 s w W ∧ MSq.T p wr t W) W from h)
        refine wp_region_held_drew (S := (fun W => MSs p a 1 s w W ∧ MSq p wr t W)) (by kernel_rfl) (hS0) (fun hH => ?_)
        refine hTz u.out 0 ?_; (try go_frame)
        refine hTz u.out 1 ?_; (try go_frame)
        refine hTz u.out 2 ?_; (try go_frame)
        refine hTz u.out 3 ?_; (try go_frame)
        refine hTz u.out 4 ?_; (try go_frame)
        refine hTz u.out 5 ?_; (try go_frame)
        refine hTz u.out 6 ?_; (try go_frame)
        refine hTz u.out 7 ?_; (try go_frame)
        refine hTz u.out 8 ?_; (try go_frame)
        refine hRy [9] (hCp (fun K hK => ?_) AllReadyH.nil); go_simp
        refine (Other_any _ _).mono ?_
        rintro e w8 ⟨rfl, hx8⟩
        refine hK.out _ _ (⟨hH.1.ext (by first | assumption | exact Ext.alloc (Ext.refl _) _), hH.2.ext (by first | assumption | exact Ext.alloc (Ext.refl _) _)⟩) (fun hH => ?_); clear hK; (try go_frame)
        refine hTz u.out 10 ?_; (try go_frame)
        refine hTz u.out 11 ?_; (try go_frame)
        refine hTz u.out 12 ?_; (try go_frame)
        refine hTz u.out 13 ?_; (try go_frame)
        refine hTz u.out 14 ?_; (try go_frame)
        refine hRy [15] (hCp (fun K hK => ?_) AllReadyH.nil); go_simp
        refine hK.out _ _ (⟨hH.1.ext (by first | assumption | exact Ext.alloc (Ext.refl _) _), hH.2.ext (by first | assumption | exact Ext.alloc (Ext.refl _) _)⟩) (fun hH => ?_); clear hK; (try go_frame)
        refine hRy [16] (hCp (fun K hK => ?_) AllReadyH.nil); go_simp
        refine (F _ _ (by simp [go_sem])).mono ?_
        rintro e w9 ⟨rfl, hx9⟩
        refine hK.out _ _ (⟨hH.1.ext (by first | assumption | exact Ext.alloc (Ext.refl _) _), hH.2.ext (by first | assumption | exact Ext.alloc (Ext.refl _) _)⟩) (fun hH => ?_); clear hK; (try go_frame)
        refine hTz u.out 17 ?_; (try go_frame)
        refine hTn 18 ?_; (try go_frame)
        refine hTn 19 ?_; (try go_frame)
        refine hTn 20 ?_; (try go_frame)
        refine hTn 21 ?_; (try go_frame)
        refine hTn 22 ?_; (try go_frame)
        refine hTz u.out 23 ?_; (try go_frame)
        refine hTz u.out 24 ?_; (try go_frame)
        refine wpAnyH_done (by kernel_rfl) ?_ _
        go_wp2
        go_roundw
        case rel => exact ⟨j + 1, by go_num, by omega, by rw [HN.out]; exact HM.out.ext hH.2.1, HSl.out.ext hH.2.1, fun b o e => ⟨(HA.out b o e).1, Nat.lt_of_lt_of_le (HA.out b o e).2 hH.2.1.le⟩⟩
        case measure => simp [intOf]; omega
       ·have HN := hid (show ((FromL p a).take (j + 1)).filter (pawnTakes p s) = ((FromL p a).take j).filter (pawnTakes p s) ++ [t] by rw [HF.out, show pawnTakes p s t = true by simp [pawnTakes, hb, he]]; simp)
        clear HF hb
        go_wp2
        have hS0 : MSs p a 1 s w _ ∧ MSq p wr t _ := ⟨HM.out.1.ext (Ext.drew (Ext.alloc (Ext.refl wr) (.cells #[.int .i64 (p.kind t.toNat), .int .i64 (p.side t.toNat)] 26 (0, 0)))), MSq.mk' (Ext.drew (Ext.alloc (Ext.refl wr) _)) (blk_alloc_at _ _ _ rfl)⟩
        have u := hid (fun W (h : (fun W => MSs p a 1 s w W ∧ MSq p wr t W) W) => show (fun W => MSs.T p a 1 s w W ∧ MSq.T p wr t W) W from h)
        refine wp_region_held_drew (S := (fun W => MSs p a 1 s w W ∧ MSq p wr t W)) (by kernel_rfl) (hS0) (fun hH => ?_)
        refine hTz u.out 0 ?_; (try go_frame)
        refine hTz u.out 1 ?_; (try go_frame)
        refine hTz u.out 2 ?_; (try go_frame)
        refine hTz u.out 3 ?_; (try go_frame)
        refine hTz u.out 4 ?_; (try go_frame)
        refine hTz u.out 5 ?_; (try go_frame)
        refine hTz u.out 6 ?_; (try go_frame)
        refine hTz u.out 7 ?_; (try go_frame)
        refine hTz u.out 8 ?_; (try go_frame)
        refine hRy [9] (hCp (fun K hK => ?_) AllReadyH.nil); go_simp
        refine (Other_any _ _).mono ?_
        rintro e w8 ⟨rfl, hx8⟩
        refine hK.out _ _ (⟨hH.1.ext (by first | assumption | exact Ext.alloc (Ext.refl _) _), hH.2.ext (by first | assumption | exact Ext.alloc (Ext.refl _) _)⟩) (fun hH => ?_); clear hK; (try go_frame)
        refine hTz u.out 10 ?_; (try go_frame)
        refine hTz u.out 11 ?_; (try go_frame)
        refine hTz u.out 12 ?_; (try go_frame)
        refine hTn 13 ?_; (try go_frame)
        refine hTn 14 ?_; (try go_frame)
        refine hTn 15 ?_; (try go_frame)
        refine hTn 16 ?_; (try go_frame)
        refine hTn 17 ?_; (try go_frame)
        refine hTn 18 ?_; (try go_frame)
        refine hTn 19 ?_; (try go_frame)
        refine hTn 20 ?_; (try go_frame)
        refine hTn 21 ?_; (try go_frame)
        refine hTn 22 ?_; (try go_frame)
        refine hTn 23 ?_; (try go_frame)
        refine hTz u.out 24 ?_; (try go_frame)
        refine wpAnyH_done (by kernel_rfl) ?_ _
        have hsz := hH.1.sz
        have HH := hid hH
        clear hH
        go_wp2_with (at_builtin; refine wpList_append_far rfl _ _ rfl (w.heap.size + 1) _ _ _ rfl (own_ext HM.out.2 (Ext.trans HH.out.2.1 (Ext.alloc (Ext.refl _) _))) _ (.int .i64 t) rfl rfl ?_ ?_ ?_ (fun v' w1 hown1 hg1 hf1 => ?_))
        ·(try simp only [List.length_append]); omega
        ·(try simp); omega
        have hM7 := (HM.out.ext (Ext.trans HH.out.2.1 (Ext.alloc (Ext.refl _) (.cells #[.int .i64 t] 3 (0, 0))))).put hown1 hg1
        have hSa := HSl.out.ext (Ext.trans HH.out.2.1 (Ext.alloc (Ext.refl _) (.cells #[.int .i64 t] 3 (0, 0))))
        go_roundw
        case rel => exact ⟨j + 1, by go_num, by omega, by rw [HN.out, ← List.append_assoc]; exact hM7, hSa.grownN hg1 (fun b' o' c' e => by cases e; exact (HA.out _ _ rfl).1), fun b' o' e => ⟨fun e2 => (by have h3 := HA.out _ _ e; have h4 := HH.out.2.1.le; rcases hf1 _ e2 with h | h; (exact h3.1 h); (simp at h; omega)), Nat.lt_of_lt_of_le (HA.out _ _ e).2 (Nat.le_trans HH.out.2.1.le (Nat.le_trans (by simp) hg1.size))⟩⟩
        case measure => simp [intOf]; omega
      ·have hb' : (p.kind t.toNat == 0 && p.side t.toNat == 0) = true := hb
       rw [hb] at F
       cases ho : (t == p.over)
       ·have HN := hid (show ((FromL p a).take (j + 1)).filter (pawnTakes p s) = ((FromL p a).take j).filter (pawnTakes p s) by rw [HF.out, show pawnTakes p s t = false by simp [pawnTakes, hb, ho]]; simp)
        clear HF hb
        go_wp2
        have hS0 : MSs p a 1 s w _ ∧ MSq p wr t _ := ⟨HM.out.1.ext (Ext.drew (Ext.alloc (Ext.refl wr) (.cells #[.int .i64 (p.kind t.toNat), .int .i64 (p.side t.toNat)] 26 (0, 0)))), MSq.mk' (Ext.drew (Ext.alloc (Ext.refl wr) _)) (blk_alloc_at _ _ _ rfl)⟩
        have u := hid (fun W (h : (fun W => MSs p a 1 s w W ∧ MSq p wr t W) W) => show (fun W => MSs.T p a 1 s w W ∧ MSq.T p wr t W) W from h)
        refine wp_region_held_drew (S := (fun W => MSs p a 1 s w W ∧ MSq p wr t W)) (by kernel_rfl) (hS0) (fun hH => ?_)
        refine hTz u.out 0 ?_; (try go_frame)
        refine hTz u.out 1 ?_; (try go_frame)
        refine hTz u.out 2 ?_; (try go_frame)
        refine hTz u.out 3 ?_; (try go_frame)
        refine hTn 4 ?_; (try go_frame)
        refine hTn 5 ?_; (try go_frame)
        refine hTn 6 ?_; (try go_frame)
        refine hTn 7 ?_; (try go_frame)
        refine hTn 8 ?_; (try go_frame)
        refine hTn 9 ?_; (try go_frame)
        refine hTn 10 ?_; (try go_frame)
        refine hTz u.out 11 ?_; (try go_frame)
        refine hTz u.out 12 ?_; (try go_frame)
        refine hTz u.out 13 ?_; (try go_frame)
        refine hTz u.out 14 ?_; (try go_frame)
        refine hRy [15] (hCp (fun K hK => ?_) AllReadyH.nil); go_simp
        refine hK.out _ _ (⟨hH.1.ext (by first | assumption | exact Ext.alloc (Ext.refl _) _), hH.2.ext (by first | assumption | exact Ext.alloc (Ext.refl _) _)⟩) (fun hH => ?_); clear hK; (try go_frame)
        refine hRy [16] (hCp (fun K hK => ?_) AllReadyH.nil); go_simp
        refine (F _ _ (by simp [go_sem])).mono ?_
        rintro e w9 ⟨rfl, hx9⟩
        refine hK.out _ _ (⟨hH.1.ext (by first | assumption | exact Ext.alloc (Ext.refl _) _), hH.2.ext (by first | assumption | exact Ext.alloc (Ext.refl _) _)⟩) (fun hH => ?_); clear hK; (try go_frame)
        refine hTz u.out 17 ?_; (try go_frame)
        refine hTz u.out 18 ?_; (try go_frame)
        refine hTz u.out 19 ?_; (try go_frame)
        refine hTz u.out 20 ?_; (try go_frame)
        refine hTz u.out 21 ?_; (try go_frame)
        refine hTz u.out 22 ?_; (try go_frame)
        refine hTz u.out 23 ?_; (try go_frame)
        refine hTz u.out 24 ?_; (try go_frame)
        refine wpAnyH_done (by kernel_rfl) ?_ _
        go_wp2
        go_roundw
        case rel => exact ⟨j + 1, by go_num, by omega, by rw [HN.out]; exact HM.out.ext hH.2.1, HSl.out.ext hH.2.1, fun b o e => ⟨(HA.out b o e).1, Nat.lt_of_lt_of_le (HA.out b o e).2 hH.2.1.le⟩⟩
        case measure => simp [intOf]; omega
       ·have HN := hid (show ((FromL p a).take (j + 1)).filter (pawnTakes p s) = ((FromL p a).take j).filter (pawnTakes p s) ++ [t] by rw [HF.out, show pawnTakes p s t = true by simp [pawnTakes, hb, ho]]; simp)
        clear HF hb
        go_wp2
        have hS0 : MSs p a 1 s w _ ∧ MSq p wr t _ := ⟨HM.out.1.ext (Ext.drew (Ext.alloc (Ext.refl wr) (.cells #[.int .i64 (p.kind t.toNat), .int .i64 (p.side t.toNat)] 26 (0, 0)))), MSq.mk' (Ext.drew (Ext.alloc (Ext.refl wr) _)) (blk_alloc_at _ _ _ rfl)⟩
        have u := hid (fun W (h : (fun W => MSs p a 1 s w W ∧ MSq p wr t W) W) => show (fun W => MSs.T p a 1 s w W ∧ MSq.T p wr t W) W from h)
        refine wp_region_held_drew (S := (fun W => MSs p a 1 s w W ∧ MSq p wr t W)) (by kernel_rfl) (hS0) (fun hH => ?_)
        refine hTz u.out 0 ?_; (try go_frame)
        refine hTz u.out 1 ?_; (try go_frame)
        refine hTz u.out 2 ?_; (try go_frame)
        refine hTz u.out 3 ?_; (try go_frame)
        refine hTn 4 ?_; (try go_frame)
        refine hTn 5 ?_; (try go_frame)
        refine hTn 6 ?_; (try go_frame)
        refine hTn 7 ?_; (try go_frame)
        refine hTn 8 ?_; (try go_frame)
        refine hTn 9 ?_; (try go_frame)
        refine hTn 10 ?_; (try go_frame)
        refine hTz u.out 11 ?_; (try go_frame)
        refine hTz u.out 12 ?_; (try go_frame)
        refine hTz u.out 13 ?_; (try go_frame)
        refine hTz u.out 14 ?_; (try go_frame)
        refine hRy [15] (hCp (fun K hK => ?_) AllReadyH.nil); go_simp
        refine hK.out _ _ (⟨hH.1.ext (by first | assumption | exact Ext.alloc (Ext.refl _) _), hH.2.ext (by first | assumption | exact Ext.alloc (Ext.refl _) _)⟩) (fun hH => ?_); clear hK; (try go_frame)
        refine hRy [16] (hCp (fun K hK => ?_) AllReadyH.nil); go_simp
        refine (F _ _ (by simp [go_sem])).mono ?_
        rintro e w9 ⟨rfl, hx9⟩
        refine hK.out _ _ (⟨hH.1.ext (by first | assumption | exact Ext.alloc (Ext.refl _) _), hH.2.ext (by first | assumption | exact Ext.alloc (Ext.refl _) _)⟩) (fun hH => ?_); clear hK; (try go_frame)
        refine hTz u.out 17 ?_; (try go_frame)
        refine hTz u.out 18 ?_; (try go_frame)
        refine hTz u.out 19 ?_; (try go_frame)
        refine hTz u.out 20 ?_; (try go_frame)
        refine hTz u.out 21 ?_; (try go_frame)
        refine hTz u.out 22 ?_; (try go_frame)
        refine hTz u.out 23 ?_; (try go_frame)
        refine hTz u.out 24 ?_; (try go_frame)
        refine wpAnyH_done (by kernel_rfl) ?_ _
        have hsz := hH.1.sz
        have HH := hid hH
        clear hH
        go_wp2_with (at_builtin; refine wpList_append_far rfl _ _ rfl (w.heap.size + 1) _ _ _ rfl (own_ext HM.out.2 (Ext.trans HH.out.2.1 (Ext.alloc (Ext.refl _) _))) _ (.int .i64 t) rfl rfl ?_ ?_ ?_ (fun v' w1 hown1 hg1 hf1 => ?_))
        ·(try simp only [List.length_append]); omega
        ·(try simp); omega
        have hM7 := (HM.out.ext (Ext.trans HH.out.2.1 (Ext.alloc (Ext.refl _) (.cells #[.int .i64 t] 3 (0, 0))))).put hown1 hg1
        have hSa := HSl.out.ext (Ext.trans HH.out.2.1 (Ext.alloc (Ext.refl _) (.cells #[.int .i64 t] 3 (0, 0))))
        go_roundw
        case rel => exact ⟨j + 1, by go_num, by omega, by rw [HN.out, ← List.append_assoc]; exact hM7, hSa.grownN hg1 (fun b' o' c' e => by cases e; exact (HA.out _ _ rfl).1), fun b' o' e => ⟨fun e2 => (by have h3 := HA.out _ _ e; have h4 := HH.out.2.1.le; rcases hf1 _ e2 with h | h; (exact h3.1 h); (simp at h; omega)), Nat.lt_of_lt_of_le (HA.out _ _ e).2 (Nat.le_trans HH.out.2.1.le (Nat.le_trans (by simp) hg1.size))⟩⟩
        case measure => simp [intOf]; omega
     ·obtain rfl : j = (FromL p a).length := by omega
      rw [List.take_length, HX.out] at hM6
      have HM := hid hM6
      clear hM6
      go_wp2
      go_ret
      exact RetInts.mk' HM.out.2 rfl rfl (by omega) HM.out.1.x
end Go.Proofs.YtdmgimfgoajmjaaGreatDoor
