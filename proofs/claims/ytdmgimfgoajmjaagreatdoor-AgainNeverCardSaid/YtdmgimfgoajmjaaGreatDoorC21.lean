/- A move that is made; where it takes. -/
import Derived.Test.YtdmgimfgoajmjaaGreatDoorC20
set_option linter.unusedVariables false
set_option linter.unusedSimpArgs false
namespace Go.Proofs.YtdmgimfgoajmjaaGreatDoor
open Go.RowKit
theorem built_nil {P : Program} {T : TypeId} {F : Array Field} {z : Value} (hu : P.underlying T = some (.struct F)) (hz : (P.info? T).map (·.zero) = some (some z)) (hp : (F.toList.mapM (fun f => (P.info? f.type).map fun i => (f.offset, i.size))).isSome = true) : P.built T [] = some z.cells := by
  unfold Program.built
  cases hq : P.info? T with
  | none => simp [hq] at hz
  | some i =>
    have hz' : i.zero = some z := by simpa [hq] using hz
    obtain ⟨places, hpl⟩ := Option.isSome_iff_exists.1 hp
    simp only [hu, hz', hpl]
    rfl
set_option maxRecDepth 100000 in
@[go_sem ↓] theorem build0_api_Position (ρ : Operand → Value) (dst : Option Tmp) (ty : TypeId) (pos : String) (af : Array Edge) (g : Option (Nat × Bool)) (w : World) :
    (execOp ρ ⟨dst, .build 30 #[], ty, pos, af, g⟩).run Tryz.prog w = .ok (.value (.agg (posCells Pos.zero))) w := by
  have hb : Tryz.prog.built 30 ((#[] : Array (Nat × Operand)).map fun (i, x) => (i, ρ x)).toList = some (posCells Pos.zero) := by
    have e : ((#[] : Array (Nat × Operand)).map fun (i, x) => (i, ρ x)).toList = [] := by simp
    rw [e]
    exact (show Tryz.prog.built 30 [] = some (posCells Pos.zero) from (built_nil Tryz.underlying30 zero_api_Position (by kernel_rfl)).trans (by rw [zeroCells_eq]; rfl))
  simp only [execOp, Sem.run_bind, run_build w _ _ _ hb]
  rfl
def takes2 (p : Pos) (m : Mv) : Int := if takenE p m = 0 then takesOf p m (p.kind m.fr.toNat) else -1
def moveP (p : Pos) (m : Mv) : Pos := madeP (fixC p) m (p.kind m.fr.toNat) (p.side m.fr.toNat)
def movedP (p : Pos) (m : Mv) : Pos := if takenE p m = 0 then moveP p m else Pos.zero
theorem taken_any (p : Pos) (m : Mv) (w : World) : Calls Tryz.prog 95 #[.agg (posCells p), .agg #[.int .i64 m.fr, .int .i64 m.to_, .int .i64 m.be]] w (TakenPost p m w) := by
  cases h : rangeB m
  · exact taken_range p m w h
  · exact taken_in p m w h
theorem takenE_0 {p : Pos} {m : Mv} (h : takenE p m = 0) : 0 ≤ m.fr ∧ m.fr < 64 ∧ 0 ≤ m.to_ ∧ m.to_ < 64 ∧ (p.side m.fr.toNat = 0 ∨ p.side m.fr.toNat = 1) ∧ canB p m = true ∧ rangeB m = true := by
  unfold takenE at h
  split at h
  · rename_i hr
    split at h
    · rename_i hc
      have hr' := hr
      have hc' := hc
      simp only [rangeB, decide_eq_true_eq] at hr
      simp only [canB, canOf, decide_eq_true_eq] at hc
      exact ⟨hr.1, hr.2.1, hr.2.2.1, hr.2.2.2.1, hc.2.2.2.1, hc', hr'⟩
    · cases h
  · cases h
theorem fixC_bd (p : Pos) : 0 ≤ (fixC p).castle ∧ (fixC p).castle ≤ 15 := by
  unfold fixC
  split
  · assumption
  · exact ⟨Int.le_refl 0, (by decide : (0 : Int) ≤ 15)⟩
theorem takes_fix (p : Pos) (m : Mv) (k : Int) : takesOf (fixC p) m k = takesOf p m k := by
  unfold fixC; split <;> rfl
set_option maxRecDepth 100000 in
set_option maxHeartbeats 2000000 in
theorem Takes_any (p : Pos) (m : Mv) (w : World) : Calls Tryz.prog 61 #[.agg (posCells p), .agg #[.int .i64 m.fr, .int .i64 m.to_, .int .i64 m.be]] w (Ret (.int .i64 (takes2 p m)) w) := by
  by_cases h0 : takenE p m = 0
  · have HE := hid (show takes2 p m = takesOf (fixC p) m (p.kind m.fr.toNat) by unfold takes2; rw [if_pos h0, takes_fix])
    obtain ⟨f0, f1, t0, t1, _⟩ := takenE_0 h0
    have H0 := hid h0
    clear h0
    go_enter Tryz.func61, Tryz.ntmps61
    go_wp2_with (first
      | (go_at_call 95; (with_reducible refine (taken_any _ _ _).mono ?_); rintro e w1 ⟨hx, ⟨hne, -⟩ | ⟨-, b, rfl, hb0, hb⟩⟩; (exact absurd H0.out hne))
      | (go_at_call 96; (with_reducible refine (takes_any _ _ _ _ _ _ hb f0 f1 t0 t1).mono ?_); rintro e w2 ⟨rfl, hx2⟩))
    go_ret
    exact Ret.mk' (by rw [HE.out]; rfl) (Ext.trans (Ext.trans (Ext.auto) hx) hx2)
  · have HE := hid (show takes2 p m = -1 by unfold takes2; rw [if_neg h0])
    have h1 : (takenE p m != 0) = true := by simpa using h0
    have H0 := hid h0
    clear h0
    go_enter Tryz.func61, Tryz.ntmps61
    go_wp2_with (go_at_call 95; (with_reducible refine (taken_any _ _ _).mono ?_); rintro e w1 ⟨hx, ⟨-, rfl⟩ | ⟨h, -⟩⟩; rotate_left 1; (exact absurd h H0.out))
    go_ret
    exact Ret.mk' (by rw [HE.out]; rfl) (Ext.trans (Ext.auto) hx)
set_option maxRecDepth 100000 in
set_option maxHeartbeats 2000000 in
theorem Move_any (p : Pos) (m : Mv) (w : World) : Calls Tryz.prog 157 #[.agg (posCells p), .agg #[.int .i64 m.fr, .int .i64 m.to_, .int .i64 m.be]] w (Ret (.tuple #[.agg (posCells (movedP p m)), .int .i64 (takenE p m)]) w) := by
  by_cases h0 : takenE p m = 0
  · have HE := hid (show movedP p m = madeP (fixC p) m (p.kind m.fr.toNat) (p.side m.fr.toNat) by unfold movedP moveP; rw [if_pos h0])
    obtain ⟨f0, f1, t0, t1, hs, _⟩ := takenE_0 h0
    obtain ⟨q0, q1⟩ := fixC_bd p
    have H0 := hid h0
    clear h0
    go_enter Tryz.func157, Tryz.ntmps157
    go_wp2_with (first
      | (go_at_call 95; (with_reducible refine (taken_any _ _ _).mono ?_); rintro e w1 ⟨hx, ⟨hne, -⟩ | ⟨-, b, rfl, hb0, hb⟩⟩; (exact absurd H0.out hne); have hz1 := (hx.blk (w.heap.size + 1 + 1) (by simp)).trans (show blk _ (w.heap.size + 1 + 1) = some (.cells (posCells Pos.zero) 30 (0, 0)) from by simp [go_sem]); have hbb : b ≠ w.heap.size + 1 + 1 := (by simp at hb0; omega))
      | (go_at_call 181; (with_reducible refine (made_any _ _ _ _ _ _ hb f0 f1 t0 t1 hs q0 q1).mono ?_); rintro e w2 ⟨rfl, hx2⟩; have hz2 := hx2.cells hz1 (Ne.symm hbb)))
    exact bodyPost_ret (v := .tuple #[.agg (posCells (madeP (fixC p) m (p.kind m.fr.toNat) (p.side m.fr.toNat))), .int .i64 0]) (results_cell2 rfl rfl rfl (load_pos (setRow_blk hz2))) rfl ⟨by rw [HE.out, H0.out], Ext.setRow (Ext.chg (Ext.trans (Ext.auto) hx) (by simp at hb0; omega) hx2) (by omega) _⟩
  · have HE := hid (show movedP p m = Pos.zero by unfold movedP; rw [if_neg h0])
    have h1 : (takenE p m != 0) = true := by simpa using h0
    have H0 := hid h0
    clear h0
    go_enter Tryz.func157, Tryz.ntmps157
    go_wp2_with (go_at_call 95; (with_reducible refine (taken_any _ _ _).mono ?_); rintro e w1 ⟨hx, ⟨-, rfl⟩ | ⟨h, -⟩⟩; rotate_left 1; (exact absurd h H0.out); have hz2 : blk w1 (w.heap.size + 1 + 1) = some (.cells (posCells Pos.zero) 30 (0, 0)) := ((hx.blk _ (by simp)).trans (by simp [go_sem])))
    exact bodyPost_ret (v := .tuple #[.agg (posCells Pos.zero), .int .i64 (takenE p m)]) (results_cell2 rfl rfl rfl (load_pos (setRow_blk hz2))) rfl ⟨by rw [HE.out], Ext.setRow (Ext.trans (Ext.auto) hx) (by omega) _⟩
end Go.Proofs.YtdmgimfgoajmjaaGreatDoor
