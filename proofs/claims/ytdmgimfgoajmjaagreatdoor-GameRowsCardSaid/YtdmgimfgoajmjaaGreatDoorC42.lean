/- A position compared with itself; a move with itself. -/
import Derived.Test.YtdmgimfgoajmjaaGreatDoorC29
import Derived.Test.YtdmgimfgoajmjaaGreatDoorC13
set_option linter.unusedVariables false
set_option linter.unusedSimpArgs false
namespace Go.Proofs.YtdmgimfgoajmjaaGreatDoor
open Go.RowKit
theorem eqIn_piece2 (a b : Int) (w : World) : (Op.equalIn 9998 26 (.agg #[.int .i64 a, .int .i64 b]) (.agg #[.int .i64 a, .int .i64 b])).run Tryz.prog w = .ok true w := by go_simp
@[go_sem high] theorem eqIn_sq2 (p : Pos) (w : World) : (Op.equalIn 9999 27 (.agg (sqCells p)) (.agg (sqCells p))).run Tryz.prog w = .ok true w := by
  have hs := size_piece
  cases hq : Tryz.prog.info? 26 with
  | none => simp [hq] at hs
  | some j =>
    have hs2 : j.size = 2 := by simpa [hq] using hs
    show (Op.equalIn (9998 + 1) 27 (.agg (sqCells p)) (.agg (sqCells p))).run Tryz.prog w = _
    rw [Op.equalIn]
    simp only [Sem.run_bind, run_underlying Tryz.underlying27 w, Result.andThen_ok, Std.Legacy.Range.forIn_eq_forIn_range']
    have hz : (sizeOf 26).run Tryz.prog w = .ok 2 w := by simp [sizeOf, typeInfo, hq, hs2]
    rw [hz]
    simp only [Result.andThen_ok]
    have hF := run_forIn_all (P := Tryz.prog) (w := w) (fun i _ => do
     let a ← part 26 (sqCells p) (i * 2)
     let b ← part 26 (sqCells p) (i * 2)
     let c ← Op.equalIn 9998 26 a b
     if (!c) = true then pure (ForInStep.done (some false, ())) else pure (ForInStep.yield (none, ()))) (fun i => true) 64 0 (fun i _ hi => by
      simp only [Sem.run_bind, part_sq p i (by omega), Result.andThen_ok, eqIn_piece2]
      simp)
    refine (congrArg (fun r => Result.andThen r _) (show _ = _ from hF)).trans ?_
    simp
theorem part_int {T : TypeId} (hu : Tryz.prog.underlying T = some (.int .i64)) (cs : Array Value) (o : Nat) (v : Value) (w : World) (h : cs[o]? = some v) : (part T cs o).run Tryz.prog w = .ok v w := by
 have hagg : (isAgg T).run Tryz.prog w = .ok false w := by
  unfold isAgg
  rw [Sem.run_bind, run_underlying hu w]
  rfl
 have h2 : cs[o]! = v := by simp [Array.getElem!_eq_getD, Array.getD_eq_getD_getElem?, h]
 simp [part, hagg, h, h2]
@[go_sem] theorem part_pos0 (p : Pos) (w : World) : (part 27 (posCells p) 0).run Tryz.prog w = .ok (.agg (sqCells p)) w := by
  have hs : (Tryz.prog.info? 27).map (·.size) = some 128 := by kernel_rfl
  cases hq : Tryz.prog.info? 27 with
  | none => simp [hq] at hs
  | some j =>
    have hs2 : j.size = 128 := by simpa [hq] using hs
    have hagg : (isAgg 27).run Tryz.prog w = .ok true w := by
     unfold isAgg
     rw [Sem.run_bind, run_underlying Tryz.underlying27 w]
     rfl
    simp [part, hagg, sizeOf, typeInfo, hq, hs2]
@[go_sem] theorem part_pos1 (p : Pos) (w : World) : (part 24 (posCells p) 128).run Tryz.prog w = .ok (.int .i64 p.turn) w := part_int Tryz.underlying24 _ _ _ _ (posCells_turn p)
@[go_sem] theorem part_pos2 (p : Pos) (w : World) : (part 28 (posCells p) 129).run Tryz.prog w = .ok (.int .i64 p.castle) w := part_int Tryz.underlying28 _ _ _ _ (posCells_castle p)
@[go_sem] theorem part_pos3 (p : Pos) (w : World) : (part 3 (posCells p) 130).run Tryz.prog w = .ok (.int .i64 p.over) w := part_int Tryz.underlying3 _ _ _ _ (posCells_over p)
@[go_sem] theorem part_pos4 (p : Pos) (w : World) : (part 3 (posCells p) 131).run Tryz.prog w = .ok (.int .i64 p.half) w := part_int Tryz.underlying3 _ _ _ _ (posCells_half p)
@[go_sem] theorem part_pos5 (p : Pos) (w : World) : (part 3 (posCells p) 132).run Tryz.prog w = .ok (.int .i64 p.full) w := part_int Tryz.underlying3 _ _ _ _ (posCells_full p)
theorem eqIn_pos (p : Pos) (w : World) : (Op.equalIn 10000 30 (.agg (posCells p)) (.agg (posCells p))).run Tryz.prog w = .ok true w := by
 go_simp
@[go_sem high] theorem neq_pos (p : Pos) (w : World) : (binOp .neq 30 (.agg (posCells p)) (.agg (posCells p))).run Tryz.prog w = .ok (.bool false) w := by
  rw [run_neq_struct, eqIn_pos]; rfl
end Go.Proofs.YtdmgimfgoajmjaaGreatDoor
