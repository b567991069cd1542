/- A slice that is built of one position. -/
import Derived.Test.YtdmgimfgoajmjaaGreatDoorC14
import Derived.Test.YtdmgimfgoajmjaaGreatDoorC03
set_option linter.unusedVariables false
set_option linter.unusedSimpArgs false
namespace Go.Proofs.YtdmgimfgoajmjaaGreatDoor
open Go.RowKit
noncomputable def dfltSl1 (v : Value) (w : World) : Result Next := (execOp (fun _ => v) { dst := none, op := .buildSlice 22 1 #[(0, .tmp 0)], type := 22, pos := "", after := #[], guard := none }).run Tryz.prog w
@[go_sem] noncomputable def sl1 (v : Value) (w : World) (d : Result Next) : Result Next :=
  match v with
  | .agg vs => if vs.size = 133 then .ok (.value (.slice (some ⟨w.heap.size, 0, none⟩) 1 1)) (w.alloc (.cells vs 30)) else d
  | _ => d
@[go_sem ↓] theorem exec_sl1 (ρ : Operand → Value) (dst : Option Tmp) (x : Operand) (ty : TypeId) (pos : String) (af : Array Edge) (g : Option (Nat × Bool)) (w : World) :
 (execOp ρ ⟨dst, .buildSlice 22 1 #[(0, x)], ty, pos, af, g⟩).run Tryz.prog w = sl1 (ρ x) w (dfltSl1 (ρ x) w) := by
  unfold sl1
  split
  ·rename_i vs hv
   split
   ·rename_i hs
    have h := zero_api_Position
    have h2 : (Tryz.prog.info? 30).map (·.size) = some 133 := by kernel_rfl
    cases hq : Tryz.prog.info? 30 with
    | none => simp [hq] at h
    | some i =>
      have hz : i.zero = some (.agg (Array.replicate 133 (.int .i64 0))) := by simpa [hq] using h
      have hsz : i.size = 133 := by simpa [hq] using h2
      have hfill : ∀ (z : Array Value), z.size = 133 → Instr.fill (fun i => some (i * 133, 133)) z [(0, .agg vs)] = some vs := by
       intro z hzz
       have hf := fold_at vs z 0 (by omega)
       have e : (z.toList.take 0 ++ vs.toList ++ z.toList.drop (0 + vs.size)).toArray = vs := by
        rw [List.take_zero, List.nil_append, List.drop_eq_nil_of_le (by simp; omega), List.append_nil]
       simp only [Instr.fill, Nat.zero_mul]
       have hc : ¬ (decide ((Value.agg vs).cells.size ≠ 133) || decide (0 + (Value.agg vs).cells.size > z.size)) = true := by
        have : (Value.agg vs).cells.size = 133 := hs
        simp [this, hzz]
       refine (if_neg hc).trans ?_
       exact congrArg some (hf.trans e)
      have hsize : (sizeOf 30).run Tryz.prog w = .ok 133 w := by simp [sizeOf, typeInfo, hq, hsz]
      have hzero : (zeroValue 30).run Tryz.prog w = .ok (.agg (Array.replicate 133 (.int .i64 0))) w := by simp [zeroValue, typeInfo, hq, hz]
      have hm : ∀ z : Array Value, ((Array.range (1 * 133)).map (z[· % z.size]!)).size = 133 := by intro z; simp
      have hl : ((#[(0, x)] : Array (Nat × Operand)).map fun (i, x) => (i, ρ x)).toList = [(0, .agg vs)] := by simp [hv]
      simp only [execOp, Instr.buildSlice, Sem.run_bind, run_underlying Tryz.underlying22 w, Result.andThen_ok, hsize]
      rw [if_neg (by decide), if_neg (by decide)]
      simp only [Sem.run_bind, Sem.run_pure, hzero, Result.andThen_ok, Value.cells, hl]
      rw [hfill _ (hm _)]
      rfl
   ·simp [dfltSl1, execOp]
  ·simp [dfltSl1, execOp]
end Go.Proofs.YtdmgimfgoajmjaaGreatDoor
