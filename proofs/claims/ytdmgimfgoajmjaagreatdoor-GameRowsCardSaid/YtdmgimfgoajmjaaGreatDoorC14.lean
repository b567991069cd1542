/- Structs that are built of all their fields at once. -/
import Derived.Test.YtdmgimfgoajmjaaGreatDoorC13
import Derived.Laws.Tables
set_option linter.unusedVariables false
set_option linter.unusedSimpArgs false
namespace Go.Proofs.YtdmgimfgoajmjaaGreatDoor
open Go.RowKit
@[go_sem] def concatV : List Value → Array Value
  | [] => #[]
  | [v] => v.cells
  | v :: r => v.cells ++ concatV r
def placedV : Nat → List Value → List (Nat × Nat)
 | _, [] => []
 | k, v :: r => (k, v.cells.size) :: placedV (k + v.cells.size) r
def partsV : Nat → List Value → List (Nat × Value)
 | _, [] => []
 | k, v :: r => (k, v) :: partsV (k + 1) r
def sumV : List Value → Nat
 | [] => 0
 | v :: r => v.cells.size + sumV r
theorem concatV_cons (v : Value) (r : List Value) : concatV (v :: r) = v.cells ++ concatV r := by
 cases r with
 | nil => simp [concatV]
 | cons x r => rfl
theorem fill_all (places : List (Nat × Nat)) : ∀ (vs : List Value) (i k : Nat) (pre : Array Value) (z : Array Value), k = pre.size → z.size = sumV vs → (∀ j, places[i + j]? = (placedV k vs)[j]?) →
 Instr.fill (places.toArray[·]?) (pre ++ z) (partsV i vs) = some (pre ++ concatV vs)
 | [], i, k, pre, z, hk, hz, _ => by
   have : z = #[] := Array.eq_empty_of_size_eq_zero hz
   subst this
   simp [partsV, Instr.fill, concatV]
 | v :: r, i, k, pre, z, hk, hz, hp => by
   have h0 := hp 0
   simp only [Nat.add_zero, placedV, List.getElem?_cons_zero] at h0
   simp only [sumV] at hz
   have h0' : places.toArray[i]? = some (k, v.cells.size) := by simpa using h0
   simp only [partsV, Instr.fill, h0']
   rw [if_neg (by simp; omega)]
   have hf := fold_at v.cells (pre ++ z) k (by simp; omega)
   have e : (v.cells.zipIdx.foldl (fun cs (x : Value × Nat) => cs.setIfInBounds (k + x.2) x.1) (pre ++ z)) = (pre ++ v.cells) ++ z.extract v.cells.size z.size := by
    rw [hf]
    apply Array.toList_inj.1
    simp only [Array.toList_append, Array.toList_extract, List.take_append, List.drop_append]
    rw [List.take_of_length_le (by simp; omega), List.drop_of_length_le (by simp; omega)]
    simp [hk]
    rw [List.take_of_length_le (by simp)]
   have e' : (Array.foldl (fun cs (x : Value × Nat) => match x with | (c, j) => cs.setIfInBounds (k + j) c) (pre ++ z) v.cells.zipIdx) = (pre ++ v.cells) ++ z.extract v.cells.size z.size := e
   rw [e', fill_all places r (i + 1) (k + v.cells.size) (pre ++ v.cells) _ (by simp; omega) (by simp; omega) (fun j => by have := hp (j + 1); simp only [placedV, List.getElem?_cons_succ] at this; rw [← this]; congr 1; omega)]
   rw [concatV_cons, Array.append_assoc]
@[go_sem] def buildAll (sizes : List Nat) (vs : List Value) (w : World) (dflt : Result Next) : Result Next :=
  if vs.map (fun v => v.cells.size) = sizes then .ok (.value (.agg (concatV vs))) w else dflt
def placesN : Nat → List Nat → List (Nat × Nat)
 | _, [] => []
 | k, n :: r => (k, n) :: placesN (k + n) r
def sumN : List Nat → Nat
 | [] => 0
 | n :: r => n + sumN r
theorem placedV_sizes : ∀ (vs : List Value) (k : Nat), placedV k vs = placesN k (vs.map fun v => v.cells.size)
 | [], _ => rfl
 | v :: r, k => by simp [placedV, placesN, placedV_sizes r]
theorem sumV_sizes : ∀ (vs : List Value), sumV vs = sumN (vs.map fun v => v.cells.size)
 | [] => rfl
 | v :: r => by simp [sumV, sumN, sumV_sizes r]
theorem exec_build_all {P : Program} {T : TypeId} {F : Array Field} {sizes : List Nat} (hu : P.underlying T = some (.struct F)) (hz : ((P.info? T).bind (·.zero)).map (·.cells.size) = some (sumN sizes))
 (hp : F.toList.mapM (fun f => (P.info? f.type).map fun i => (f.offset, i.size)) = some (placesN 0 sizes))
 (ρ : Operand → Value) (dst : Option Tmp) (xs : Array (Nat × Operand)) (vs : List Value) (hxs : (xs.map fun (i, x) => (i, ρ x)).toList = partsV 0 vs) (ty : TypeId) (pos : String) (af : Array Edge) (g : Option (Nat × Bool)) (w : World) :
 (execOp ρ ⟨dst, .build T xs, ty, pos, af, g⟩).run P w = buildAll sizes vs w (dfltAny P ρ ⟨dst, .build T xs, ty, pos, af, g⟩ w) := by
 unfold buildAll
 split
 ·rename_i hs
  have hb : P.built T (xs.map fun (i, x) => (i, ρ x)).toList = some (concatV vs) := by
   unfold Program.built
   cases hq : P.info? T with
   | none => simp [hq] at hz
   | some it =>
     cases hzz : it.zero with
     | none => simp [hq, hzz] at hz
     | some z =>
       simp only [hq, hzz, Option.bind_some, Option.map_some, Option.some.injEq] at hz
       simp only [hu, hzz, hp, hxs]
       have := fill_all (placesN 0 sizes) vs 0 0 #[] z.cells rfl (by rw [sumV_sizes, hs]; exact hz) (fun j => by rw [placedV_sizes, hs, Nat.zero_add])
       simpa using this
  simp only [execOp, Sem.run_bind, run_build w T _ _ hb]
  rfl
 ·rfl
end Go.Proofs.YtdmgimfgoajmjaaGreatDoor
