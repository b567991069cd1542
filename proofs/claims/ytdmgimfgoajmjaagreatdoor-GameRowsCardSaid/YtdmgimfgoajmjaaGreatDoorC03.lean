/- Whole rows of cells: loads, stores, wraps of positions, read off the heap at once. -/
import Derived.Test.YtdmgimfgoajmjaaGreatDoorC01
set_option linter.unusedVariables false
set_option linter.unusedSimpArgs false
namespace Go.Proofs.YtdmgimfgoajmjaaGreatDoor
open Go.RowKit
def dfltLoad (P : Program) (T : TypeId) (v : Value) (w : World) : Result Next := (execOp (fun _ => v) { dst := none, op := .load T (.tmp 0), type := T, pos := "", after := #[], guard := none }).run P w
@[go_sem] def loadSub (n : Nat) (v : Value) (w : World) (dflt : Result Next) : Result Next :=
  match v with
  | .pointer (some ⟨b, off, none⟩) => match blk w b with
    | some (.cells cs _ _) => if off + n ≤ cs.size then .ok (.value (.agg (cs.extract off (off + n)))) w else dflt
    | _ => dflt
  | _ => dflt
theorem exec_load_sub {P : Program} {T n : Nat} {d : TypeDesc} (hu : P.underlying T = some d) (hd : (match d with | .struct _ | .array _ _ => true | _ => false) = true) (hi : (P.info? T).map (·.size) = some n)
 (ρ : Operand → Value) (dst : Option Tmp) (x : Operand) (ty : TypeId) (pos : String) (af : Array Edge) (g : Option (Nat × Bool)) (w : World) :
 (execOp ρ ⟨dst, .load T x, ty, pos, af, g⟩).run P w = loadSub n (ρ x) w (dfltLoad P T (ρ x) w) := by
 unfold loadSub
 split
 ·rename_i b off hx
  split
  ·rename_i cs t fr hg
   split
   ·rename_i hle
    have hl : (loadCells ⟨b, off, none⟩ (cs.extract off (off + n)).toList.length).run P w = .ok (cs.extract off (off + n)).toList.toArray w :=
     run_loadCells_list (P := P) w ⟨b, off, none⟩ (cs.extract off (off + n)).toList (fun j v hv => by
      have hadd : (⟨b, off, none⟩ : Addr).add j = ⟨b, off + j, none⟩ := by unfold Addr.add; split <;> simp_all
      rw [hadd, cell_of_row w b (off + j) cs t fr hg]
      have : j < n := by
       have := List.getElem?_eq_some_iff.1 hv
       obtain ⟨h, _⟩ := this
       simp at h; omega
      rw [Array.getElem?_toList, Array.getElem?_extract] at hv
      rw [if_pos (by omega)] at hv
      exact hv)
    have hlen : (cs.extract off (off + n)).toList.length = n := by simp; omega
    rw [hlen, Array.toArray_toList] at hl
    cases hq : P.info? T with
    | none => simp [hq] at hi
    | some i =>
      have hs : i.size = n := by simpa [hq] using hi
      have hagg : (isAgg T).run P w = .ok true w := by
       unfold isAgg
       rw [Sem.run_bind, run_underlying hu w]
       cases d <;> simp_all
      simp [execOp, Instr.loadAt, Instr.sureAddr, hx, loadVar, Sem.run_bind, hagg, sizeOf, typeInfo, hq, hs, hl]
   ·simp [dfltLoad, execOp]
  ·simp [dfltLoad, execOp]
 ·simp [dfltLoad, execOp]
def dfltStore (P : Program) (T : TypeId) (v u : Value) (w : World) : Result Next := (execOp (fun o => match o with | .tmp 0 => v | _ => u) { dst := none, op := .store T (.tmp 0) (.tmp 1), type := T, pos := "", after := #[], guard := none }).run P w
def putAt (cs : Array Value) (off : Nat) (vs : Array Value) : Array Value := (cs.toList.take off ++ vs.toList ++ cs.toList.drop (off + vs.size)).toArray
def rowOk (vs : Array Value) : Bool := vs.all (fun v => v.oneCell')
@[go_sem] def storeSub (n : Nat) (v u : Value) (w : World) (dflt : Result Next) : Result Next :=
  match v with
  | .pointer (some ⟨b, off, none⟩) => match u with
    | .agg vs => match blk w b with
      | some (.cells cs _ fr) => if vs.size = n then (if off + n ≤ cs.size then (if fr = (0, 0) then (if rowOk vs then .ok .skip (w.setRow b (putAt cs off vs)) else dflt) else dflt) else dflt) else dflt
      | _ => dflt
    | _ => dflt
  | _ => dflt
theorem exec_store_sub {P : Program} {T n : Nat} (hi : (P.info? T).map (·.size) = some n)
 (ρ : Operand → Value) (dst : Option Tmp) (x y : Operand) (ty : TypeId) (pos : String) (af : Array Edge) (g : Option (Nat × Bool)) (w : World) :
 (execOp ρ ⟨dst, .store T x y, ty, pos, af, g⟩).run P w = storeSub n (ρ x) (ρ y) w (dfltStore P T (ρ x) (ρ y) w) := by
 unfold storeSub
 split
 ·rename_i b off hx
  split
  ·rename_i vs hy
   split
   ·rename_i cs t fr hg
    split
    ·rename_i hn
     split
     ·rename_i hle
      split
      ·rename_i hfr
       split
       ·rename_i hok
        subst hfr
        have h1 : ∀ v ∈ vs.toList, v.oneCell' = true := by
         intro v hv
         simp only [rowOk, Array.all_eq_true_iff_forall_mem] at hok
         exact hok v (by simpa using hv)
        have hst := run_storeCells_at P b off t vs.toList 0 cs w hg (by simp; omega) h1
        cases hq : P.info? T with
        | none => simp [hq] at hi
        | some i =>
          have hs : i.size = n := by simpa [hq] using hi
          simp [execOp, Instr.storeAt, Instr.sureAddr, hx, hy, storeVar, Value.cells, Sem.run_bind, sizeOf, typeInfo, hq, hs, hn, hst, putAt]
       ·simp [dfltStore, execOp]
      ·simp [dfltStore, execOp]
     ·simp [dfltStore, execOp]
    ·simp [dfltStore, execOp]
   ·simp [dfltStore, execOp]
  ·simp [dfltStore, execOp]
 ·simp [dfltStore, execOp]
def dfltAny (P : Program) (ρ : Operand → Value) (o : Oper) (w : World) : Result Next := (execOp ρ o).run P w
@[go_sem] def wrapSub (n : Nat) (v : Value) (w : World) (dflt : Result Next) : Result Next :=
  match v with
  | .agg cs => if cs.size = n then .ok (.value (.agg cs)) w else dflt
  | _ => dflt
theorem foldl_whole (cs z : Array Value) (h : cs.size = z.size) : (cs.zipIdx.foldl (fun a (c, j) => a.setIfInBounds (0 + j) c) z) = cs := by
 have H : ∀ (l : List Value) (k : Nat) (a : Array Value), k + l.length = a.size → (l.zipIdx k).foldl (fun a (x : Value × Nat) => a.setIfInBounds (0 + x.2) x.1) a = (a.toList.take k ++ l).toArray := by
  intro l
  induction l with
  | nil =>
    intro k a hk
    have : List.take k a.toList = a.toList := List.take_of_length_le (by simp at hk ⊢; omega)
    simp [this]
  | cons x r ih =>
    intro k a hk
    simp only [List.zipIdx_cons, List.foldl_cons]
    rw [ih (k + 1) _ (by simp at hk ⊢; omega)]
    congr 1
    simp only [Array.toList_setIfInBounds, Nat.zero_add]
    have hk' : k < a.toList.length := by simp at hk ⊢; omega
    rw [List.take_succ_eq_append_getElem (by simpa using hk')]
    simp [List.take_set_of_le]
 have := H cs.toList 0 z (by simp [h])
 rw [← Array.foldl_toList, Array.toList_zipIdx]
 simpa using this
theorem exec_wrap {P : Program} {T n : Nat} {F : Array Field} {f : Field} {z : Array Value} (hu : P.underlying T = some (.struct F)) (hF : F = #[f]) (h0 : f.offset = 0)
 (hf : (P.info? f.type).map (·.size) = some n) (hz : (P.info? T).map (·.zero) = some (some (.agg z))) (hn : z.size = n)
 (ρ : Operand → Value) (dst : Option Tmp) (x : Operand) (ty : TypeId) (pos : String) (af : Array Edge) (g : Option (Nat × Bool)) (w : World) :
 (execOp ρ ⟨dst, .build T #[(0, x)], ty, pos, af, g⟩).run P w = wrapSub n (ρ x) w (dfltAny P ρ ⟨dst, .build T #[(0, x)], ty, pos, af, g⟩ w) := by
 unfold wrapSub
 split
 ·rename_i cs hx
  split
  ·rename_i hc
   subst hF
   cases hq : P.info? T with
   | none => simp [hq] at hz
   | some i =>
     cases hq2 : P.info? f.type with
     | none => simp [hq2] at hf
     | some i2 =>
       have hs : i2.size = n := by simpa [hq2] using hf
       have hzz : i.zero = some (.agg z) := by simpa [hq] using hz
       have e := foldl_whole cs z (by omega)
       simp only [Nat.zero_add] at e
       simp [execOp, Instr.build, zeroValue, typeInfo, hq, hzz, Value.cells, run_underlying hu, sizeOf, hq2, hs, h0, Instr.fill, hx, hc, hn, Array.mapM_eq_foldlM]
       have e2 : Array.foldl (fun cs x => cs.setIfInBounds x.snd x.fst) z cs.zipIdx 0 cs.zipIdx.size = cs := e
       rw [Array.size_zipIdx, hc] at e2
       exact e2
  ·simp [dfltAny]
 ·simp [dfltAny]
@[go_sem] theorem posCells_whole (p : Pos) : (posCells p).extract 0 133 = posCells p := by
  have h := posCells_size p
  rw [← h]; simp
@[go_sem] theorem posCells_one (p : Pos) : rowOk (posCells p) = true := by
  simp only [rowOk, Array.all_eq_true_iff_forall_mem]
  intro v hv
  obtain ⟨i, hi⟩ := Array.getElem?_of_mem hv
  have hlt := (Array.getElem?_eq_some_iff.1 hi).1
  rw [posCells_size] at hlt
  rw [posCells_get p i hlt] at hi
  obtain rfl := Option.some.inj hi
  unfold posCell
  (repeat' split) <;> rfl
@[go_sem] theorem setRow_alloc_at (w : World) (cs cs' : Array Value) (t : TypeId) (fr : Nat × Nat) (n : Nat) (hn : n = w.heap.size) : (w.alloc (.cells cs t fr)).setRow n cs' = w.alloc (.cells cs' t fr) := by
  subst hn
  simp only [World.setRow, World.alloc]
  congr 1
  apply Array.ext_getElem?
  intro i
  simp only [Array.getElem?_modify, Array.getElem?_push]
  by_cases h : w.heap.size = i
  ·subst h; simp
  ·simp [h, show ¬ i = w.heap.size by omega]
@[go_sem] theorem setRow_alloc_past (w : World) (o : Obj) (cs' : Array Value) (n : Nat) (hn : n < w.heap.size) : (w.alloc o).setRow n cs' = (w.setRow n cs').alloc o := by
  simp only [World.setRow, World.alloc]
  congr 1
  apply Array.ext_getElem?
  intro i
  simp only [Array.getElem?_modify, Array.getElem?_push, Array.size_modify]
  by_cases h : n = i
  ·subst h; simp [show ¬ n = w.heap.size by omega]
  ·simp [h]
@[go_sem, simp] theorem putAt_whole (cs vs : Array Value) (h : vs.size = cs.size) : putAt cs 0 vs = vs := by
  have : List.drop cs.size cs.toList = [] := List.drop_of_length_le (by simp)
  simp [putAt, h, this]
def Pos.zero : Pos := { kind := fun _ => 0, side := fun _ => 0, turn := 0, castle := 0, over := 0, half := 0, full := 0 }
def sqCells (p : Pos) : Array Value := Array.ofFn (n := 128) fun i => posCell p i.val
@[go_sem, simp] theorem posCells_sq (p : Pos) : (posCells p).extract 0 128 = sqCells p := by
  apply Array.ext_getElem?
  intro i
  simp only [Array.getElem?_extract, posCells_size, sqCells, Array.getElem?_ofFn]
  by_cases h : i < 128
  ·rw [if_pos (by omega), posCells_get _ _ (by omega)]; simp [h]
  ·rw [if_neg (by omega)]; simp [h]
@[go_sem, simp] theorem sqCells_size (p : Pos) : (sqCells p).size = 128 := by simp [sqCells]
theorem sqCells_get (p : Pos) (i : Nat) (h : i < 128) : (sqCells p)[i]? = some (posCell p i) := by simp [sqCells, h]
attribute [irreducible] sqCells
theorem zeroCells_eq : posCells Pos.zero = Array.replicate 133 (.int .i64 0) := by
 apply Array.ext_getElem?
 intro i
 by_cases h : i < 133
 ·rw [posCells_get _ _ h]
  simp only [Array.getElem?_replicate, h, if_true, posCell, Pos.zero]
  (repeat' split) <;> rfl
 ·rw [Array.getElem?_eq_none (by rw [posCells_size]; omega)]; simp [h]
@[go_sem ↓] theorem load_api_Position (ρ : Operand → Value) (dst : Option Tmp) (x : Operand) (ty : TypeId) (pos : String) (af : Array Edge) (g : Option (Nat × Bool)) (w : World) :
 (execOp ρ ⟨dst, .load 30 x, ty, pos, af, g⟩).run Tryz.prog w = loadSub 133 (ρ x) w (dfltLoad Tryz.prog 30 (ρ x) w) :=
  exec_load_sub (Tryz.underlying30) (by kernel_rfl) (by kernel_rfl) ρ dst x ty pos af g w
@[go_sem ↓] theorem store_api_Position (ρ : Operand → Value) (dst : Option Tmp) (x y : Operand) (ty : TypeId) (pos : String) (af : Array Edge) (g : Option (Nat × Bool)) (w : World) :
 (execOp ρ ⟨dst, .store 30 x y, ty, pos, af, g⟩).run Tryz.prog w = storeSub 133 (ρ x) (ρ y) w (dfltStore Tryz.prog 30 (ρ x) (ρ y) w) :=
  exec_store_sub (by kernel_rfl) ρ dst x y ty pos af g w
theorem zero_api_Position : (Tryz.prog.info? 30).map (·.zero) = some (some (.agg (Array.replicate 133 (.int .i64 0)))) := by kernel_rfl
@[go_sem ↓] theorem alloc_api_Position (ρ : Operand → Value) (dst : Option Tmp) (ty : TypeId) (pos : String) (af : Array Edge) (g : Option (Nat × Bool)) (w : World) :
 (execOp ρ ⟨dst, .alloc 30, ty, pos, af, g⟩).run Tryz.prog w = .ok (.value (.pointer (some ⟨w.heap.size, 0, none⟩))) (w.alloc (.cells (posCells Pos.zero) 30)) := by
  have h := zero_api_Position
  cases hq : Tryz.prog.info? 30 with
  | none => simp [hq] at h
  | some i =>
    have hz : i.zero = some (.agg (Array.replicate 133 (.int .i64 0))) := by simpa [hq] using h
    rw [zeroCells_eq]
    simp [execOp, Instr.alloc, zeroValue, typeInfo, hq, hz, newVar, newRow, newObj, Value.cells]
    rfl
@[go_sem ↓] theorem load_board_checker (ρ : Operand → Value) (dst : Option Tmp) (x : Operand) (ty : TypeId) (pos : String) (af : Array Edge) (g : Option (Nat × Bool)) (w : World) :
 (execOp ρ ⟨dst, .load 163 x, ty, pos, af, g⟩).run Tryz.prog w = loadSub 133 (ρ x) w (dfltLoad Tryz.prog 163 (ρ x) w) :=
  exec_load_sub (Tryz.underlying163) (by kernel_rfl) (by kernel_rfl) ρ dst x ty pos af g w
@[go_sem ↓] theorem store_board_checker (ρ : Operand → Value) (dst : Option Tmp) (x y : Operand) (ty : TypeId) (pos : String) (af : Array Edge) (g : Option (Nat × Bool)) (w : World) :
 (execOp ρ ⟨dst, .store 163 x y, ty, pos, af, g⟩).run Tryz.prog w = storeSub 133 (ρ x) (ρ y) w (dfltStore Tryz.prog 163 (ρ x) (ρ y) w) :=
  exec_store_sub (by kernel_rfl) ρ dst x y ty pos af g w
theorem zero_board_checker : (Tryz.prog.info? 163).map (·.zero) = some (some (.agg (Array.replicate 133 (.int .i64 0)))) := by kernel_rfl
@[go_sem ↓] theorem alloc_board_checker (ρ : Operand → Value) (dst : Option Tmp) (ty : TypeId) (pos : String) (af : Array Edge) (g : Option (Nat × Bool)) (w : World) :
 (execOp ρ ⟨dst, .alloc 163, ty, pos, af, g⟩).run Tryz.prog w = .ok (.value (.pointer (some ⟨w.heap.size, 0, none⟩))) (w.alloc (.cells (posCells Pos.zero) 163)) := by
  have h := zero_board_checker
  cases hq : Tryz.prog.info? 163 with
  | none => simp [hq] at h
  | some i =>
    have hz : i.zero = some (.agg (Array.replicate 133 (.int .i64 0))) := by simpa [hq] using h
    rw [zeroCells_eq]
    simp [execOp, Instr.alloc, zeroValue, typeInfo, hq, hz, newVar, newRow, newObj, Value.cells]
    rfl
@[go_sem ↓] theorem wrap_board_checker (ρ : Operand → Value) (dst : Option Tmp) (x : Operand) (ty : TypeId) (pos : String) (af : Array Edge) (g : Option (Nat × Bool)) (w : World) :
 (execOp ρ ⟨dst, .build 163 #[(0, x)], ty, pos, af, g⟩).run Tryz.prog w = wrapSub 133 (ρ x) w (dfltAny Tryz.prog ρ ⟨dst, .build 163 #[(0, x)], ty, pos, af, g⟩ w) :=
  exec_wrap (Tryz.underlying163) rfl rfl (by kernel_rfl) zero_board_checker (by simp) ρ dst x ty pos af g w
@[go_sem ↓] theorem load_attack_finder (ρ : Operand → Value) (dst : Option Tmp) (x : Operand) (ty : TypeId) (pos : String) (af : Array Edge) (g : Option (Nat × Bool)) (w : World) :
 (execOp ρ ⟨dst, .load 195 x, ty, pos, af, g⟩).run Tryz.prog w = loadSub 133 (ρ x) w (dfltLoad Tryz.prog 195 (ρ x) w) :=
  exec_load_sub (Tryz.underlying195) (by kernel_rfl) (by kernel_rfl) ρ dst x ty pos af g w
@[go_sem ↓] theorem store_attack_finder (ρ : Operand → Value) (dst : Option Tmp) (x y : Operand) (ty : TypeId) (pos : String) (af : Array Edge) (g : Option (Nat × Bool)) (w : World) :
 (execOp ρ ⟨dst, .store 195 x y, ty, pos, af, g⟩).run Tryz.prog w = storeSub 133 (ρ x) (ρ y) w (dfltStore Tryz.prog 195 (ρ x) (ρ y) w) :=
  exec_store_sub (by kernel_rfl) ρ dst x y ty pos af g w
theorem zero_attack_finder : (Tryz.prog.info? 195).map (·.zero) = some (some (.agg (Array.replicate 133 (.int .i64 0)))) := by kernel_rfl
@[go_sem ↓] theorem alloc_attack_finder (ρ : Operand → Value) (dst : Option Tmp) (ty : TypeId) (pos : String) (af : Array Edge) (g : Option (Nat × Bool)) (w : World) :
 (execOp ρ ⟨dst, .alloc 195, ty, pos, af, g⟩).run Tryz.prog w = .ok (.value (.pointer (some ⟨w.heap.size, 0, none⟩))) (w.alloc (.cells (posCells Pos.zero) 195)) := by
  have h := zero_attack_finder
  cases hq : Tryz.prog.info? 195 with
  | none => simp [hq] at h
  | some i =>
    have hz : i.zero = some (.agg (Array.replicate 133 (.int .i64 0))) := by simpa [hq] using h
    rw [zeroCells_eq]
    simp [execOp, Instr.alloc, zeroValue, typeInfo, hq, hz, newVar, newRow, newObj, Value.cells]
    rfl
@[go_sem ↓] theorem wrap_attack_finder (ρ : Operand → Value) (dst : Option Tmp) (x : Operand) (ty : TypeId) (pos : String) (af : Array Edge) (g : Option (Nat × Bool)) (w : World) :
 (execOp ρ ⟨dst, .build 195 #[(0, x)], ty, pos, af, g⟩).run Tryz.prog w = wrapSub 133 (ρ x) w (dfltAny Tryz.prog ρ ⟨dst, .build 195 #[(0, x)], ty, pos, af, g⟩ w) :=
  exec_wrap (Tryz.underlying195) rfl rfl (by kernel_rfl) zero_attack_finder (by simp) ρ dst x ty pos af g w
@[go_sem ↓] theorem load_ends_judge (ρ : Operand → Value) (dst : Option Tmp) (x : Operand) (ty : TypeId) (pos : String) (af : Array Edge) (g : Option (Nat × Bool)) (w : World) :
 (execOp ρ ⟨dst, .load 145 x, ty, pos, af, g⟩).run Tryz.prog w = loadSub 133 (ρ x) w (dfltLoad Tryz.prog 145 (ρ x) w) :=
  exec_load_sub (Tryz.underlying145) (by kernel_rfl) (by kernel_rfl) ρ dst x ty pos af g w
@[go_sem ↓] theorem store_ends_judge (ρ : Operand → Value) (dst : Option Tmp) (x y : Operand) (ty : TypeId) (pos : String) (af : Array Edge) (g : Option (Nat × Bool)) (w : World) :
 (execOp ρ ⟨dst, .store 145 x y, ty, pos, af, g⟩).run Tryz.prog w = storeSub 133 (ρ x) (ρ y) w (dfltStore Tryz.prog 145 (ρ x) (ρ y) w) :=
  exec_store_sub (by kernel_rfl) ρ dst x y ty pos af g w
theorem zero_ends_judge : (Tryz.prog.info? 145).map (·.zero) = some (some (.agg (Array.replicate 133 (.int .i64 0)))) := by kernel_rfl
@[go_sem ↓] theorem alloc_ends_judge (ρ : Operand → Value) (dst : Option Tmp) (ty : TypeId) (pos : String) (af : Array Edge) (g : Option (Nat × Bool)) (w : World) :
 (execOp ρ ⟨dst, .alloc 145, ty, pos, af, g⟩).run Tryz.prog w = .ok (.value (.pointer (some ⟨w.heap.size, 0, none⟩))) (w.alloc (.cells (posCells Pos.zero) 145)) := by
  have h := zero_ends_judge
  cases hq : Tryz.prog.info? 145 with
  | none => simp [hq] at h
  | some i =>
    have hz : i.zero = some (.agg (Array.replicate 133 (.int .i64 0))) := by simpa [hq] using h
    rw [zeroCells_eq]
    simp [execOp, Instr.alloc, zeroValue, typeInfo, hq, hz, newVar, newRow, newObj, Value.cells]
    rfl
@[go_sem ↓] theorem wrap_ends_judge (ρ : Operand → Value) (dst : Option Tmp) (x : Operand) (ty : TypeId) (pos : String) (af : Array Edge) (g : Option (Nat × Bool)) (w : World) :
 (execOp ρ ⟨dst, .build 145 #[(0, x)], ty, pos, af, g⟩).run Tryz.prog w = wrapSub 133 (ρ x) w (dfltAny Tryz.prog ρ ⟨dst, .build 145 #[(0, x)], ty, pos, af, g⟩ w) :=
  exec_wrap (Tryz.underlying145) rfl rfl (by kernel_rfl) zero_ends_judge (by simp) ρ dst x ty pos af g w
@[go_sem ↓] theorem load_legal_judge (ρ : Operand → Value) (dst : Option Tmp) (x : Operand) (ty : TypeId) (pos : String) (af : Array Edge) (g : Option (Nat × Bool)) (w : World) :
 (execOp ρ ⟨dst, .load 167 x, ty, pos, af, g⟩).run Tryz.prog w = loadSub 133 (ρ x) w (dfltLoad Tryz.prog 167 (ρ x) w) :=
  exec_load_sub (Tryz.underlying167) (by kernel_rfl) (by kernel_rfl) ρ dst x ty pos af g w
@[go_sem ↓] theorem store_legal_judge (ρ : Operand → Value) (dst : Option Tmp) (x y : Operand) (ty : TypeId) (pos : String) (af : Array Edge) (g : Option (Nat × Bool)) (w : World) :
 (execOp ρ ⟨dst, .store 167 x y, ty, pos, af, g⟩).run Tryz.prog w = storeSub 133 (ρ x) (ρ y) w (dfltStore Tryz.prog 167 (ρ x) (ρ y) w) :=
  exec_store_sub (by kernel_rfl) ρ dst x y ty pos af g w
theorem zero_legal_judge : (Tryz.prog.info? 167).map (·.zero) = some (some (.agg (Array.replicate 133 (.int .i64 0)))) := by kernel_rfl
@[go_sem ↓] theorem alloc_legal_judge (ρ : Operand → Value) (dst : Option Tmp) (ty : TypeId) (pos : String) (af : Array Edge) (g : Option (Nat × Bool)) (w : World) :
 (execOp ρ ⟨dst, .alloc 167, ty, pos, af, g⟩).run Tryz.prog w = .ok (.value (.pointer (some ⟨w.heap.size, 0, none⟩))) (w.alloc (.cells (posCells Pos.zero) 167)) := by
  have h := zero_legal_judge
  cases hq : Tryz.prog.info? 167 with
  | none => simp [hq] at h
  | some i =>
    have hz : i.zero = some (.agg (Array.replicate 133 (.int .i64 0))) := by simpa [hq] using h
    rw [zeroCells_eq]
    simp [execOp, Instr.alloc, zeroValue, typeInfo, hq, hz, newVar, newRow, newObj, Value.cells]
    rfl
@[go_sem ↓] theorem wrap_legal_judge (ρ : Operand → Value) (dst : Option Tmp) (x : Operand) (ty : TypeId) (pos : String) (af : Array Edge) (g : Option (Nat × Bool)) (w : World) :
 (execOp ρ ⟨dst, .build 167 #[(0, x)], ty, pos, af, g⟩).run Tryz.prog w = wrapSub 133 (ρ x) w (dfltAny Tryz.prog ρ ⟨dst, .build 167 #[(0, x)], ty, pos, af, g⟩ w) :=
  exec_wrap (Tryz.underlying167) rfl rfl (by kernel_rfl) zero_legal_judge (by simp) ρ dst x ty pos af g w
@[go_sem ↓] theorem load_squares (ρ : Operand → Value) (dst : Option Tmp) (x : Operand) (ty : TypeId) (pos : String) (af : Array Edge) (g : Option (Nat × Bool)) (w : World) :
 (execOp ρ ⟨dst, .load 27 x, ty, pos, af, g⟩).run Tryz.prog w = loadSub 128 (ρ x) w (dfltLoad Tryz.prog 27 (ρ x) w) :=
  exec_load_sub (Tryz.underlying27) (by kernel_rfl) (by kernel_rfl) ρ dst x ty pos af g w
theorem size_piece : (Tryz.prog.info? 26).map (·.size) = some 2 := by kernel_rfl
@[go_sem ↓] theorem index_squares (p : Pos) (i : Int) (w : World) (h0 : 0 ≤ i) (h1 : i < 64) :
 (Instr.index 27 (.agg (sqCells p)) (.int .i64 i)).run Tryz.prog w = .ok (.agg #[.int .i64 (p.kind i.toNat), .int .i64 (p.side i.toNat)]) w := by
  have hs := size_piece
  cases hq : Tryz.prog.info? 26 with
  | none => simp [hq] at hs
  | some j =>
    have hs2 : j.size = 2 := by simpa [hq] using hs
    have hagg : (isAgg 26).run Tryz.prog w = .ok true w := by
     unfold isAgg
     rw [Sem.run_bind, run_underlying Tryz.underlying26 w]
     rfl
    obtain ⟨n, rfl⟩ := Int.eq_ofNat_of_zero_le h0
    have e : (sqCells p).extract (n * 2) (n * 2 + 2) = #[.int .i64 (p.kind n), .int .i64 (p.side n)] := by
     apply Array.ext_getElem?
     intro k
     simp only [Array.getElem?_extract, sqCells_size]
     by_cases hk : k < 2
     ·rw [if_pos (by omega), sqCells_get p _ (by omega)]
      rcases (by omega : k = 0 ∨ k = 1) with rfl | rfl
      ·simp [posCell]; omega
      ·simp [posCell, show n * 2 + 1 < 128 by omega, show (n*2+1)/2 = n by omega]
     ·rw [if_neg (by omega)]; simp; omega
    simp [Instr.index, asIntOf, run_underlying Tryz.underlying27 w, h0, h1, part, hagg, sizeOf, typeInfo, hq, hs2, e]
    intro h; omega
@[go_sem high] theorem eql_piece (a b c d : Int) (w : World) : (binOp .eql 26 (.agg #[.int .i64 a, .int .i64 b]) (.agg #[.int .i64 c, .int .i64 d])).run Tryz.prog w = .ok (.bool (a == c && b == d)) w := by
  rw [run_eql_struct]
  have : (Op.equalIn 10000 26 (.agg #[.int .i64 a, .int .i64 b]) (.agg #[.int .i64 c, .int .i64 d])).run Tryz.prog w = .ok (a == c && b == d) w := by
   by_cases h1 : a = c
   ·by_cases h2 : b = d
    ·subst h1; subst h2; go_simp
    ·subst h1; go_simp
   ·go_simp
  rw [this]; rfl
theorem size_int : (Tryz.prog.info? 3).map (·.size) = some 1 := by kernel_rfl
theorem equalIn_arr2 (e : Nat) (a b c d : Int) (w : World) : (Op.equalIn (e + 2) 55 (.agg #[.int .i64 a, .int .i64 b]) (.agg #[.int .i64 c, .int .i64 d])).run Tryz.prog w = .ok (a == c && b == d) w := by
 have hs := size_int
 cases hq : Tryz.prog.info? 3 with
 | none => simp [hq] at hs
 | some j =>
   have hs2 : j.size = 1 := by simpa [hq] using hs
   have hagg : ∀ w, (isAgg 3).run Tryz.prog w = .ok false w := by
    intro w
    unfold isAgg
    rw [Sem.run_bind, run_underlying Tryz.underlying3 w]
    rfl
   have he : ∀ (x y : Int), (Op.equalIn (e + 1) 3 (.int .i64 x) (.int .i64 y)).run Tryz.prog w = .ok (x == y) w := fun x y => run_equalIn_int w e _ _ _ _ _ Tryz.underlying3
   rw [Op.equalIn]
   simp only [Sem.run_bind, run_underlying Tryz.underlying55 w, Result.andThen_ok]
   by_cases h1 : a = c
   ·subst h1
    simp [Std.Legacy.Range.forIn_eq_forIn_range', List.range', sizeOf, typeInfo, hq, hs2, part, hagg, he]
    by_cases h2 : b = d <;> simp [h2]
   ·simp [Std.Legacy.Range.forIn_eq_forIn_range', List.range', sizeOf, typeInfo, hq, hs2, part, hagg, he, h1]
@[go_sem high] theorem eql_arr2 (a b c d : Int) (w : World) : (binOp .eql 55 (.agg #[.int .i64 a, .int .i64 b]) (.agg #[.int .i64 c, .int .i64 d])).run Tryz.prog w = .ok (.bool (a == c && b == d)) w := by
  rw [run_eql_struct, equalIn_arr2 9998]; rfl
end Go.Proofs.YtdmgimfgoajmjaaGreatDoor
