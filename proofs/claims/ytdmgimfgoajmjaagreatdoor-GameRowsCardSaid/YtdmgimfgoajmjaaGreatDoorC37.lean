/- A game's row of cells, in the program and in the document. -/
import Derived.Test.YtdmgimfgoajmjaaGreatDoorC03
import Derived.Test.YtdmgimfgoajmjaaGreatDoorC14
import Derived.Test.YtdmgimfgoajmjaaGreatDoorC07
set_option linter.unusedVariables false
set_option linter.unusedSimpArgs false
set_option maxRecDepth 100000
namespace Go.Proofs.YtdmgimfgoajmjaaGreatDoor
open Go.RowKit
def gmC (b : Value) (p : Pos) (mv : Value) (r y : Int) : Array Value := #[b] ++ (posCells p ++ #[mv, .int .i64 r, .int .i64 y])
def rgC (p : Pos) (b mv : Value) (r y : Int) : Array Value := posCells p ++ #[b, mv, .int .i64 r, .int .i64 y]
@[go_sem] theorem gmC_size (b : Value) (p : Pos) (mv : Value) (r y : Int) : (gmC b p mv r y).size = 137 := by simp [gmC, posCells_size]
@[go_sem] theorem rgC_size (p : Pos) (b mv : Value) (r y : Int) : (rgC p b mv r y).size = 137 := by simp [rgC, posCells_size]
theorem gm_at (b : Value) (p : Pos) (mv : Value) (r y : Int) (i : Nat) : (gmC b p mv r y)[i]? = if i = 0 then some b else if i < 134 then (posCells p)[i - 1]? else if i = 134 then some mv else if i = 135 then some (.int .i64 r) else if i = 136 then some (.int .i64 y) else none := by
 unfold gmC
 by_cases h0 : i = 0
 ·subst h0; rw [Array.getElem?_append_left (by simp), if_pos rfl]; rfl
 ·rw [Array.getElem?_append_right (by simp; omega), if_neg h0]
  simp only [List.size_toArray, List.length_cons, List.length_nil, Nat.zero_add]
  by_cases h1 : i < 134
  ·rw [Array.getElem?_append_left (by rw [posCells_size]; omega), if_pos h1]
  ·rw [Array.getElem?_append_right (by rw [posCells_size]; omega), if_neg h1, posCells_size]
   by_cases h2 : i < 137
   ·rcases (by omega : i = 134 ∨ i = 135 ∨ i = 136) with rfl | rfl | rfl <;> rfl
   ·rw [if_neg (by omega), if_neg (by omega), if_neg (by omega), Array.getElem?_eq_none (by simp; omega)]
theorem rg_at (p : Pos) (b mv : Value) (r y : Int) (i : Nat) : (rgC p b mv r y)[i]? = if i < 133 then (posCells p)[i]? else if i = 133 then some b else if i = 134 then some mv else if i = 135 then some (.int .i64 r) else if i = 136 then some (.int .i64 y) else none := by
 unfold rgC
 by_cases h1 : i < 133
 ·rw [Array.getElem?_append_left (by rw [posCells_size]; omega), if_pos h1]
 ·rw [Array.getElem?_append_right (by rw [posCells_size]; omega), if_neg h1, posCells_size]
  by_cases h2 : i < 137
  ·rcases (by omega : i = 133 ∨ i = 134 ∨ i = 135 ∨ i = 136) with rfl | rfl | rfl | rfl <;> rfl
  ·rw [if_neg (by omega), if_neg (by omega), if_neg (by omega), if_neg (by omega), Array.getElem?_eq_none (by simp; omega)]
attribute [irreducible] gmC rgC
@[go_sem high] theorem gm_0 (b : Value) (p : Pos) (mv : Value) (r y : Int) : (gmC b p mv r y)[0]? = some b := by rw [gm_at]; rfl
@[go_sem high] theorem gm_129 (b : Value) (p : Pos) (mv : Value) (r y : Int) : (gmC b p mv r y)[129]? = some (.int .i64 p.turn) := by rw [gm_at]; exact posCells_turn p
@[go_sem high] theorem gm_134 (b : Value) (p : Pos) (mv : Value) (r y : Int) : (gmC b p mv r y)[134]? = some mv := by rw [gm_at]; rfl
@[go_sem high] theorem gm_135 (b : Value) (p : Pos) (mv : Value) (r y : Int) : (gmC b p mv r y)[135]? = some (.int .i64 r) := by rw [gm_at]; rfl
@[go_sem high] theorem gm_136 (b : Value) (p : Pos) (mv : Value) (r y : Int) : (gmC b p mv r y)[136]? = some (.int .i64 y) := by rw [gm_at]; rfl
@[go_sem high] theorem rg_128 (p : Pos) (b mv : Value) (r y : Int) : (rgC p b mv r y)[128]? = some (.int .i64 p.turn) := by rw [rg_at]; exact posCells_turn p
@[go_sem high] theorem rg_133 (p : Pos) (b mv : Value) (r y : Int) : (rgC p b mv r y)[133]? = some b := by rw [rg_at]; rfl
@[go_sem high] theorem rg_134 (p : Pos) (b mv : Value) (r y : Int) : (rgC p b mv r y)[134]? = some mv := by rw [rg_at]; rfl
@[go_sem high] theorem rg_135 (p : Pos) (b mv : Value) (r y : Int) : (rgC p b mv r y)[135]? = some (.int .i64 r) := by rw [rg_at]; rfl
@[go_sem high] theorem rg_136 (p : Pos) (b mv : Value) (r y : Int) : (rgC p b mv r y)[136]? = some (.int .i64 y) := by rw [rg_at]; rfl
@[go_sem, simp] theorem gm_pos (b : Value) (p : Pos) (mv : Value) (r y : Int) : (gmC b p mv r y).extract 1 134 = posCells p := by
  apply Array.ext_getElem?
  intro i
  rw [Array.getElem?_extract]
  by_cases h : i < 133
  ·rw [if_pos (by rw [gmC_size]; omega), gm_at, if_neg (by omega), if_pos (by omega)]; congr 1; omega
  ·rw [if_neg (by omega), Array.getElem?_eq_none (by rw [posCells_size]; omega)]
@[go_sem, simp] theorem rg_pos (p : Pos) (b mv : Value) (r y : Int) : (rgC p b mv r y).extract 0 133 = posCells p := by
  apply Array.ext_getElem?
  intro i
  rw [Array.getElem?_extract]
  by_cases h : i < 133
  ·rw [if_pos (by rw [rgC_size]; omega), rg_at, Nat.zero_add, if_pos (by omega)]
  ·rw [if_neg (by omega), Array.getElem?_eq_none (by rw [posCells_size]; omega)]
@[go_sem, simp] theorem gm_whole (b : Value) (p : Pos) (mv : Value) (r y : Int) : (gmC b p mv r y).extract 0 137 = gmC b p mv r y := by
  have h := gmC_size b p mv r y
  rw [← h]; simp
@[go_sem, simp] theorem rg_whole (p : Pos) (b mv : Value) (r y : Int) : (rgC p b mv r y).extract 0 137 = rgC p b mv r y := by
  have h := rgC_size p b mv r y
  rw [← h]; simp
theorem putAt_get (cs vs : Array Value) (o i : Nat) (h : o + vs.size ≤ cs.size) : (putAt cs o vs)[i]? = if i < o then cs[i]? else if i < o + vs.size then vs[i - o]? else cs[i]? := by
 unfold putAt
 rw [List.getElem?_toArray]
 by_cases h1 : i < o
 ·rw [if_pos h1, List.append_assoc, List.getElem?_append_left (by simp; omega), List.getElem?_take_of_lt h1, Array.getElem?_toList]
 ·rw [if_neg h1, List.append_assoc, List.getElem?_append_right (by simp; omega)]
  have hl : (cs.toList.take o).length = o := by simp; omega
  rw [hl]
  by_cases h2 : i < o + vs.size
  ·rw [if_pos h2, List.getElem?_append_left (by simp; omega), Array.getElem?_toList]
  ·rw [if_neg h2, List.getElem?_append_right (by simp; omega), List.getElem?_drop, Array.getElem?_toList]
   congr 1
   simp
   omega
@[go_sem, simp] theorem gm_put (b : Value) (p q : Pos) (mv : Value) (r y : Int) : putAt (gmC b p mv r y) 1 (posCells q) = gmC b q mv r y := by
  apply Array.ext_getElem?
  intro i
  rw [putAt_get _ _ _ _ (by rw [gmC_size, posCells_size]; omega), gm_at, gm_at, posCells_size]
  by_cases h : i < 1
  ·rw [if_pos h, if_pos (by omega), if_pos (by omega)]
  ·by_cases h2 : i < 134
   ·simp only [h, h2, if_true, if_false, show i ≠ 0 by omega]
   ·simp only [h, h2, if_true, if_false, show i ≠ 0 by omega]
@[go_sem, simp] theorem rg_put (p q : Pos) (b mv : Value) (r y : Int) : putAt (rgC p b mv r y) 0 (posCells q) = rgC q b mv r y := by
  apply Array.ext_getElem?
  intro i
  rw [putAt_get _ _ _ _ (by rw [rgC_size, posCells_size]; omega), rg_at, rg_at, posCells_size, if_neg (by omega)]
  by_cases h2 : i < 133
  ·simp only [h2, if_true, if_false, Nat.zero_add, Nat.sub_zero]
  ·simp only [h2, if_true, if_false, Nat.zero_add]
theorem row_eq {A B : Array Value} {j : Nat} {v : Value} (hs : A.size = B.size) (hj : B[j]? = some v) (h : ∀ i, i ≠ j → A[i]? = B[i]?) : A.setIfInBounds j v = B := by
 apply Array.ext_getElem?
 intro i
 rw [Array.getElem?_setIfInBounds]
 by_cases e : j = i
 ·subst e
  rw [if_pos rfl, if_pos (by rw [hs]; exact (Array.getElem?_eq_some_iff.1 hj).1), hj]
 ·rw [if_neg e]; exact h i (fun x => e x.symm)
theorem gm_set0 (b b' : Value) (p : Pos) (mv : Value) (r y : Int) : (gmC b p mv r y).setIfInBounds 0 b' = gmC b' p mv r y := row_eq (by rw [gmC_size, gmC_size]) (gm_0 ..) fun i h => by rw [gm_at, gm_at, if_neg h, if_neg h]
theorem gm_set134 (b : Value) (p : Pos) (mv mv' : Value) (r y : Int) : (gmC b p mv r y).setIfInBounds 134 mv' = gmC b p mv' r y := row_eq (by rw [gmC_size, gmC_size]) (gm_134 ..) fun i h => by rw [gm_at, gm_at]; simp only [h, if_false]
theorem gm_set135 (b : Value) (p : Pos) (mv : Value) (r r' y : Int) : (gmC b p mv r y).setIfInBounds 135 (.int .i64 r') = gmC b p mv r' y := row_eq (by rw [gmC_size, gmC_size]) (gm_135 ..) fun i h => by rw [gm_at, gm_at]; simp only [h, if_false]
theorem gm_set136 (b : Value) (p : Pos) (mv : Value) (r y y' : Int) : (gmC b p mv r y).setIfInBounds 136 (.int .i64 y') = gmC b p mv r y' := row_eq (by rw [gmC_size, gmC_size]) (gm_136 ..) fun i h => by rw [gm_at, gm_at]; simp only [h, if_false]
theorem rg_set133 (p : Pos) (b b' mv : Value) (r y : Int) : (rgC p b mv r y).setIfInBounds 133 b' = rgC p b' mv r y := row_eq (by rw [rgC_size, rgC_size]) (rg_133 ..) fun i h => by rw [rg_at, rg_at]; simp only [h, if_false]
theorem rg_set134 (p : Pos) (b mv mv' : Value) (r y : Int) : (rgC p b mv r y).setIfInBounds 134 mv' = rgC p b mv' r y := row_eq (by rw [rgC_size, rgC_size]) (rg_134 ..) fun i h => by rw [rg_at, rg_at]; simp only [h, if_false]
theorem rg_set135 (p : Pos) (b mv : Value) (r r' y : Int) : (rgC p b mv r y).setIfInBounds 135 (.int .i64 r') = rgC p b mv r' y := row_eq (by rw [rgC_size, rgC_size]) (rg_135 ..) fun i h => by rw [rg_at, rg_at]; simp only [h, if_false]
theorem rg_set136 (p : Pos) (b mv : Value) (r y y' : Int) : (rgC p b mv r y).setIfInBounds 136 (.int .i64 y') = rgC p b mv r y' := row_eq (by rw [rgC_size, rgC_size]) (rg_136 ..) fun i h => by rw [rg_at, rg_at]; simp only [h, if_false]
theorem row_one {A : Array Value} (h : ∀ (i : Nat) v, A[i]? = some v → v.oneCell' = true) : rowOk A = true := by
 simp only [rowOk, Array.all_eq_true_iff_forall_mem]
 intro v hv
 obtain ⟨i, hi⟩ := Array.getElem?_of_mem hv
 exact h i v hi
theorem one_pos {p : Pos} {i : Nat} {v : Value} (h : (posCells p)[i]? = some v) : v.oneCell' = true := by
 have := posCells_one p
 simp only [rowOk, Array.all_eq_true_iff_forall_mem] at this
 exact this v (Array.mem_of_getElem? h)
@[go_sem] theorem gm_one (b : Value) (p : Pos) (mv : Value) (r y : Int) (hb : b.oneCell' = true) (hm : mv.oneCell' = true) : rowOk (gmC b p mv r y) = true := by
  refine row_one fun i v h => ?_
  rw [gm_at] at h
  (repeat' split at h) <;> first | exact one_pos h | (cases h <;> first | exact hb | exact hm | rfl)
@[go_sem] theorem rg_one (p : Pos) (b mv : Value) (r y : Int) (hb : b.oneCell' = true) (hm : mv.oneCell' = true) : rowOk (rgC p b mv r y) = true := by
  refine row_one fun i v h => ?_
  rw [rg_at] at h
  (repeat' split at h) <;> first | exact one_pos h | (cases h <;> first | exact hb | exact hm | rfl)
def gmZ : Array Value := gmC (.pointer none) Pos.zero (.slice none 0 0) 0 0
def rgZ : Array Value := rgC Pos.zero (.slice none 0 0) (.slice none 0 0) 0 0
theorem zero_gm : (Tryz.prog.info? 142).map (·.zero) = some (some (.agg (#[.pointer none] ++ (Array.replicate 133 (.int .i64 0) ++ #[.slice none 0 0, .int .i64 0, .int .i64 0])))) := by kernel_rfl
theorem zero_rg : (Tryz.prog.info? 65).map (·.zero) = some (some (.agg (Array.replicate 133 (.int .i64 0) ++ #[.slice none 0 0, .slice none 0 0, .int .i64 0, .int .i64 0]))) := by kernel_rfl
theorem gmZ_eq : gmZ = #[.pointer none] ++ (Array.replicate 133 (.int .i64 0) ++ #[.slice none 0 0, .int .i64 0, .int .i64 0]) := by
 unfold gmZ gmC; rw [zeroCells_eq]
theorem rgZ_eq : rgZ = Array.replicate 133 (.int .i64 0) ++ #[.slice none 0 0, .slice none 0 0, .int .i64 0, .int .i64 0] := by
 unfold rgZ rgC; rw [zeroCells_eq]
@[go_sem ↓] theorem load_gm (ρ : Operand → Value) (dst : Option Tmp) (x : Operand) (ty : TypeId) (pos : String) (af : Array Edge) (g : Option (Nat × Bool)) (w : World) :
 (execOp ρ ⟨dst, .load 142 x, ty, pos, af, g⟩).run Tryz.prog w = loadSub 137 (ρ x) w (dfltLoad Tryz.prog 142 (ρ x) w) :=
  exec_load_sub (Tryz.underlying142) (by kernel_rfl) (by kernel_rfl) ρ dst x ty pos af g w
@[go_sem ↓] theorem store_gm (ρ : Operand → Value) (dst : Option Tmp) (x y : Operand) (ty : TypeId) (pos : String) (af : Array Edge) (g : Option (Nat × Bool)) (w : World) :
 (execOp ρ ⟨dst, .store 142 x y, ty, pos, af, g⟩).run Tryz.prog w = storeSub 137 (ρ x) (ρ y) w (dfltStore Tryz.prog 142 (ρ x) (ρ y) w) :=
  exec_store_sub (by kernel_rfl) ρ dst x y ty pos af g w
@[go_sem ↓] theorem load_rg (ρ : Operand → Value) (dst : Option Tmp) (x : Operand) (ty : TypeId) (pos : String) (af : Array Edge) (g : Option (Nat × Bool)) (w : World) :
 (execOp ρ ⟨dst, .load 65 x, ty, pos, af, g⟩).run Tryz.prog w = loadSub 137 (ρ x) w (dfltLoad Tryz.prog 65 (ρ x) w) :=
  exec_load_sub (Tryz.underlying65) (by kernel_rfl) (by kernel_rfl) ρ dst x ty pos af g w
@[go_sem ↓] theorem store_rg (ρ : Operand → Value) (dst : Option Tmp) (x y : Operand) (ty : TypeId) (pos : String) (af : Array Edge) (g : Option (Nat × Bool)) (w : World) :
 (execOp ρ ⟨dst, .store 65 x y, ty, pos, af, g⟩).run Tryz.prog w = storeSub 137 (ρ x) (ρ y) w (dfltStore Tryz.prog 65 (ρ x) (ρ y) w) :=
  exec_store_sub (by kernel_rfl) ρ dst x y ty pos af g w
@[go_sem ↓] theorem alloc_gm (ρ : Operand → Value) (dst : Option Tmp) (ty : TypeId) (pos : String) (af : Array Edge) (g : Option (Nat × Bool)) (w : World) :
 (execOp ρ ⟨dst, .alloc 142, ty, pos, af, g⟩).run Tryz.prog w = .ok (.value (.pointer (some ⟨w.heap.size, 0, none⟩))) (w.alloc (.cells gmZ 142)) := by
  have h := zero_gm
  cases hq : Tryz.prog.info? 142 with
  | none => simp [hq] at h
  | some i =>
    have hz : i.zero = some (.agg gmZ) := by rw [gmZ_eq]; simpa [hq] using h
    simp [execOp, Instr.alloc, zeroValue, typeInfo, hq, hz, newVar, newRow, newObj, Value.cells]
    rfl
@[go_sem ↓] theorem alloc_rg (ρ : Operand → Value) (dst : Option Tmp) (ty : TypeId) (pos : String) (af : Array Edge) (g : Option (Nat × Bool)) (w : World) :
 (execOp ρ ⟨dst, .alloc 65, ty, pos, af, g⟩).run Tryz.prog w = .ok (.value (.pointer (some ⟨w.heap.size, 0, none⟩))) (w.alloc (.cells rgZ 65)) := by
  have h := zero_rg
  cases hq : Tryz.prog.info? 65 with
  | none => simp [hq] at h
  | some i =>
    have hz : i.zero = some (.agg rgZ) := by rw [rgZ_eq]; simpa [hq] using h
    simp [execOp, Instr.alloc, zeroValue, typeInfo, hq, hz, newVar, newRow, newObj, Value.cells]
    rfl
@[go_sem] def buildGm (v : Value) (w : World) (dflt : Result Next) : Result Next :=
  match v with
  | .agg cs => if cs.size = 1 then .ok (.value (.agg (gmC (cs.getD 0 undef) Pos.zero (.slice none 0 0) 0 0))) w else dflt
  | _ => dflt
theorem one_row {cs : Array Value} (h : cs.size = 1) : cs = #[cs.getD 0 undef] := by
 apply Array.ext_getElem?
 intro i
 by_cases hi : i < 1
 ·obtain rfl : i = 0 := by omega
  simp [Array.getD_eq_getD_getElem?, h]
 ·rw [Array.getElem?_eq_none (by omega), Array.getElem?_eq_none (by simp; omega)]
theorem built_zero {P : Program} {T : TypeId} {F : Array Field} {z : Value} {pl : List (Nat × Nat)} (hu : P.underlying T = some (.struct F)) (hz : (P.info? T).map (·.zero) = some (some z))
 (hp : F.toList.mapM (fun f => (P.info? f.type).map fun i => (f.offset, i.size)) = some pl) : P.built T [] = some z.cells := by
 unfold Program.built
 cases hq : P.info? T with
 | none => simp [hq] at hz
 | some it =>
   have h : it.zero = some z := by simpa [hq] using hz
   simp only [hu, h, hp]
   rfl
theorem built_first {P : Program} {T : TypeId} {F : Array Field} {z : Array Value} {n : Nat} {pl : List (Nat × Nat)} (hu : P.underlying T = some (.struct F)) (hz : (P.info? T).map (·.zero) = some (some (.agg z)))
 (hp : F.toList.mapM (fun f => (P.info? f.type).map fun i => (f.offset, i.size)) = some ((0, n) :: pl)) (cs : Array Value) (hc : cs.size = n) (hn : n ≤ z.size) : P.built T [(0, .agg cs)] = some (cs.toList ++ z.toList.drop n).toArray := by
 unfold Program.built
 cases hq : P.info? T with
 | none => simp [hq] at hz
 | some it =>
   have h : it.zero = some (.agg z) := by simpa [hq] using hz
   simp only [hu, h, hp]
   have h0 : ((0, n) :: pl).toArray[0]? = some (0, n) := rfl
   simp only [Instr.fill, h0]
   have hcc : (Value.agg cs).cells = cs := rfl
   rw [hcc, if_neg (by simp [hc]; exact hn)]
   have hf := fold_at cs z 0 (by omega)
   rw [List.take_zero, List.nil_append, Nat.zero_add, hc] at hf
   exact congrArg some hf
@[go_sem ↓] theorem build_gm (ρ : Operand → Value) (dst : Option Tmp) (x : Operand) (ty : TypeId) (pos : String) (af : Array Edge) (g : Option (Nat × Bool)) (w : World) :
 (execOp ρ ⟨dst, .build 142 #[(0, x)], ty, pos, af, g⟩).run Tryz.prog w = buildGm (ρ x) w (dfltAny Tryz.prog ρ ⟨dst, .build 142 #[(0, x)], ty, pos, af, g⟩ w) := by
  unfold buildGm
  split
  ·rename_i cs hx
   split
   ·rename_i h1
    have hb : Tryz.prog.built 142 (#[(0, x)].map fun (i, x) => (i, ρ x)).toList = some (gmC (cs.getD 0 undef) Pos.zero (.slice none 0 0) 0 0) := by
     have e := built_first Tryz.underlying142 zero_gm (n := 1) (pl := [(1, 133), (134, 1), (135, 1), (136, 1)]) (by kernel_rfl) cs h1 (by simp)
     have e2 : (cs.toList ++ (#[.pointer none] ++ (Array.replicate 133 (.int .i64 0) ++ #[.slice none 0 0, .int .i64 0, .int .i64 0]) : Array Value).toList.drop 1).toArray = gmC (cs.getD 0 undef) Pos.zero (.slice none 0 0) 0 0 := by
      apply Array.ext_getElem?
      intro i
      have hg := gm_at (.pointer none) Pos.zero (.slice none 0 0) 0 0 i
      have hz : (gmC (.pointer none) Pos.zero (.slice none 0 0) 0 0) = gmZ := rfl
      rw [hz, gmZ_eq] at hg
      rw [gm_at]
      by_cases h0 : i = 0
      ·subst h0
       rw [if_pos rfl, List.getElem?_toArray, List.getElem?_append_left (by simp [h1])]
       have := one_row h1
       rw [this]; rfl
      ·rw [if_neg h0] at hg ⊢
       rw [← hg, List.getElem?_toArray, List.getElem?_append_right (by simp [h1]; omega), List.getElem?_drop, Array.getElem?_toList]
       congr 1
       simp [h1]; omega
     rw [e2] at e
     simpa [hx] using e
    simp only [execOp, Sem.run_bind, run_build w 142 _ _ hb]
    rfl
   ·simp [dfltAny]
  ·simp [dfltAny]
@[go_sem ↓] theorem build_rg (ρ : Operand → Value) (dst : Option Tmp) (ty : TypeId) (pos : String) (af : Array Edge) (g : Option (Nat × Bool)) (w : World) :
 (execOp ρ ⟨dst, .build 65 #[], ty, pos, af, g⟩).run Tryz.prog w = .ok (.value (.agg rgZ)) w := by
  have hb : Tryz.prog.built 65 (#[].map fun (i, x) => (i, ρ x)).toList = some rgZ := by
   have := built_zero Tryz.underlying65 zero_rg (pl := [(0, 133), (133, 1), (134, 1), (135, 1), (136, 1)]) (by kernel_rfl)
   rw [rgZ_eq, Array.map_empty]
   exact this
  simp only [execOp, Sem.run_bind, run_build w 65 _ _ hb]
  rfl
end Go.Proofs.YtdmgimfgoajmjaaGreatDoor
