/- AgainEnds: the closed law answers true. No argument, no condition but the card's. -/
import Derived.Test.YtdmgimfgoajmjaaGreatDoorC49
import Derived.Test.YtdmgimfgoajmjaaGreatDoorC40
import Derived.Test.YtdmgimfgoajmjaaGreatDoorC50
import Derived.Test.YtdmgimfgoajmjaaGreatDoorC48
set_option linter.unusedVariables false
set_option linter.unusedSimpArgs false
namespace Go.Proofs.YtdmgimfgoajmjaaGreatDoor
open Go.RowKit Go.Maps
def NoB (w : World) (v : Value) : Prop := v = .pointer none ∨ ∃ b, v = .pointer (some ⟨b, 0, none⟩) ∧ blk w b = some (.cells #[.map none] 101 (0, 0))
theorem NoB.ext {w w' : World} {v : Value} (h : NoB w v) (hx : Ext w w') : NoB w' v := by
  rcases h with h | ⟨b, h1, h2⟩
  · exact .inl h
  · exact .inr ⟨b, h1, (hx.blk _ (blk_lt h2)).trans h2⟩
@[go_sem high] theorem neq_book_nomap (w : World) : (binOp .neq 97 (.map none) (.map none)).run Tryz.prog w = .ok (.bool false) w :=
  Go.run_neq_map_nil w _ _ _ none Tryz.underlying97
set_option maxRecDepth 100000 in
theorem there_no (v : Value) (w : World) (h : NoB w v) : Calls Tryz.prog 64 #[v] w (Ret (.bool false) w) := by
  rcases h with rfl | ⟨b, rfl, hb⟩
  · go_enter Tryz.func64, Tryz.ntmps64
    go_wp2
    go_ret
    exact Ret.mk' rfl (Ext.refl _)
  · have hc := blk_cell hb 0
    simp only [List.getElem?_toArray, List.getElem?_cons_zero] at hc
    go_enter Tryz.func64, Tryz.ntmps64
    go_wp2
    go_ret
    exact Ret.mk' rfl (Ext.refl _)
set_option maxRecDepth 100000 in
theorem Put_no (v : Value) (p : Pos) (w : World) (h : NoB w v) : Calls Tryz.prog 19 #[v, .agg (posCells p)] w (Ret (.int .i64 0) w) := by
  have hT := there_no v _ (h.ext (Ext.alloc (Ext.refl w) (.cells (posCells p) 30)))
  go_enter Tryz.func19, Tryz.ntmps19
  go_wp2_with (go_at_call 64; (with_reducible refine hT.mono ?_); rintro e w1 ⟨rfl, hx1⟩)
  go_ret
  exact Ret.mk' rfl (Ext.auto)
set_option maxRecDepth 100000 in
theorem Many_no (v : Value) (p : Pos) (w : World) (h : NoB w v) : Calls Tryz.prog 23 #[v, .agg (posCells p)] w (Ret (.int .i64 0) w) := by
  have hT := there_no v _ (h.ext (Ext.alloc (Ext.refl w) (.cells (posCells p) 30)))
  go_enter Tryz.func23, Tryz.ntmps23
  go_wp2_with (go_at_call 64; (with_reducible refine hT.mono ?_); rintro e w1 ⟨rfl, hx1⟩)
  go_ret
  exact Ret.mk' rfl (Ext.auto)
set_option maxRecDepth 100000 in
theorem Most_no (v : Value) (w : World) (h : NoB w v) : Calls Tryz.prog 21 #[v] w (Ret (.int .i64 0) w) := by
  have hT := there_no v _ h
  go_enter Tryz.func21, Tryz.ntmps21
  go_wp2_with (go_at_call 64; (with_reducible refine hT.mono ?_); rintro e w1 ⟨rfl, hx1⟩)
  go_ret
  exact Ret.mk' rfl (Ext.auto)
set_option maxRecDepth 100000 in
theorem Copy_no (v : Value) (w : World) (h : NoB w v) : Calls Tryz.prog 32 #[v] w (Ret (.pointer none) w) := by
  have hT := there_no v _ h
  go_enter Tryz.func32, Tryz.ntmps32
  go_wp2_with (go_at_call 64; (with_reducible refine hT.mono ?_); rintro e w1 ⟨rfl, hx1⟩)
  go_ret
  exact Ret.mk' rfl (Ext.auto)
def MSn (v : Value) (g k : Nat) (wr W : World) : Prop := Ext wr W ∧ W.cell? ⟨g, k, none⟩ = some v ∧ g < wr.heap.size
theorem MSn.ext {v : Value} {g k : Nat} {wr W W' : World} (h : MSn v g k wr W) (hx : Ext W W') : MSn v g k wr W' :=
  ⟨h.1.trans hx, by rw [hx.cell _ _ (Nat.lt_of_lt_of_le h.2.2 h.1.le)]; exact h.2.1, h.2.2⟩
set_option maxRecDepth 100000 in
set_option maxHeartbeats 2000000 in
theorem none_any (w : World) : Calls Tryz.prog 27 #[] w (Ret (.bool true) w) := by
  go_enter Tryz.func27, Tryz.ntmps27
  go_upto_block 0 with (fail)
  have hb : blk ((w.alloc (.cells #[.map none] 101)).alloc (.cells #[.pointer none, .pointer (some ⟨w.heap.size, 0, none⟩)] 32)) w.heap.size = some (.cells #[.map none] 101 (0, 0)) := by simp [go_sem]
  have hg : blk ((w.alloc (.cells #[.map none] 101)).alloc (.cells #[.pointer none, .pointer (some ⟨w.heap.size, 0, none⟩)] 32)) (w.heap.size + 1) = some (.cells #[.pointer none, .pointer (some ⟨w.heap.size, 0, none⟩)] 32 (0, 0)) := blk_alloc_at _ _ _ (by simp)
  have hE1 : Ext w ((w.alloc (.cells #[.map none] 101)).alloc (.cells #[.pointer none, .pointer (some ⟨w.heap.size, 0, none⟩)] 32)) := (Ext.auto)
  generalize (w.alloc (.cells #[.map none] 101)).alloc (.cells #[.pointer none, .pointer (some ⟨w.heap.size, 0, none⟩)] 32) = W1 at *
  generalize w.heap.size + 1 = g at *
  go_wp2
  go_loopw [2] (fun i wr => ∃ k : Nat, i = .int .i64 k ∧ k ≤ 2 ∧ Ext W1 wr) (fun i _ => 2 - (intOf i).toNat)
  case atStart => exact ⟨0, rfl, by omega, Ext.refl _⟩
  case round =>
    obtain ⟨k, rfl, hk, hxr⟩ := hrel
    by_cases hlt : k < 2
    · obtain ⟨v, hv, hn⟩ : ∃ v, wr.cell? ⟨g, k, none⟩ = some v ∧ NoB wr v := by
        have hgr := (hxr.blk _ (blk_lt hg)).trans hg
        rcases (by omega : k = 0 ∨ k = 1) with rfl | rfl
        · exact ⟨_, (blk_cell hgr 0).trans rfl, .inl rfl⟩
        · exact ⟨_, (blk_cell hgr 1).trans rfl, .inr ⟨_, rfl, (hxr.blk _ (blk_lt hb)).trans hb⟩⟩
      have hM0 : MSn v g k wr wr.drew := ⟨Ext.drew (Ext.refl _), hv, Nat.lt_of_lt_of_le (blk_lt hg) hxr.le⟩
      have HX := hid hxr
      have HNB := hid hn
      clear hb hg hE1 hv hxr hn
      go_upto_region 5 with (fail)
      refine wp_region_held_drew (S := MSn v g k wr) (by kernel_rfl) (hM0) (fun hH => ?_)
      refine hTk (i := 0) (v := ?_) (hy := Or.inl ⟨by rfl, ?_⟩) (h := ?_); rotate_left 1; (intro w0 hS; unfold MSn at hS; go_simp; try with_reducible rfl); (try go_frame)
      refine hTk (i := 1) (v := ?_) (hy := Or.inl ⟨by rfl, ?_⟩) (h := ?_); rotate_left 1; (intro w0 hS; unfold MSn at hS; go_simp; try with_reducible rfl); (try go_frame)
      refine hTk (i := 2) (v := ?_) (hy := Or.inl ⟨by rfl, ?_⟩) (h := ?_); rotate_left 1; (intro w0 hS; unfold MSn at hS; go_simp; try with_reducible rfl); (try go_frame)
      refine hTk (i := 3) (v := ?_) (hy := Or.inl ⟨by rfl, ?_⟩) (h := ?_); rotate_left 1; (intro w0 hS; unfold MSn at hS; go_simp; try with_reducible rfl); (try go_frame)
      refine hTk (i := 6) (v := ?_) (hy := Or.inl ⟨by rfl, ?_⟩) (h := ?_); rotate_left 1; (intro w0 hS; unfold MSn at hS; go_simp; try with_reducible rfl); (try go_frame)
      refine hTk (i := 7) (v := ?_) (hy := Or.inl ⟨by rfl, ?_⟩) (h := ?_); rotate_left 1; (intro w0 hS; unfold MSn at hS; go_simp; try with_reducible rfl); (try go_frame)
      refine hTk (i := 8) (v := ?_) (hy := Or.inl ⟨by rfl, ?_⟩) (h := ?_); rotate_left 1; (intro w0 hS; unfold MSn at hS; go_simp; try with_reducible rfl); (try go_frame)
      refine hTk (i := 9) (v := ?_) (hy := Or.inl ⟨by rfl, ?_⟩) (h := ?_); rotate_left 1; (intro w0 hS; unfold MSn at hS; go_simp; try with_reducible rfl); (try go_frame)
      refine hTk (i := 13) (v := ?_) (hy := Or.inl ⟨by rfl, ?_⟩) (h := ?_); rotate_left 1; (intro w0 hS; unfold MSn at hS; go_simp; try with_reducible rfl); (try go_frame)
      refine hTk (i := 14) (v := ?_) (hy := Or.inl ⟨by rfl, ?_⟩) (h := ?_); rotate_left 1; (intro w0 hS; unfold MSn at hS; go_simp; try with_reducible rfl); (try go_frame)
      refine hTk (i := 15) (v := ?_) (hy := Or.inl ⟨by rfl, ?_⟩) (h := ?_); rotate_left 1; (intro w0 hS; unfold MSn at hS; go_simp; try with_reducible rfl); (try go_frame)
      refine hTk (i := 16) (v := ?_) (hy := Or.inl ⟨by rfl, ?_⟩) (h := ?_); rotate_left 1; (intro w0 hS; unfold MSn at hS; go_simp; try with_reducible rfl); (try go_frame)
      refine wpAnyH_ready (rs := [4]) (by kernel_rfl) (by simp) ?_; refine hCo (h := fun K hK => ?_) (hs := AllReadyH.nil); go_simp
      refine (rStart_any _).mono ?_
      rintro e w8 ⟨rfl, hx8⟩
      refine hK.out _ _ (hH.ext (by first | assumption | exact Ext.alloc (Ext.refl _) _)) (fun hH => ?_); clear hK; (try go_frame)
      refine wpAnyH_ready (rs := [5]) (by kernel_rfl) (by simp) ?_; refine hCo (h := fun K hK => ?_) (hs := AllReadyH.nil); go_simp
      refine (Put_no v _ _ (HNB.out.ext hH.1)).mono ?_
      rintro e w8 ⟨rfl, hx8⟩
      refine hK.out _ _ (hH.ext (by first | assumption | exact Ext.alloc (Ext.refl _) _)) (fun hH => ?_); clear hK; (try go_frame)
      refine wpAnyH_ready (rs := [10]) (by kernel_rfl) (by simp) ?_; refine hCo (h := fun K hK => ?_) (hs := AllReadyH.nil); go_simp
      refine (rStart_any _).mono ?_
      rintro e w8 ⟨rfl, hx8⟩
      refine hK.out _ _ (hH.ext (by first | assumption | exact Ext.alloc (Ext.refl _) _)) (fun hH => ?_); clear hK; (try go_frame)
      refine wpAnyH_ready (rs := [11]) (by kernel_rfl) (by simp) ?_; refine hCo (h := fun K hK => ?_) (hs := AllReadyH.nil); go_simp
      refine (Many_no v _ _ (HNB.out.ext hH.1)).mono ?_
      rintro e w8 ⟨rfl, hx8⟩
      refine hK.out _ _ (hH.ext (by first | assumption | exact Ext.alloc (Ext.refl _) _)) (fun hH => ?_); clear hK; (try go_frame)
      refine hTk (i := 12) (v := ?_) (hy := Or.inl ⟨by rfl, ?_⟩) (h := ?_); rotate_left 1; (intro w0 hS; unfold MSn at hS; go_simp; try with_reducible rfl); (try go_frame)
      refine wpAnyH_ready (rs := [17]) (by kernel_rfl) (by simp) ?_; refine hCo (h := fun K hK => ?_) (hs := AllReadyH.nil); go_simp
      refine (Most_no v _ (HNB.out.ext hH.1)).mono ?_
      rintro e w8 ⟨rfl, hx8⟩
      refine hK.out _ _ (hH.ext (by first | assumption | exact Ext.alloc (Ext.refl _) _)) (fun hH => ?_); clear hK; (try go_frame)
      refine hTk (i := 18) (v := ?_) (hy := Or.inl ⟨by rfl, ?_⟩) (h := ?_); rotate_left 1; (intro w0 hS; unfold MSn at hS; go_simp; try with_reducible rfl); (try go_frame)
      refine hTk (i := 19) (v := ?_) (hy := Or.inl ⟨by rfl, ?_⟩) (h := ?_); rotate_left 1; (intro w0 hS; unfold MSn at hS; go_simp; try with_reducible rfl); (try go_frame)
      refine hTk (i := 20) (v := ?_) (hy := Or.inl ⟨by rfl, ?_⟩) (h := ?_); rotate_left 1; (intro w0 hS; unfold MSn at hS; go_simp; try with_reducible rfl); (try go_frame)
      refine hTk (i := 21) (v := ?_) (hy := Or.inl ⟨by rfl, ?_⟩) (h := ?_); rotate_left 1; (intro w0 hS; unfold MSn at hS; go_simp; try with_reducible rfl); (try go_frame)
      refine hTk (i := 22) (v := ?_) (hy := Or.inl ⟨by rfl, ?_⟩) (h := ?_); rotate_left 1; (intro w0 hS; unfold MSn at hS; go_simp; try with_reducible rfl); (try go_frame)
      refine hTk (i := 23) (v := ?_) (hy := Or.inl ⟨by rfl, ?_⟩) (h := ?_); rotate_left 1; (intro w0 hS; unfold MSn at hS; go_simp; try with_reducible rfl); (try go_frame)
      refine hTk (i := 24) (v := ?_) (hy := Or.inl ⟨by rfl, ?_⟩) (h := ?_); rotate_left 1; (intro w0 hS; unfold MSn at hS; go_simp; try with_reducible rfl); (try go_frame)
      refine wpAnyH_ready (rs := [25]) (by kernel_rfl) (by simp) ?_; refine hCo (h := fun K hK => ?_) (hs := AllReadyH.nil); go_simp
      refine (Copy_no v _ (HNB.out.ext hH.1)).mono ?_
      rintro e w8 ⟨rfl, hx8⟩
      refine hK.out _ _ (hH.ext (by first | assumption | exact Ext.alloc (Ext.refl _) _)) (fun hH => ?_); clear hK; (try go_frame)
      refine hTk (i := 26) (v := ?_) (hy := Or.inl ⟨by rfl, ?_⟩) (h := ?_); rotate_left 1; (intro w0 hS; unfold MSn at hS; go_simp; try with_reducible rfl); (try go_frame)
      refine hTk (i := 27) (v := ?_) (hy := Or.inl ⟨by rfl, ?_⟩) (h := ?_); rotate_left 1; (intro w0 hS; unfold MSn at hS; go_simp; try with_reducible rfl); (try go_frame)
      refine wpAnyH_done (by kernel_rfl) ?_ _
      have hx9 := hH.1
      clear hM0 hH
      go_wp2
      go_roundw
      case rel => exact ⟨k + 1, by go_num, by omega, HX.out.trans hx9⟩
      case measure => simp [intOf]; omega
    · obtain rfl : k = 2 := by omega
      go_wp2
      go_ret
      exact Ret.mk' rfl (hE1.trans hxr)
end Go.Proofs.YtdmgimfgoajmjaaGreatDoor
namespace Go.Proofs.YtdmgimfgoajmjaaGreatDoor
open Go.RowKit
def catA (l : List (Array Value)) : Array Value := (l.flatMap Array.toList).toArray
theorem fillN : ∀ (vs : List (Array Value)) (k : Nat) (z : Array Value), (∀ v ∈ vs, v.size = 133) → k * 133 + vs.length * 133 ≤ z.size →
    Instr.fill (fun i => some (i * 133, 133)) z ((vs.zipIdx k).map fun x => (x.2, Value.agg x.1)) = some ((z.toList.take (k * 133) ++ vs.flatMap Array.toList ++ z.toList.drop (k * 133 + vs.length * 133)).toArray)
  | [], k, z, _, _ => by simp [Instr.fill]
  | v :: r, k, z, hs, hz => by
    have hv : v.size = 133 := hs v (by simp)
    simp only [List.length_cons] at hz
    have hf := fold_at v z (k * 133) (by omega)
    have hc : ¬ (decide ((Value.agg v).cells.size ≠ 133) || decide (k * 133 + (Value.agg v).cells.size > z.size)) = true := by
      have : (Value.agg v).cells.size = 133 := hv
      simp [this]; omega
    simp only [List.zipIdx_cons, List.map_cons, Instr.fill]
    refine (if_neg hc).trans ?_
    rw [show (Value.agg v).cells = v from rfl, hf]
    have hl : v.toList.length = 133 := by simpa using hv
    have h1 : (z.toList.take (k * 133)).length = k * 133 := by rw [List.length_take, Array.length_toList]; omega
    rw [fillN r (k + 1) _ (fun x hx => hs x (by simp [hx])) (by simp; omega)]
    congr 2
    simp only [List.flatMap_cons, List.length_cons, hv]
    rw [show (k + 1) * 133 = (z.toList.take (k * 133) ++ v.toList).length by rw [List.length_append, h1, hl]; omega, List.take_left,
      show (z.toList.take (k * 133) ++ v.toList).length + r.length * 133 = (z.toList.take (k * 133) ++ v.toList).length + r.length * 133 from rfl, List.drop_append, List.drop_drop, List.drop_eq_nil_of_le (by omega), List.nil_append]
    rw [List.append_assoc, List.append_assoc, List.append_assoc, List.append_assoc]
    congr 4
    rw [List.length_append, h1, hl]; omega
theorem exec_slN (ρ : Operand → Value) (dst : Option Tmp) (n : Nat) (args : Array (Nat × Operand)) (vs : List (Array Value)) (ty : TypeId) (pos : String) (af : Array Edge) (g : Option (Nat × Bool)) (w : World)
    (hv : (args.map fun x => (x.1, ρ x.2)).toList = vs.zipIdx.map fun x => (x.2, Value.agg x.1)) (hs : ∀ v ∈ vs, v.size = 133) (hn : vs.length = n) (h0 : 0 < n) (h2 : n ≤ 1000) :
    (execOp ρ ⟨dst, .buildSlice 22 n args, ty, pos, af, g⟩).run Tryz.prog w = .ok (.value (.slice (some ⟨w.heap.size, 0, none⟩) n n)) (w.alloc (.cells (catA vs) 30)) := by
  have h := zero_api_Position
  have h3 : (Tryz.prog.info? 30).map (·.size) = some 133 := by kernel_rfl
  cases hq : Tryz.prog.info? 30 with
  | none => simp [hq] at h
  | some i =>
    have hz : i.zero = some (.agg (Array.replicate 133 (.int .i64 0))) := by simpa [hq] using h
    have hsz : i.size = 133 := by simpa [hq] using h3
    have hsize : (sizeOf 30).run Tryz.prog w = .ok 133 w := by simp [sizeOf, typeInfo, hq, hsz]
    have hzero : (zeroValue 30).run Tryz.prog w = .ok (.agg (Array.replicate 133 (.int .i64 0))) w := by simp [zeroValue, typeInfo, hq, hz]
    have hm : ∀ z : Array Value, ((Array.range (n * 133)).map (z[· % z.size]!)).size = n * 133 := by intro z; simp
    have hfill : ∀ (z : Array Value), z.size = n * 133 → Instr.fill (fun i => some (i * 133, 133)) z (args.map fun x => (x.1, ρ x.2)).toList = some (catA vs) := by
      intro z hzz
      rw [hv, fillN vs 0 z hs (by omega)]
      rw [Nat.zero_mul, List.take_zero, List.nil_append, List.drop_eq_nil_of_le (by simp; omega), List.append_nil]
      rfl
    simp only [execOp, Instr.buildSlice, Sem.run_bind, run_underlying Tryz.underlying22 w, Result.andThen_ok, hsize]
    rw [if_neg (by omega), if_neg (by omega)]
    simp only [Sem.run_bind, Sem.run_pure, hzero, Result.andThen_ok, Value.cells]
    have hfl := hfill _ (hm (Array.replicate 133 (.int .i64 0)))
    have e : (args.map fun (x : Nat × Operand) => match x with | (i, x) => (i, ρ x)) = args.map fun x => (x.1, ρ x.2) := rfl
    rw [e, hfl]
    rfl
noncomputable def dfltSl3 (a b c : Value) (w : World) : Result Next := (execOp (fun x => match x with | .tmp 0 => a | .tmp 1 => b | _ => c) { dst := none, op := .buildSlice 22 3 #[(0, .tmp 0), (1, .tmp 1), (2, .tmp 2)], type := 22, pos := "", after := #[], guard := none }).run Tryz.prog w
@[go_sem] noncomputable def sl3 (a b c : Value) (w : World) (d : Result Next) : Result Next :=
  match a, b, c with
  | .agg x, .agg y, .agg z => if x.size = 133 ∧ y.size = 133 ∧ z.size = 133 then .ok (.value (.slice (some ⟨w.heap.size, 0, none⟩) 3 3)) (w.alloc (.cells (catA [x, y, z]) 30)) else d
  | _, _, _ => d
@[go_sem ↓] theorem exec_sl3 (ρ : Operand → Value) (dst : Option Tmp) (a b c : Operand) (ty : TypeId) (pos : String) (af : Array Edge) (g : Option (Nat × Bool)) (w : World) :
    (execOp ρ ⟨dst, .buildSlice 22 3 #[(0, a), (1, b), (2, c)], ty, pos, af, g⟩).run Tryz.prog w = sl3 (ρ a) (ρ b) (ρ c) w (dfltSl3 (ρ a) (ρ b) (ρ c) w) := by
  unfold sl3
  split
  · rename_i x y z hx hy hz
    split
    · rename_i hs
      exact exec_slN ρ dst 3 #[(0, a), (1, b), (2, c)] [x, y, z] ty pos af g w (by simp [hx, hy, hz]) (by simp [hs]) rfl (by omega) (by omega)
    · simp [dfltSl3, execOp]
  · simp [dfltSl3, execOp]
theorem exec_sl8 (ρ : Operand → Value) (dst : Option Tmp) (a b c d e f h i : Operand) (x : Array Value) (ty : TypeId) (pos : String) (af : Array Edge) (g : Option (Nat × Bool)) (w : World) (hx : x.size = 133)
    (ha : ρ a = .agg x) (hb : ρ b = .agg x) (hc : ρ c = .agg x) (hd : ρ d = .agg x) (he : ρ e = .agg x) (hf : ρ f = .agg x) (hh : ρ h = .agg x) (hi : ρ i = .agg x) :
    (execOp ρ ⟨dst, .buildSlice 22 8 #[(0, a), (1, b), (2, c), (3, d), (4, e), (5, f), (6, h), (7, i)], ty, pos, af, g⟩).run Tryz.prog w = .ok (.value (.slice (some ⟨w.heap.size, 0, none⟩) 8 8)) (w.alloc (.cells (catA [x, x, x, x, x, x, x, x]) 30)) :=
  exec_slN ρ dst 8 _ [x, x, x, x, x, x, x, x] ty pos af g w (by simp [ha, hb, hc, hd, he, hf, hh, hi]) (by simp [hx]) rfl (by omega) (by omega)
theorem catA_pos (Ps : List Pos) : catA (Ps.map posCells) = (posL Ps).toArray := by
  unfold catA posL
  rw [List.flatMap_map]
theorem SlP.of_row {w : World} {g n : Nat} {Ps : List Pos} {T : TypeId} {fr : Nat × Nat} (h : blk w g = some (.cells (posL Ps).toArray T fr)) (hn : Ps.length = n) (c : Nat) : SlP w (.slice (some ⟨g, 0, none⟩) n c) Ps := by
  subst hn
  refine .inr ⟨g, 0, c, _, T, fr, rfl, h, fun k x hx => ?_⟩
  have hk := (List.getElem?_eq_some_iff.1 hx).1
  refine ⟨by rw [List.size_toArray, posL_len]; omega, ?_⟩
  apply Array.ext_getElem?
  intro j
  rw [Array.getElem?_extract, List.getElem?_toArray]
  by_cases hj : j < 133
  · rw [if_pos (by rw [List.size_toArray, posL_len]; omega), Nat.zero_add]; exact posL_at hx j hj
  · rw [if_neg (by rw [List.size_toArray, posL_len]; omega), Array.getElem?_eq_none (by rw [posCells_size]; omega)]
theorem posL_set {Ps : List Pos} {k j : Nat} {x y : Pos} {v : Value} (hk : Ps[k]? = some x) (hj : j < 133) (h : (posCells x).setIfInBounds j v = posCells y) : (posL Ps).toArray.setIfInBounds (k * 133 + j) v = (posL (Ps.set k y)).toArray := by
  have hl := (List.getElem?_eq_some_iff.1 hk).1
  apply Array.ext_getElem?
  intro i
  rw [Array.getElem?_setIfInBounds, List.getElem?_toArray, List.getElem?_toArray, List.size_toArray, posL_len]
  by_cases hi : i < Ps.length * 133
  · obtain ⟨a, b, hb, rfl⟩ : ∃ a b, b < 133 ∧ i = a * 133 + b := ⟨i / 133, i % 133, Nat.mod_lt _ (by omega), by omega⟩
    by_cases ha : a = k
    · subst ha
      have hs : (Ps.set a y)[a]? = some y := by rw [List.getElem?_set_self hl]
      rw [posL_at hs b hb, posL_at hk b hb, ← h, Array.getElem?_setIfInBounds, posCells_size]
      by_cases e : j = b
      · subst e; rw [if_pos rfl, if_pos rfl, if_pos (by omega), if_pos hb]
      · rw [if_neg (by omega), if_neg e]
    · obtain ⟨z, hz⟩ : ∃ z, Ps[a]? = some z := ⟨_, List.getElem?_eq_getElem (by omega)⟩
      have hs : (Ps.set k y)[a]? = some z := by rw [List.getElem?_set_ne (fun e => ha e.symm)]; exact hz
      rw [posL_at hs b hb, posL_at hz b hb, if_neg (by omega)]
  · rw [List.getElem?_eq_none (by rw [posL_len]; omega), List.getElem?_eq_none (by rw [posL_len, List.length_set]; omega)]
    split
    · rw [if_neg (by omega)]
    · rfl
end Go.Proofs.YtdmgimfgoajmjaaGreatDoor
namespace Go.Proofs.YtdmgimfgoajmjaaGreatDoor
open Go.RowKit Go.Maps
open Classical in
@[go_sem] noncomputable def sl8 (a b c d e f h i : Value) (w : World) (q : Result Next) : Result Next :=
  match a with
  | .agg x => if x.size = 133 ∧ b = .agg x ∧ c = .agg x ∧ d = .agg x ∧ e = .agg x ∧ f = .agg x ∧ h = .agg x ∧ i = .agg x then .ok (.value (.slice (some ⟨w.heap.size, 0, none⟩) 8 8)) (w.alloc (.cells (catA [x, x, x, x, x, x, x, x]) 30)) else q
  | _ => q
noncomputable def dflt8 (a b c d e f h i : Value) (w : World) : Result Next := (execOp (fun x => match x with | .tmp 0 => a | .tmp 1 => b | .tmp 2 => c | .tmp 3 => d | .tmp 4 => e | .tmp 5 => f | .tmp 6 => h | _ => i) { dst := none, op := .buildSlice 22 8 #[(0, .tmp 0), (1, .tmp 1), (2, .tmp 2), (3, .tmp 3), (4, .tmp 4), (5, .tmp 5), (6, .tmp 6), (7, .tmp 7)], type := 22, pos := "", after := #[], guard := none }).run Tryz.prog w
@[go_sem ↓] theorem exec_sl8' (ρ : Operand → Value) (dst : Option Tmp) (a b c d e f h i : Operand) (ty : TypeId) (pos : String) (af : Array Edge) (g : Option (Nat × Bool)) (w : World) :
    (execOp ρ ⟨dst, .buildSlice 22 8 #[(0, a), (1, b), (2, c), (3, d), (4, e), (5, f), (6, h), (7, i)], ty, pos, af, g⟩).run Tryz.prog w = sl8 (ρ a) (ρ b) (ρ c) (ρ d) (ρ e) (ρ f) (ρ h) (ρ i) w (dflt8 (ρ a) (ρ b) (ρ c) (ρ d) (ρ e) (ρ f) (ρ h) (ρ i) w) := by
  unfold sl8
  split
  · rename_i x hx
    split
    · rename_i hs
      obtain ⟨h0, h1, h2, h3, h4, h5, h6, h7⟩ := hs
      exact exec_sl8 ρ dst a b c d e f h i x ty pos af g w h0 hx h1 h2 h3 h4 h5 h6 h7
    · simp [dflt8, execOp]
  · simp [dflt8, execOp]
theorem pos_set_of {p q : Pos} {j : Nat} {v : Value} (h : ∀ i, i < 133 → posCell q i = if j = i then v else posCell p i) : (posCells p).setIfInBounds j v = posCells q := by
  apply Array.ext_getElem?
  intro i
  rw [Array.getElem?_setIfInBounds, posCells_size]
  by_cases hi : i < 133
  · rw [posCells_get q i hi, posCells_get p i hi, h i hi]
    by_cases e : j = i
    · subst e; rw [if_pos rfl, if_pos rfl, if_pos hi]
    · rw [if_neg e, if_neg e]
  · rw [Array.getElem?_eq_none (by rw [posCells_size]; omega), Array.getElem?_eq_none (by rw [posCells_size]; omega)]
    split
    · rw [if_neg (by omega)]
    · rfl
def Pos.kindAt (p : Pos) (t : Nat) (a : Int) : Pos := { p with kind := fun i => if i = t then a else p.kind i }
def Pos.sideAt (p : Pos) (t : Nat) (a : Int) : Pos := { p with side := fun i => if i = t then a else p.side i }
theorem pos_kindAt (p : Pos) (t : Nat) (a : Int) (ht : t < 64) : (posCells p).setIfInBounds (t * 2) (.int .i64 a) = posCells (p.kindAt t a) := pos_set_of fun i hi => by
  by_cases e : t * 2 = i
  · subst e
    rw [if_pos rfl]
    simp [posCell, Pos.kindAt, show t * 2 < 128 by omega]
  · rw [if_neg e]; unfold posCell Pos.kindAt; split
    · split
      · dsimp only; rw [if_neg (by omega)]
      · rfl
    · rfl
theorem pos_sideAt (p : Pos) (t : Nat) (a : Int) (ht : t < 64) : (posCells p).setIfInBounds (t * 2 + 1) (.int .i64 a) = posCells (p.sideAt t a) := pos_set_of fun i hi => by
  by_cases e : t * 2 + 1 = i
  · subst e
    rw [if_pos rfl]
    simp [posCell, Pos.sideAt, show t * 2 + 1 < 128 by omega, show (t * 2 + 1) / 2 = t by omega]
  · rw [if_neg e]; unfold posCell Pos.sideAt; split
    · split
      · rfl
      · dsimp only; rw [if_neg (by omega)]
    · rfl
theorem row_fld {w : World} {g k j : Nat} {Ps : List Pos} {x y : Pos} {v : Value} {T : TypeId} (h : blk w g = some (.cells (posL Ps).toArray T (0, 0))) (hk : Ps[k]? = some x) (hj : j < 133) (e : (posCells x).setIfInBounds j v = posCells y) :
    blk (w.setCell ⟨g, k * 133 + j, none⟩ v) g = some (.cells (posL (Ps.set k y)).toArray T (0, 0)) := by
  rw [blk_setCell_same _ _ _ _ _ _ h, posL_set hk hj e]
theorem row_put {w : World} {g k t : Nat} {Ps : List Pos} {x : Pos} {a b : Int} {T : TypeId} (h : blk w g = some (.cells (posL Ps).toArray T (0, 0))) (hk : Ps[k]? = some x) (ht : t < 64) :
    blk ((w.setCell ⟨g, k * 133 + t * 2, none⟩ (.int .i64 a)).setCell ⟨g, k * 133 + (t * 2 + 1), none⟩ (.int .i64 b)) g = some (.cells (posL (Ps.set k (x.put t a b))).toArray T (0, 0)) := by
  have hl := (List.getElem?_eq_some_iff.1 hk).1
  have h1 := row_fld h hk (by omega) (pos_kindAt x t a ht)
  have h2 := row_fld h1 (List.getElem?_set_self hl) (by omega) (pos_sideAt (x.kindAt t a) t b ht)
  rw [List.set_set] at h2
  exact h2
theorem row_cell {w : World} {g k j : Nat} {Ps : List Pos} {x : Pos} {T : TypeId} {fr : Nat × Nat} (h : blk w g = some (.cells (posL Ps).toArray T fr)) (hk : Ps[k]? = some x) (hj : j < 133) : w.cell? ⟨g, k * 133 + j, none⟩ = some (posCell x j) := by
  rw [blk_cell h, List.getElem?_toArray, posL_at hk j hj, posCells_get x j hj]
def e0 : Pos := { ((((emptyP.put 4 6 0).put 63 6 1).put 36 1 0).put 35 1 1) with over := 43 }
def eL : List Pos := [e0, { e0 with over := -1 }, e0.put 60 4 1, e0.put 2 4 1, e0.put 36 2 0, { e0 with full := 9 }, { e0 with turn := 1 }, e0.put 43 3 0]
def sC (c : Int) : Pos := { startP with castle := c }
section
set_option maxRecDepth 100000
theorem eOver : eL.map overA = [43, -1, -1, -1, -1, 43, -1, -1] := by
  simp only [eL, List.map_cons, List.map_nil, overA_k]
  decide +kernel
theorem eC {j : Nat} (h : j < 18) : sameB (sC ((j : Int) - 1)) startP = ((j : Int) - 1 == 15) := by
  have e : ∀ j : Nat, j < 18 → sameB (sC ((j : Int) - 1)) startP = ((j : Int) - 1 == 15) := by decide +kernel
  exact e j h
theorem eL_rng : ∀ p ∈ eL, Rng p := by
  have e : eL.all rngB = true := by decide +kernel
  intro p hp
  exact rng_of (List.all_eq_true.1 e p hp)
theorem sC_rng {j : Nat} (h : j < 18) : Rng (sC ((j : Int) - 1)) := by
  have e : ∀ j : Nat, j < 18 → rngB (sC ((j : Int) - 1)) = true := by decide +kernel
  exact rng_of (e j h)
theorem over_rng {p : Pos} (h : Rng p) : Rng { p with over := -1 } := ⟨h.kind, h.side, h.turn, h.castle, show inI (-1) by unfold inI; omega⟩
end
theorem eOver_at {k : Nat} {x : Pos} (h : eL[k]? = some x) : ([43, -1, -1, -1, -1, 43, -1, -1] : List Int)[k]? = some (overA x) := by
  rw [← eOver, List.getElem?_map, h]; rfl
def MSe (cur : Array Value) (y : Pos) (g b : Nat) (wr W : World) : Prop := Ext wr W ∧ blk W g = some (.cells cur 30 (0, 0)) ∧ blk W b = some (.cells (posCells y) 30 (0, 0))
theorem MSe.ext {cur : Array Value} {y : Pos} {g b : Nat} {wr W W' : World} (h : MSe cur y g b wr W) (hx : Ext W W') : MSe cur y g b wr W' := ⟨h.1.trans hx, (hx.blk _ (blk_lt h.2.1)).trans h.2.1, (hx.blk _ (blk_lt h.2.2)).trans h.2.2⟩
theorem posL_row {k : Nat} {x : Pos} (h : eL[k]? = some x) : k * 133 + 133 ≤ (posL eL).toArray.size ∧ (posL eL).toArray.extract (k * 133) (k * 133 + 133) = posCells x := by
  have hk := (List.getElem?_eq_some_iff.1 h).1
  refine ⟨by rw [List.size_toArray, posL_len]; omega, ?_⟩
  apply Array.ext_getElem?
  intro j
  rw [Array.getElem?_extract, List.getElem?_toArray]
  by_cases hj : j < 133
  · rw [if_pos (by rw [List.size_toArray, posL_len]; omega)]; exact posL_at h j hj
  · rw [if_neg (by rw [List.size_toArray, posL_len]; omega), Array.getElem?_eq_none (by rw [posCells_size]; omega)]
set_option maxRecDepth 100000 in
set_option maxHeartbeats 4000000 in
theorem Ends_any (w : World) (ht : Tab10 w.heap.size w) : Calls Tryz.prog 4 #[] w (Ret (.bool true) w) := by
  go_enter Tryz.func4, Tryz.ntmps4
  go_upto_region 2 with (go_at_call 25; (with_reducible refine (rEmpty_any _).mono ?_); rintro e w1 ⟨rfl, hx1⟩)
  have hp1 := blk_alloc_at w1 (.cells (posCells emptyP) 30) _ rfl
  have hE1 : Ext w (w1.alloc (.cells (posCells emptyP) 30)) := (Ext.auto)
  have l1 := hx1.le
  generalize w1.alloc (.cells (posCells emptyP) 30) = W1 at *
  generalize w1.heap.size = pb at *
  have hc := blk_cell hp1
  have fz := blk_froz hp1
  have lp := blk_lt hp1
  go_upto_region 7 with (fail)
  have hq6 := blk_setCell_same _ _ 130 _ _ (.int .i64 43) (put2 (t := 35) (a := 1) (b := 1) (by omega) (put2 (t := 36) (a := 1) (b := 0) (by omega) (put2 (t := 63) (a := 6) (b := 1) (by omega) (put2 (t := 4) (a := 6) (b := 0) (by omega) hp1))))
  simp only [Nat.reduceMul, Nat.reduceAdd] at hq6
  rw [pos_over] at hq6
  have hp6 := hq6.trans (show _ = some (.cells (posCells e0) 30 (0, 0)) from rfl)
  clear hq6
  have hE6 : Ext w (((((((((W1.setCell ⟨pb, 8, none⟩ (.int .i64 6)).setCell ⟨pb, 9, none⟩ (.int .i64 0)).setCell ⟨pb, 126, none⟩ (.int .i64 6)).setCell ⟨pb, 127, none⟩ (.int .i64 1)).setCell ⟨pb, 72, none⟩ (.int .i64 1)).setCell ⟨pb, 73, none⟩ (.int .i64 0)).setCell ⟨pb, 70, none⟩ (.int .i64 1)).setCell ⟨pb, 71, none⟩ (.int .i64 1)).setCell ⟨pb, 130, none⟩ (.int .i64 43)) :=
    ((((((((hE1.set l1 _).set l1 _).set l1 _).set l1 _).set l1 _).set l1 _).set l1 _).set l1 _).set l1 _
  generalize ((((((((W1.setCell ⟨pb, 8, none⟩ (.int .i64 6)).setCell ⟨pb, 9, none⟩ (.int .i64 0)).setCell ⟨pb, 126, none⟩ (.int .i64 6)).setCell ⟨pb, 127, none⟩ (.int .i64 1)).setCell ⟨pb, 72, none⟩ (.int .i64 1)).setCell ⟨pb, 73, none⟩ (.int .i64 0)).setCell ⟨pb, 70, none⟩ (.int .i64 1)).setCell ⟨pb, 71, none⟩ (.int .i64 1)).setCell ⟨pb, 130, none⟩ (.int .i64 43) = W6 at *
  clear hc fz lp hp1 hE1 hx1
  go_upto_region 8 with (fail)
  have hg7 := (blk_alloc_at W6 (.cells (catA [posCells e0, posCells e0, posCells e0, posCells e0, posCells e0, posCells e0, posCells e0, posCells e0]) 30) _ rfl).trans (show _ = some (.cells (posL [e0, e0, e0, e0, e0, e0, e0, e0]).toArray 30 (0, 0)) by rw [← catA_pos]; rfl)
  have hE7 : Ext w (W6.alloc (.cells (catA [posCells e0, posCells e0, posCells e0, posCells e0, posCells e0, posCells e0, posCells e0, posCells e0]) 30)) := hE6.alloc _
  have lg : w.heap.size ≤ W6.heap.size := hE6.le
  generalize W6.alloc (.cells (catA [posCells e0, posCells e0, posCells e0, posCells e0, posCells e0, posCells e0, posCells e0, posCells e0]) 30) = W7 at *
  generalize W6.heap.size = g at *
  clear hp6 hE6
  have c0 := row_cell (k := 1) (j := 130) hg7 rfl (by omega)
  have c1 := row_cell (k := 2) (j := 120) hg7 rfl (by omega)
  have c2 := row_cell (k := 2) (j := 121) hg7 rfl (by omega)
  have c3 := row_cell (k := 3) (j := 4) hg7 rfl (by omega)
  have c4 := row_cell (k := 3) (j := 5) hg7 rfl (by omega)
  have c5 := row_cell (k := 4) (j := 72) hg7 rfl (by omega)
  have c6 := row_cell (k := 4) (j := 73) hg7 rfl (by omega)
  have c7 := row_cell (k := 5) (j := 132) hg7 rfl (by omega)
  have c8 := row_cell (k := 6) (j := 128) hg7 rfl (by omega)
  have c9 := row_cell (k := 7) (j := 86) hg7 rfl (by omega)
  have c10 := row_cell (k := 7) (j := 87) hg7 rfl (by omega)
  simp only [Nat.reduceMul, Nat.reduceAdd] at c0 c1 c2 c3 c4 c5 c6 c7 c8 c9 c10
  have fz := blk_froz hg7
  have lq := blk_lt hg7
  go_upto_region 15 with (fail)
  have hr := row_put (k := 7) (t := 43) (a := 3) (b := 0) (row_fld (k := 6) (j := 128) (row_fld (k := 5) (j := 132) (row_put (k := 4) (t := 36) (a := 2) (b := 0) (row_put (k := 3) (t := 2) (a := 4) (b := 1) (row_put (k := 2) (t := 60) (a := 4) (b := 1) (row_fld (k := 1) (j := 130) hg7 rfl (by omega) (pos_over e0 (-1))) rfl (by omega)) rfl (by omega)) rfl (by omega)) rfl (by omega) (pos_full e0 9)) rfl (by omega) (pos_turn e0 1)) rfl (by omega)
  simp only [Nat.reduceMul, Nat.reduceAdd] at hr
  have hg8 := hr.trans (show _ = some (.cells (posL eL).toArray 30 (0, 0)) from rfl)
  clear hr
  have hE8 := ((((((((((hE7.set (p := ⟨g, 263, none⟩) lg (.int .i64 (-1))).set (p := ⟨g, 386, none⟩) lg (.int .i64 4)).set (p := ⟨g, 387, none⟩) lg (.int .i64 1)).set (p := ⟨g, 403, none⟩) lg (.int .i64 4)).set (p := ⟨g, 404, none⟩) lg (.int .i64 1)).set (p := ⟨g, 604, none⟩) lg (.int .i64 2)).set (p := ⟨g, 605, none⟩) lg (.int .i64 0)).set (p := ⟨g, 797, none⟩) lg (.int .i64 9)).set (p := ⟨g, 926, none⟩) lg (.int .i64 1)).set (p := ⟨g, 1017, none⟩) lg (.int .i64 3)).set (p := ⟨g, 1018, none⟩) lg (.int .i64 0)
  generalize ((((((((((W7.setCell ⟨g, 263, none⟩ (.int .i64 (-1))).setCell ⟨g, 386, none⟩ (.int .i64 4)).setCell ⟨g, 387, none⟩ (.int .i64 1)).setCell ⟨g, 403, none⟩ (.int .i64 4)).setCell ⟨g, 404, none⟩ (.int .i64 1)).setCell ⟨g, 604, none⟩ (.int .i64 2)).setCell ⟨g, 605, none⟩ (.int .i64 0)).setCell ⟨g, 797, none⟩ (.int .i64 9)).setCell ⟨g, 926, none⟩ (.int .i64 1)).setCell ⟨g, 1017, none⟩ (.int .i64 3)).setCell ⟨g, 1018, none⟩ (.int .i64 0) = W8 at *
  clear c0 c1 c2 c3 c4 c5 c6 c7 c8 c9 c10 fz lq hg7 hE7
  go_upto_block 0 with (fail)
  go_wp2
  have HT := hid ht
  have HE8 := hid hE8
  clear ht hE8
  go_loopw [3] (fun i wr => ∃ k : Nat, i = .int .i64 k ∧ k ≤ 8 ∧ Ext W8 wr) (fun i _ => 8 - (intOf i).toNat)
  case atStart => exact ⟨0, rfl, by omega, Ext.refl _⟩
  case round =>
    obtain ⟨k, rfl, hk, hxr⟩ := hrel
    have hgr := (hxr.blk _ (blk_lt hg8)).trans hg8
    by_cases hlt : k < 8
    · obtain ⟨x, hx⟩ : ∃ x, eL[k]? = some x := ⟨_, List.getElem?_eq_getElem hlt⟩
      obtain ⟨hk1, hk2⟩ := posL_row hx
      have hO := eOver_at hx
      have hrx := eL_rng x (List.mem_of_getElem? hx)
      have HRX := hid hrx
      have HXR := hid hxr
      go_upto_region 20 with (fail)
      rw [pos_over]
      have hry := over_rng hrx
      generalize ({ x with over := -1 } : Pos) = y at *
      have hb9 := blk_alloc_at wr (.cells (posCells y) 30) _ rfl
      have hE9 : Ext wr (wr.alloc (.cells (posCells y) 30)) := (Ext.refl wr).alloc _
      have hM0 : MSe (posL eL).toArray y g wr.heap.size wr (wr.alloc (.cells (posCells y) 30)).drew := ⟨hE9.drew, (hE9.blk _ (blk_lt hgr)).trans hgr, hb9⟩
      have HOV : ∀ W, Calls Tryz.prog 14 #[.agg (posCells x)] W (Ret (.int .i64 (overA x)) W) := fun W => Over_any x W
      have hOA : (#[.int .i64 43, .int .i64 (-1), .int .i64 (-1), .int .i64 (-1), .int .i64 (-1), .int .i64 43, .int .i64 (-1), .int .i64 (-1)] : Array Value)[k]? = some (.int .i64 (overA x)) := by
        have := congrArg (Option.map (fun z : Int => Value.int .i64 z)) hO
        rw [← List.getElem?_map] at this
        rw [List.getElem?_toArray]
        exact this
      have HW : ∀ W, Ext wr W → Ext w W := fun W h => HE8.out.trans (HXR.out.trans h)
      have HTL : ∀ W, Ext wr W → Calls Tryz.prog 3 #[.slice (some ⟨g, 0, none⟩) 8 8, .agg (posCells x)] W (Ret (.bool true) W) := fun W h => Tells_any _ eL x W (SlP.of_row ((h.blk _ (blk_lt hgr)).trans hgr) rfl 8) eL_rng hrx (HT.out.up (HW W h))
      have HT3 : ∀ W : World, Ext wr (W.alloc (.cells (catA [posCells x, posCells y, posCells x]) 30)) → Calls Tryz.prog 3 #[.slice (some ⟨W.heap.size, 0, none⟩) 3 3, .agg (posCells y)] (W.alloc (.cells (catA [posCells x, posCells y, posCells x]) 30)) (Ret (.bool true) (W.alloc (.cells (catA [posCells x, posCells y, posCells x]) 30))) := fun W h =>
        Tells_any _ [x, y, x] y _ (SlP.of_row ((blk_alloc_at W (.cells (catA [posCells x, posCells y, posCells x]) 30) _ rfl).trans (show _ = some (Obj.cells (posL [x, y, x]).toArray 30 (0, 0)) by rw [← catA_pos]; rfl)) rfl 3) (by intro p hp; simp at hp; rcases hp with h | h | h <;> rw [h] <;> assumption) hry (HT.out.up (HW _ h))
      clear hO hrx hry hgr hxr hx hg8
      generalize overA x = O at *
      have HOA := hid hOA
      have HTL2 := hid HTL
      have HT32 := hid HT3
      have HW2 := hid HW
      clear hOA HTL HT3 HW
      have hO2 : ([.int .i64 43, .int .i64 (-1), .int .i64 (-1), .int .i64 (-1), .int .i64 (-1), .int .i64 43, .int .i64 (-1), .int .i64 (-1)] : List Value)[k]? = some (.int .i64 O) := by rw [← List.getElem?_toArray]; exact HOA.out
      obtain ⟨hO4, hO3⟩ := List.getElem?_eq_some_iff.1 hO2
      clear hO2
      have hk8 : (k : Int) < 8 := by omega
      generalize (posL eL).toArray = cur at *
      refine wp_region_held_drew (S := MSe cur y g wr.heap.size wr) (by kernel_rfl) (hM0) (fun hH => ?_)
      refine hTk (i := 0) (v := ?_) (hy := Or.inl ⟨by rfl, ?_⟩) (h := ?_); rotate_left 1; (intro w0 hS; unfold MSe at hS; go_simp; try with_reducible rfl); (try go_frame)
      refine hTk (i := 1) (v := ?_) (hy := Or.inl ⟨by rfl, ?_⟩) (h := ?_); rotate_left 1; (intro w0 hS; unfold MSe at hS; go_simp; try with_reducible rfl); (try go_frame)
      refine hTk (i := 2) (v := ?_) (hy := Or.inl ⟨by rfl, ?_⟩) (h := ?_); rotate_left 1; (intro w0 hS; unfold MSe at hS; go_simp; try with_reducible rfl); (try go_frame)
      refine hTk (i := 3) (v := ?_) (hy := Or.inl ⟨by rfl, ?_⟩) (h := ?_); rotate_left 1; (intro w0 hS; unfold MSe at hS; go_simp; try with_reducible rfl); (try go_frame)
      refine hTk (i := 6) (v := ?_) (hy := Or.inl ⟨by rfl, ?_⟩) (h := ?_); rotate_left 1; (intro w0 hS; unfold MSe at hS; go_simp; try with_reducible rfl); (try go_frame)
      refine wpAnyH_ready (rs := [4, 5]) (by kernel_rfl) (by simp) ?_; refine (hCo (h := fun K hK => ?_) (hs := (hCo (h := fun K hK => ?_) (hs := AllReadyH.nil))))
      · go_simp
        refine (HOV _).mono ?_
        rintro e w8 ⟨rfl, hx8⟩
        have hcx := Ext.cell hx8
        refine hK.out _ _ (hH.ext (by first | assumption | exact Ext.alloc (Ext.refl _) _ | exact Ext.refl _)) (fun hH => ?_); clear hK; (try go_frame)
        refine wpAnyH_ready (rs := [5]) (by kernel_rfl) (by simp) ?_; refine hCo (h := fun K hK => ?_) (hs := AllReadyH.nil); go_simp
        refine hK.out _ _ (hH.ext (by first | assumption | exact Ext.alloc (Ext.refl _) _ | exact Ext.refl _)) (fun hH => ?_); clear hK; (try go_frame)
        refine hTk (i := 7) (v := ?_) (hy := Or.inl ⟨by rfl, ?_⟩) (h := ?_); rotate_left 1; (intro w0 hS; unfold MSe at hS; go_simp; try with_reducible rfl); (try go_frame)
        refine wpAnyH_ready (rs := [8]) (by kernel_rfl) (by simp) ?_; refine hCo (h := fun K hK => ?_) (hs := AllReadyH.nil); go_simp
        skip
        refine hK.out _ _ (hH.ext (by first | assumption | exact Ext.alloc (Ext.refl _) _ | exact Ext.refl _)) (fun hH => ?_); clear hK; (try go_frame)
        refine hTk (i := 9) (v := ?_) (hy := Or.inl ⟨by rfl, ?_⟩) (h := ?_); rotate_left 1; (intro w0 hS; unfold MSe at hS; go_simp; try with_reducible rfl); (try go_frame)
        refine hTk (i := 10) (v := ?_) (hy := Or.inl ⟨by rfl, ?_⟩) (h := ?_); rotate_left 1; (intro w0 hS; unfold MSe at hS; go_simp; try with_reducible rfl); (try go_frame)
        refine hTk (i := 11) (v := ?_) (hy := Or.inl ⟨by rfl, ?_⟩) (h := ?_); rotate_left 1; (intro w0 hS; unfold MSe at hS; go_simp; try with_reducible rfl); (try go_frame)
        refine hTk (i := 12) (v := ?_) (hy := Or.inl ⟨by rfl, ?_⟩) (h := ?_); rotate_left 1; (intro w0 hS; unfold MSe at hS; go_simp; try with_reducible rfl); (try go_frame)
        refine hTk (i := 13) (v := ?_) (hy := Or.inl ⟨by rfl, ?_⟩) (h := ?_); rotate_left 1; (intro w0 hS; unfold MSe at hS; go_simp; try with_reducible rfl); (try go_frame)
        refine hTk (i := 14) (v := ?_) (hy := Or.inl ⟨by rfl, ?_⟩) (h := ?_); rotate_left 1; (intro w0 hS; unfold MSe at hS; go_simp; try with_reducible rfl); (try go_frame)
        refine hTk (i := 15) (v := ?_) (hy := Or.inl ⟨by rfl, ?_⟩) (h := ?_); rotate_left 1; (intro w0 hS; unfold MSe at hS; go_simp; try with_reducible rfl); (try go_frame)
        refine wpAnyH_ready (rs := [16]) (by kernel_rfl) (by simp) ?_; refine hCo (h := fun K hK => ?_) (hs := AllReadyH.nil); go_simp
        refine (HTL2.out _ hH.1).mono ?_
        rintro e w8 ⟨rfl, hx8⟩
        refine hK.out _ _ (hH.ext (by first | assumption | exact Ext.alloc (Ext.refl _) _ | exact Ext.refl _)) (fun hH => ?_); clear hK; (try go_frame)
        refine hTk (i := 17) (v := ?_) (hy := Or.inl ⟨by rfl, ?_⟩) (h := ?_); rotate_left 1; (intro w0 hS; unfold MSe at hS; go_simp; try with_reducible rfl); (try go_frame)
        refine hTk (i := 18) (v := ?_) (hy := Or.inl ⟨by rfl, ?_⟩) (h := ?_); rotate_left 1; (intro w0 hS; unfold MSe at hS; go_simp; try with_reducible rfl); (try go_frame)
        refine hTk (i := 19) (v := ?_) (hy := Or.inl ⟨by rfl, ?_⟩) (h := ?_); rotate_left 1; (intro w0 hS; unfold MSe at hS; go_simp; try with_reducible rfl); (try go_frame)
        refine hTk (i := 20) (v := ?_) (hy := Or.inl ⟨by rfl, ?_⟩) (h := ?_); rotate_left 1; (intro w0 hS; unfold MSe at hS; go_simp; try with_reducible rfl); (try go_frame)
        refine hTk (i := 21) (v := ?_) (hy := Or.inl ⟨by rfl, ?_⟩) (h := ?_); rotate_left 1; (intro w0 hS; unfold MSe at hS; go_simp; try with_reducible rfl); (try go_frame)
        refine hTk (i := 22) (v := ?_) (hy := Or.inl ⟨by rfl, ?_⟩) (h := ?_); rotate_left 1; (intro w0 hS; unfold MSe at hS; go_simp; try with_reducible rfl); (try go_frame)
        refine hTk (i := 23) (v := ?_) (hy := Or.inl ⟨by rfl, ?_⟩) (h := ?_); rotate_left 1; (intro w0 hS; unfold MSe at hS; go_simp; try with_reducible rfl); (try go_frame)
        refine hTk (i := 24) (v := ?_) (hy := Or.inl ⟨by rfl, ?_⟩) (h := ?_); rotate_left 1; (intro w0 hS; unfold MSe at hS; go_simp; try with_reducible rfl); (try go_frame)
        refine hTk (i := 25) (v := ?_) (hy := Or.inl ⟨by rfl, ?_⟩) (h := ?_); rotate_left 1; (intro w0 hS; unfold MSe at hS; go_simp; try with_reducible rfl); (try go_frame)
        refine hTk (i := 26) (v := ?_) (hy := Or.inl ⟨by rfl, ?_⟩) (h := ?_); rotate_left 1; (intro w0 hS; unfold MSe at hS; go_simp; try with_reducible rfl); (try go_frame)
        refine hTk (i := 27) (v := ?_) (hy := Or.inl ⟨by rfl, ?_⟩) (h := ?_); rotate_left 1; (intro w0 hS; unfold MSe at hS; go_simp; try with_reducible rfl); (try go_frame)
        refine hTk (i := 28) (v := ?_) (hy := Or.inl ⟨by rfl, ?_⟩) (h := ?_); rotate_left 1; (intro w0 hS; unfold MSe at hS; go_simp; try with_reducible rfl); (try go_frame)
        refine hTk (i := 30) (v := ?_) (hy := Or.inl ⟨by rfl, ?_⟩) (h := ?_); rotate_left 1; (intro w0 hS; unfold MSe at hS; go_simp; try with_reducible rfl); (try go_frame)
        refine wpAnyH_ready (rs := [29]) (by kernel_rfl) (by simp) ?_; refine hCo (h := fun K hK => ?_) (hs := AllReadyH.nil); go_simp
        refine hK.out _ _ (hH.ext (by first | assumption | exact Ext.alloc (Ext.refl _) _ | exact Ext.refl _)) (fun hH => ?_); clear hK; (try go_frame)
        refine wpAnyH_ready (rs := [31]) (by kernel_rfl) (by simp) ?_; refine hCo (h := fun K hK => ?_) (hs := AllReadyH.nil); go_simp
        refine (HT32.out _ hH.1).mono ?_
        rintro e w8 ⟨rfl, hx8⟩
        refine hK.out _ _ (hH.ext (by first | assumption | exact Ext.alloc (Ext.refl _) _ | exact Ext.refl _)) (fun hH => ?_); clear hK; (try go_frame)
        refine hTk (i := 32) (v := ?_) (hy := Or.inl ⟨by rfl, ?_⟩) (h := ?_); rotate_left 1; (intro w0 hS; unfold MSe at hS; go_simp; try with_reducible rfl); (try go_frame)
        refine hTk (i := 33) (v := ?_) (hy := Or.inl ⟨by rfl, ?_⟩) (h := ?_); rotate_left 1; (intro w0 hS; unfold MSe at hS; go_simp; try with_reducible rfl); (try go_frame)
        refine wpAnyH_done (by kernel_rfl) ?_ _
        have hx9 := hH.1
        clear hH hM0
        go_wp2
        go_roundw
        case rel => exact ⟨k + 1, by go_num, by omega, HXR.out.trans hx9⟩
        case measure => simp [intOf]; omega
      · go_simp
        refine hK.out _ _ (hH.ext (by first | assumption | exact Ext.alloc (Ext.refl _) _ | exact Ext.refl _)) (fun hH => ?_); clear hK; (try go_frame)
        refine hTk (i := 7) (v := ?_) (hy := Or.inl ⟨by rfl, ?_⟩) (h := ?_); rotate_left 1; (intro w0 hS; unfold MSe at hS; go_simp; try with_reducible rfl); (try go_frame)
        refine wpAnyH_ready (rs := [4, 8]) (by kernel_rfl) (by simp) ?_; refine (hCo (h := fun K hK => ?_) (hs := (hCo (h := fun K hK => ?_) (hs := AllReadyH.nil))))
        · go_simp
          refine (HOV _).mono ?_
          rintro e w8 ⟨rfl, hx8⟩
          have hcx := Ext.cell hx8
          refine hK.out _ _ (hH.ext (by first | assumption | exact Ext.alloc (Ext.refl _) _ | exact Ext.refl _)) (fun hH => ?_); clear hK; (try go_frame)
          refine wpAnyH_ready (rs := [8]) (by kernel_rfl) (by simp) ?_; refine hCo (h := fun K hK => ?_) (hs := AllReadyH.nil); go_simp
          skip
          refine hK.out _ _ (hH.ext (by first | assumption | exact Ext.alloc (Ext.refl _) _ | exact Ext.refl _)) (fun hH => ?_); clear hK; (try go_frame)
          refine hTk (i := 9) (v := ?_) (hy := Or.inl ⟨by rfl, ?_⟩) (h := ?_); rotate_left 1; (intro w0 hS; unfold MSe at hS; go_simp; try with_reducible rfl); (try go_frame)
          refine hTk (i := 10) (v := ?_) (hy := Or.inl ⟨by rfl, ?_⟩) (h := ?_); rotate_left 1; (intro w0 hS; unfold MSe at hS; go_simp; try with_reducible rfl); (try go_frame)
          refine hTk (i := 11) (v := ?_) (hy := Or.inl ⟨by rfl, ?_⟩) (h := ?_); rotate_left 1; (intro w0 hS; unfold MSe at hS; go_simp; try with_reducible rfl); (try go_frame)
          refine hTk (i := 12) (v := ?_) (hy := Or.inl ⟨by rfl, ?_⟩) (h := ?_); rotate_left 1; (intro w0 hS; unfold MSe at hS; go_simp; try with_reducible rfl); (try go_frame)
          refine hTk (i := 13) (v := ?_) (hy := Or.inl ⟨by rfl, ?_⟩) (h := ?_); rotate_left 1; (intro w0 hS; unfold MSe at hS; go_simp; try with_reducible rfl); (try go_frame)
          refine hTk (i := 14) (v := ?_) (hy := Or.inl ⟨by rfl, ?_⟩) (h := ?_); rotate_left 1; (intro w0 hS; unfold MSe at hS; go_simp; try with_reducible rfl); (try go_frame)
          refine hTk (i := 15) (v := ?_) (hy := Or.inl ⟨by rfl, ?_⟩) (h := ?_); rotate_left 1; (intro w0 hS; unfold MSe at hS; go_simp; try with_reducible rfl); (try go_frame)
          refine wpAnyH_ready (rs := [16]) (by kernel_rfl) (by simp) ?_; refine hCo (h := fun K hK => ?_) (hs := AllReadyH.nil); go_simp
          refine (HTL2.out _ hH.1).mono ?_
          rintro e w8 ⟨rfl, hx8⟩
          refine hK.out _ _ (hH.ext (by first | assumption | exact Ext.alloc (Ext.refl _) _ | exact Ext.refl _)) (fun hH => ?_); clear hK; (try go_frame)
          refine hTk (i := 17) (v := ?_) (hy := Or.inl ⟨by rfl, ?_⟩) (h := ?_); rotate_left 1; (intro w0 hS; unfold MSe at hS; go_simp; try with_reducible rfl); (try go_frame)
          refine hTk (i := 18) (v := ?_) (hy := Or.inl ⟨by rfl, ?_⟩) (h := ?_); rotate_left 1; (intro w0 hS; unfold MSe at hS; go_simp; try with_reducible rfl); (try go_frame)
          refine hTk (i := 19) (v := ?_) (hy := Or.inl ⟨by rfl, ?_⟩) (h := ?_); rotate_left 1; (intro w0 hS; unfold MSe at hS; go_simp; try with_reducible rfl); (try go_frame)
          refine hTk (i := 20) (v := ?_) (hy := Or.inl ⟨by rfl, ?_⟩) (h := ?_); rotate_left 1; (intro w0 hS; unfold MSe at hS; go_simp; try with_reducible rfl); (try go_frame)
          refine hTk (i := 21) (v := ?_) (hy := Or.inl ⟨by rfl, ?_⟩) (h := ?_); rotate_left 1; (intro w0 hS; unfold MSe at hS; go_simp; try with_reducible rfl); (try go_frame)
          refine hTk (i := 22) (v := ?_) (hy := Or.inl ⟨by rfl, ?_⟩) (h := ?_); rotate_left 1; (intro w0 hS; unfold MSe at hS; go_simp; try with_reducible rfl); (try go_frame)
          refine hTk (i := 23) (v := ?_) (hy := Or.inl ⟨by rfl, ?_⟩) (h := ?_); rotate_left 1; (intro w0 hS; unfold MSe at hS; go_simp; try with_reducible rfl); (try go_frame)
          refine hTk (i := 24) (v := ?_) (hy := Or.inl ⟨by rfl, ?_⟩) (h := ?_); rotate_left 1; (intro w0 hS; unfold MSe at hS; go_simp; try with_reducible rfl); (try go_frame)
          refine hTk (i := 25) (v := ?_) (hy := Or.inl ⟨by rfl, ?_⟩) (h := ?_); rotate_left 1; (intro w0 hS; unfold MSe at hS; go_simp; try with_reducible rfl); (try go_frame)
          refine hTk (i := 26) (v := ?_) (hy := Or.inl ⟨by rfl, ?_⟩) (h := ?_); rotate_left 1; (intro w0 hS; unfold MSe at hS; go_simp; try with_reducible rfl); (try go_frame)
          refine hTk (i := 27) (v := ?_) (hy := Or.inl ⟨by rfl, ?_⟩) (h := ?_); rotate_left 1; (intro w0 hS; unfold MSe at hS; go_simp; try with_reducible rfl); (try go_frame)
          refine hTk (i := 28) (v := ?_) (hy := Or.inl ⟨by rfl, ?_⟩) (h := ?_); rotate_left 1; (intro w0 hS; unfold MSe at hS; go_simp; try with_reducible rfl); (try go_frame)
          refine hTk (i := 30) (v := ?_) (hy := Or.inl ⟨by rfl, ?_⟩) (h := ?_); rotate_left 1; (intro w0 hS; unfold MSe at hS; go_simp; try with_reducible rfl); (try go_frame)
          refine wpAnyH_ready (rs := [29]) (by kernel_rfl) (by simp) ?_; refine hCo (h := fun K hK => ?_) (hs := AllReadyH.nil); go_simp
          refine hK.out _ _ (hH.ext (by first | assumption | exact Ext.alloc (Ext.refl _) _ | exact Ext.refl _)) (fun hH => ?_); clear hK; (try go_frame)
          refine wpAnyH_ready (rs := [31]) (by kernel_rfl) (by simp) ?_; refine hCo (h := fun K hK => ?_) (hs := AllReadyH.nil); go_simp
          refine (HT32.out _ hH.1).mono ?_
          rintro e w8 ⟨rfl, hx8⟩
          refine hK.out _ _ (hH.ext (by first | assumption | exact Ext.alloc (Ext.refl _) _ | exact Ext.refl _)) (fun hH => ?_); clear hK; (try go_frame)
          refine hTk (i := 32) (v := ?_) (hy := Or.inl ⟨by rfl, ?_⟩) (h := ?_); rotate_left 1; (intro w0 hS; unfold MSe at hS; go_simp; try with_reducible rfl); (try go_frame)
          refine hTk (i := 33) (v := ?_) (hy := Or.inl ⟨by rfl, ?_⟩) (h := ?_); rotate_left 1; (intro w0 hS; unfold MSe at hS; go_simp; try with_reducible rfl); (try go_frame)
          refine wpAnyH_done (by kernel_rfl) ?_ _
          have hx9 := hH.1
          clear hH hM0
          go_wp2
          go_roundw
          case rel => exact ⟨k + 1, by go_num, by omega, HXR.out.trans hx9⟩
          case measure => simp [intOf]; omega
        · go_simp
          skip
          refine hK.out _ _ (hH.ext (by first | assumption | exact Ext.alloc (Ext.refl _) _ | exact Ext.refl _)) (fun hH => ?_); clear hK; (try go_frame)
          refine wpAnyH_ready (rs := [4]) (by kernel_rfl) (by simp) ?_; refine hCo (h := fun K hK => ?_) (hs := AllReadyH.nil); go_simp
          refine (HOV _).mono ?_
          rintro e w8 ⟨rfl, hx8⟩
          have hcx := Ext.cell hx8
          refine hK.out _ _ (hH.ext (by first | assumption | exact Ext.alloc (Ext.refl _) _ | exact Ext.refl _)) (fun hH => ?_); clear hK; (try go_frame)
          refine hTk (i := 9) (v := ?_) (hy := Or.inl ⟨by rfl, ?_⟩) (h := ?_); rotate_left 1; (intro w0 hS; unfold MSe at hS; go_simp; try with_reducible rfl); (try go_frame)
          refine hTk (i := 10) (v := ?_) (hy := Or.inl ⟨by rfl, ?_⟩) (h := ?_); rotate_left 1; (intro w0 hS; unfold MSe at hS; go_simp; try with_reducible rfl); (try go_frame)
          refine hTk (i := 11) (v := ?_) (hy := Or.inl ⟨by rfl, ?_⟩) (h := ?_); rotate_left 1; (intro w0 hS; unfold MSe at hS; go_simp; try with_reducible rfl); (try go_frame)
          refine hTk (i := 12) (v := ?_) (hy := Or.inl ⟨by rfl, ?_⟩) (h := ?_); rotate_left 1; (intro w0 hS; unfold MSe at hS; go_simp; try with_reducible rfl); (try go_frame)
          refine hTk (i := 13) (v := ?_) (hy := Or.inl ⟨by rfl, ?_⟩) (h := ?_); rotate_left 1; (intro w0 hS; unfold MSe at hS; go_simp; try with_reducible rfl); (try go_frame)
          refine hTk (i := 14) (v := ?_) (hy := Or.inl ⟨by rfl, ?_⟩) (h := ?_); rotate_left 1; (intro w0 hS; unfold MSe at hS; go_simp; try with_reducible rfl); (try go_frame)
          refine hTk (i := 15) (v := ?_) (hy := Or.inl ⟨by rfl, ?_⟩) (h := ?_); rotate_left 1; (intro w0 hS; unfold MSe at hS; go_simp; try with_reducible rfl); (try go_frame)
          refine wpAnyH_ready (rs := [16]) (by kernel_rfl) (by simp) ?_; refine hCo (h := fun K hK => ?_) (hs := AllReadyH.nil); go_simp
          refine (HTL2.out _ hH.1).mono ?_
          rintro e w8 ⟨rfl, hx8⟩
          refine hK.out _ _ (hH.ext (by first | assumption | exact Ext.alloc (Ext.refl _) _ | exact Ext.refl _)) (fun hH => ?_); clear hK; (try go_frame)
          refine hTk (i := 17) (v := ?_) (hy := Or.inl ⟨by rfl, ?_⟩) (h := ?_); rotate_left 1; (intro w0 hS; unfold MSe at hS; go_simp; try with_reducible rfl); (try go_frame)
          refine hTk (i := 18) (v := ?_) (hy := Or.inl ⟨by rfl, ?_⟩) (h := ?_); rotate_left 1; (intro w0 hS; unfold MSe at hS; go_simp; try with_reducible rfl); (try go_frame)
          refine hTk (i := 19) (v := ?_) (hy := Or.inl ⟨by rfl, ?_⟩) (h := ?_); rotate_left 1; (intro w0 hS; unfold MSe at hS; go_simp; try with_reducible rfl); (try go_frame)
          refine hTk (i := 20) (v := ?_) (hy := Or.inl ⟨by rfl, ?_⟩) (h := ?_); rotate_left 1; (intro w0 hS; unfold MSe at hS; go_simp; try with_reducible rfl); (try go_frame)
          refine hTk (i := 21) (v := ?_) (hy := Or.inl ⟨by rfl, ?_⟩) (h := ?_); rotate_left 1; (intro w0 hS; unfold MSe at hS; go_simp; try with_reducible rfl); (try go_frame)
          refine hTk (i := 22) (v := ?_) (hy := Or.inl ⟨by rfl, ?_⟩) (h := ?_); rotate_left 1; (intro w0 hS; unfold MSe at hS; go_simp; try with_reducible rfl); (try go_frame)
          refine hTk (i := 23) (v := ?_) (hy := Or.inl ⟨by rfl, ?_⟩) (h := ?_); rotate_left 1; (intro w0 hS; unfold MSe at hS; go_simp; try with_reducible rfl); (try go_frame)
          refine hTk (i := 24) (v := ?_) (hy := Or.inl ⟨by rfl, ?_⟩) (h := ?_); rotate_left 1; (intro w0 hS; unfold MSe at hS; go_simp; try with_reducible rfl); (try go_frame)
          refine hTk (i := 25) (v := ?_) (hy := Or.inl ⟨by rfl, ?_⟩) (h := ?_); rotate_left 1; (intro w0 hS; unfold MSe at hS; go_simp; try with_reducible rfl); (try go_frame)
          refine hTk (i := 26) (v := ?_) (hy := Or.inl ⟨by rfl, ?_⟩) (h := ?_); rotate_left 1; (intro w0 hS; unfold MSe at hS; go_simp; try with_reducible rfl); (try go_frame)
          refine hTk (i := 27) (v := ?_) (hy := Or.inl ⟨by rfl, ?_⟩) (h := ?_); rotate_left 1; (intro w0 hS; unfold MSe at hS; go_simp; try with_reducible rfl); (try go_frame)
          refine hTk (i := 28) (v := ?_) (hy := Or.inl ⟨by rfl, ?_⟩) (h := ?_); rotate_left 1; (intro w0 hS; unfold MSe at hS; go_simp; try with_reducible rfl); (try go_frame)
          refine hTk (i := 30) (v := ?_) (hy := Or.inl ⟨by rfl, ?_⟩) (h := ?_); rotate_left 1; (intro w0 hS; unfold MSe at hS; go_simp; try with_reducible rfl); (try go_frame)
          refine wpAnyH_ready (rs := [29]) (by kernel_rfl) (by simp) ?_; refine hCo (h := fun K hK => ?_) (hs := AllReadyH.nil); go_simp
          refine hK.out _ _ (hH.ext (by first | assumption | exact Ext.alloc (Ext.refl _) _ | exact Ext.refl _)) (fun hH => ?_); clear hK; (try go_frame)
          refine wpAnyH_ready (rs := [31]) (by kernel_rfl) (by simp) ?_; refine hCo (h := fun K hK => ?_) (hs := AllReadyH.nil); go_simp
          refine (HT32.out _ hH.1).mono ?_
          rintro e w8 ⟨rfl, hx8⟩
          refine hK.out _ _ (hH.ext (by first | assumption | exact Ext.alloc (Ext.refl _) _ | exact Ext.refl _)) (fun hH => ?_); clear hK; (try go_frame)
          refine hTk (i := 32) (v := ?_) (hy := Or.inl ⟨by rfl, ?_⟩) (h := ?_); rotate_left 1; (intro w0 hS; unfold MSe at hS; go_simp; try with_reducible rfl); (try go_frame)
          refine hTk (i := 33) (v := ?_) (hy := Or.inl ⟨by rfl, ?_⟩) (h := ?_); rotate_left 1; (intro w0 hS; unfold MSe at hS; go_simp; try with_reducible rfl); (try go_frame)
          refine wpAnyH_done (by kernel_rfl) ?_ _
          have hx9 := hH.1
          clear hH hM0
          go_wp2
          go_roundw
          case rel => exact ⟨k + 1, by go_num, by omega, HXR.out.trans hx9⟩
          case measure => simp [intOf]; omega
    · obtain rfl : k = 8 := by omega
      clear hk hlt hgr hg8
      go_upto_block 2 with (go_at_call 26; (with_reducible refine (rStart_any _).mono ?_); rintro e w2 ⟨rfl, hx2⟩)
      have hs2 := blk_alloc_at w2 (.cells (posCells startP) 30) _ rfl
      have hE2 : Ext w (w2.alloc (.cells (posCells startP) 30)) := (HE8.out.trans (hxr.trans hx2)).alloc _
      generalize w2.alloc (.cells (posCells startP) 30) = W2 at *
      generalize w2.heap.size = ps at *
      clear hxr hx2
      have HT2 := hid hE2
      clear hE2
      go_wp2
      go_loopw [6] (fun i wr => ∃ j : Nat, i = .int .i64 ((j : Int) - 1) ∧ j ≤ 18 ∧ Ext W2 wr) (fun i _ => (17 - intOf i).toNat)
      case atStart => exact ⟨0, rfl, by omega, Ext.refl _⟩
      case round =>
        obtain ⟨j, rfl, hj, hxr⟩ := hrel
        have hsr := (hxr.blk _ (blk_lt hs2)).trans hs2
        by_cases hlt2 : j < 18
        · have hSC := eC hlt2
          have hrq := sC_rng hlt2
          obtain ⟨c, hc⟩ : ∃ c, (j : Int) - 1 = c := ⟨_, rfl⟩
          have hc1 : c < 17 := by omega
          have hc2 : -1 ≤ c := by omega
          rw [hc] at hSC hrq
          rw [hc]
          have HC := hid hc
          clear hc
          go_upto_region 28 with (fail)
          rw [pos_castle, show ({ startP with castle := c } : Pos) = sC c from rfl]
          have hrs : Rng startP := aw_rng (i := 0) (by omega)
          have HSA : ∀ W, Ext wr W → Calls Tryz.prog 16 #[.agg (posCells (sC c)), .agg (posCells startP)] W (Ret (.bool (c == 15)) W) := fun W h => by rw [← hSC]; exact Same_any (sC c) startP W hrq hrs (HT.out.up (HT2.out.trans (hxr.trans h)))
          generalize sC c = q at *
          have HT3 : ∀ W : World, Ext wr (W.alloc (.cells (catA [posCells q, posCells startP, posCells q]) 30)) → Calls Tryz.prog 3 #[.slice (some ⟨W.heap.size, 0, none⟩) 3 3, .agg (posCells q)] (W.alloc (.cells (catA [posCells q, posCells startP, posCells q]) 30)) (Ret (.bool true) (W.alloc (.cells (catA [posCells q, posCells startP, posCells q]) 30))) := fun W h =>
            Tells_any _ [q, startP, q] q _ (SlP.of_row ((blk_alloc_at W (.cells (catA [posCells q, posCells startP, posCells q]) 30) _ rfl).trans (show _ = some (Obj.cells (posL [q, startP, q]).toArray 30 (0, 0)) by rw [← catA_pos]; rfl)) rfl 3) (by intro p hp; simp at hp; rcases hp with h | h | h <;> rw [h] <;> assumption) hrq (HT.out.up (HT2.out.trans (hxr.trans h)))
          have hb9 := blk_alloc_at wr (.cells (posCells q) 30) _ rfl
          have hE9 : Ext wr (wr.alloc (.cells (posCells q) 30)) := (Ext.refl wr).alloc _
          have hs9 := (hE9.blk _ (blk_lt hsr)).trans hsr
          have hS1 := HSA _ hE9
          have HX := hid hxr
          clear hSC hrq hrs hxr hsr hs2 HSA
          generalize wr.alloc (.cells (posCells q) 30) = W9 at *
          go_wp2_with (first
            | (go_at_call 16; (with_reducible refine hS1.mono ?_); rintro e w8 ⟨rfl, hx8⟩; (have hb8 := (hx8.blk _ (blk_lt hb9)).trans hb9); (have hs8 := (hx8.blk _ (blk_lt hs9)).trans hs9); (have lb8 := blk_lt hb8); (have ls8 := blk_lt hs8))
            | (go_at_call 3; (with_reducible refine (HT3 _ ?c0).mono (fun e w9 h9 => ?_)); rotate_left 1; obtain ⟨rfl, hx9⟩ := h9))
          · go_roundw
            case rel => exact ⟨j + 1, by have := HC.out; exact vint (by omega), by omega, HX.out.trans (hE9.trans (hx8.trans (Ext.trans ((Ext.refl _).alloc _) hx9)))⟩
            case measure => simp [intOf]; omega
          · exact (hE9.trans hx8).alloc _
        · obtain rfl : j = 18 := by omega
          go_wp2_with (first
            | (go_at_call 27; (with_reducible refine (none_any _).mono ?_); rintro e w3 ⟨rfl, hx3⟩)
            | (go_at_call 12; (with_reducible refine (Awake_any _ ?c1).mono (fun e w4 h4 => ?_)); rotate_left 1; obtain ⟨rfl, hx4⟩ := h4))
          · go_ret
            exact Ret.mk' rfl (HT2.out.trans (hxr.trans (hx3.trans hx4)))
          · exact HT.out.up (HT2.out.trans (hxr.trans hx3))
end Go.Proofs.YtdmgimfgoajmjaaGreatDoor
namespace Go.Proofs.YtdmgimfgoajmjaaGreatDoor
open Go.ChangeShapes Go.WideShapes Go.ChangeAt Go.RowKit
set_option maxHeartbeats 20000000 in
set_option maxRecDepth 100000 in
theorem ends_lifted (os : Os) (started : os.Started) (H : Type) (enc : TypeId × Value → H) :
    ReturnsInHanded {} Tryz.checked os 4 .any (fun w args => (Rows.againEndsSpec.pre enc Tryz.prog Tryz.f4 [] false w args ∧ laidMetH Tryz.prog tabs w) ∧ sizedMet enc Tryz.prog Tryz.f4 (OpenSpec.ofChange Rows.againEndsSpec) false w args)
      (Rows.againEndsSpec.post enc Tryz.prog Tryz.f4 false true false false) := by
  refine returnsInHanded_of_change_and (C := Tryz.checked) (X := fun w _ => laidMetH Tryz.prog tabs w) (fun _ _ _ hh h => h.of_heap hh) own started (by kernel_rfl) Tryz.func4
    (ChangeSpec.witness_shaped (enc := enc) (C := Tryz.checked) (os := os) (X := fun w _ => laidMetH Tryz.prog tabs w) false (World.doorLaid Tryz.prog 400 os) #[] 8 rfl (World.shaped_of_RefB (by kernel_rfl) (by kernel_rfl)) (by kernel_rfl) (by kernel_rfl) (by kernel_rfl) (door_met os _)) ?_
  intro W base args ds gs before hval0 hW _ _ hL _
  have hval : ∀ (j : Nat) t v, Tryz.f4.params[j]? = some t → args[j]? = some v → Value.okWide Tryz.prog W .any base t v := hval0
  have hW' := hW
  obtain ⟨p, q, hA0, hV, rfl, hfz, hnd⟩ := hW
  have hA : DataW.TrodAll enc Tryz.prog W 0 (fun _ => true) true Tryz.f4.params.toList args.toList ds p := hA0
  rw [Tryz.params4] at hA hval
  obtain ⟨rfl, rfl, rfl⟩ := trodAll_none hA
  obtain ⟨rfl, rfl⟩ := trodVars_none hV
  clear hA0 hval0
  refine (Ends_any W (tab10_of hL)).mono fun e W' ⟨he, bel⟩ => ?_
  subst he
  exact ⟨_, rfl, _, _, _, [], _, [], hW', trodAll_mk1 (shut_bool Tryz.underlying4 _), trodAll_mk0, rfl, Below.frame bel _, fun h => by cases h⟩
set_option maxHeartbeats 20000000 in
set_option maxRecDepth 100000 in
theorem ends_facts : joinedFacts Tryz.pinned.checked.prog 4 Tryz.f4 Rows.againEndsSpec Rows.againEndsRow = true := by
  unfold joinedFacts
  repeat' (with_reducible refine and_mk ?_ ?_)
  all_goals (as_aux_lemma => kernel_rfl)
theorem ends_over : Rows.AgainEndsSaid :=
  OpenClaim.holds_of_wide 4 Tryz.f4 rfl rfl rfl rfl rfl rfl rfl ⟨rfl, rfl, rfl, rfl, rfl⟩ rfl rfl rfl rfl rfl (by as_aux_lemma => kernel_rfl) Tryz.func4 ends_facts
    (of_decide_eq_true (by as_aux_lemma => kernel_rfl)) (by unfold Func.isWrapper; first | (rw [if_pos (by decide +kernel)]; kernel_rfl) | (rw [if_neg (by decide +kernel)]; exact ⟨rfl, rfl⟩))
    (fun os started H enc _ => ends_lifted os started H enc)
theorem againEnds_holds : Rows.AgainEndsCardSaid :=
  Claim7.holds_tied_plain_at .later [] [.data, .data, .data] true _ true
    ends_over (fun _ h => by cases h) (by as_aux_lemma => kernel_rfl) (fun _ h => by cases h) againEnds_row_tie rfl ⟨rfl, rfl⟩ (by as_aux_lemma => kernel_rfl) rfl
    (fun f fn hf hfn => by
      obtain rfl : f = 4 := Option.some.inj ((show Tryz.prog.funcNamed "zugzwang/zugzwanglaw12.AgainEnds" = some 4 by kernel_rfl).symm.trans hf) |>.symm
      obtain rfl : fn = Tryz.f4 := (Option.some.inj (Tryz.func4.symm.trans hfn)).symm
      exact ⟨by as_aux_lemma => kernel_rfl, fun j t ht => by
        rw [Tryz.params4] at ht
        simp at ht⟩)
    (by as_aux_lemma => kernel_rfl)
end Go.Proofs.YtdmgimfgoajmjaaGreatDoor
