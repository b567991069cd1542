/- How two moves stand; moves are sorted. -/
import Derived.Test.YtdmgimfgoajmjaaGreatDoorC25
import Derived.Shelf.SlSortCmp.WholeK
import Derived.Test.YtdmgimfgoajmjaaGreatDoorC24
import Derived.Shelf.SlSortCmp.NoneTotal
import Derived.Test.YtdmgimfgoajmjaaGreatDoorC10
import Derived.Test.YtdmgimfgoajmjaaGreatDoorC26
import Derived.Test.YtdmgimfgoajmjaaGreatDoorC00
import Derived.Lib.ItoaLen
import Derived.Lib.AppendIntMem
set_option linter.unusedVariables false
set_option linter.unusedSimpArgs false
namespace Go.Proofs.YtdmgimfgoajmjaaGreatDoor
open Go.RowKit Go.Sort Go.Shelf
def Gro (w w' : World) : Prop := ∃ q os, w' = grow (w.drewN q) os
theorem Gro.refl (w : World) : Gro w w := ⟨0, #[], by rw [grow_empty]; rfl⟩
theorem Gro.drew {a w : World} (h : Gro a w) : Gro a w.drew := by obtain ⟨q, os, rfl⟩ := h; exact ⟨q + 1, os, rfl⟩
theorem Gro.alloc {a w : World} (h : Gro a w) (o : Obj) : Gro a (w.alloc o) := by obtain ⟨q, os, rfl⟩ := h; exact ⟨q, os ++ #[o], by rw [alloc_eq_grow, grow_grow]⟩
theorem Gro.trans {a b c : World} (h : Gro a b) (k : Gro b c) : Gro a c := by
  obtain ⟨q, os, rfl⟩ := h
  obtain ⟨q', os', rfl⟩ := k
  exact ⟨q + q', os ++ os', by simp [grow, World.drewN, Nat.add_assoc, Array.append_assoc]⟩
theorem Gro.ext {a b : World} (h : Gro a b) : Ext a b := by
  obtain ⟨q, os, rfl⟩ := h
  have h1 : ∀ (l : List Obj) (W : World), Ext a W → Ext a (grow W l.toArray) := by
    intro l
    induction l with
    | nil => intro W hW; simpa using hW
    | cons o r ih =>
      intro W hW
      have := ih (W.alloc o) (Ext.alloc hW o)
      rw [alloc_eq_grow, grow_grow] at this
      simpa using this
  have h2 : ∀ n, Ext a (a.drewN n) := by
    intro n
    induction n with
    | zero => exact Ext.refl _
    | succ n ih => exact Ext.drew ih
  have := h1 os.toList _ (h2 q)
  simpa using this
def RetG (v : Value) (w : World) (e : Ending) (w' : World) : Prop := e = .returned v ∧ Gro w w'
theorem RetG.mk' {v v' : Value} {w w' : World} (h : v' = v) (hx : Gro w w') : RetG v w (.returned v') w' := ⟨by rw [h], hx⟩
def cmpI (x y : Int) : Int := if x < y then -1 else if y < x then 1 else 0
theorem cmpI_lt {x y : Int} (h : x < y) : cmpI x y = -1 := if_pos h
theorem cmpI_gt {x y : Int} (h : y < x) : cmpI x y = 1 := by unfold cmpI; rw [if_neg (by omega), if_pos h]
theorem cmpI_eq {x y : Int} (h : ¬ x < y) (h2 : ¬ y < x) : cmpI x y = 0 := by unfold cmpI; rw [if_neg h, if_neg h2]
theorem Compare_any (x y : Int) (w : World) : Calls Tryz.prog 208 #[.int .i64 x, .int .i64 y] w (RetG (.int .i64 (cmpI x y)) w) := by
  rcases Int.lt_trichotomy x y with h | h | h
  · have E := hid (cmpI_lt h)
    go_enter Tryz.func208, Tryz.ntmps208
    go_wp2
    go_ret; exact RetG.mk' (by rw [E.out]; rfl) (Gro.refl _)
  · have E := hid (cmpI_eq (show ¬ x < y by omega) (by omega))
    subst h
    go_enter Tryz.func208, Tryz.ntmps208
    go_wp2
    go_ret; exact RetG.mk' (by rw [E.out]; rfl) (Gro.refl _)
  · have E := hid (cmpI_gt h)
    have h2 : ¬ x < y := by omega
    go_enter Tryz.func208, Tryz.ntmps208
    go_wp2
    go_ret; exact RetG.mk' (by rw [E.out]; rfl) (Gro.refl _)
theorem CompareK_any (x y : Int) (w : World) : Calls Tryz.prog 209 #[.int .i64 x, .int .i64 y] w (RetG (.int .i64 (cmpI x y)) w) := by
  rcases Int.lt_trichotomy x y with h | h | h
  · have E := hid (cmpI_lt h)
    go_enter Tryz.func209, Tryz.ntmps209
    go_wp2
    go_ret; exact RetG.mk' (by rw [E.out]; rfl) (Gro.refl _)
  · have E := hid (cmpI_eq (show ¬ x < y by omega) (by omega))
    subst h
    go_enter Tryz.func209, Tryz.ntmps209
    go_wp2
    go_ret; exact RetG.mk' (by rw [E.out]; rfl) (Gro.refl _)
  · have E := hid (cmpI_gt h)
    have h2 : ¬ x < y := by omega
    go_enter Tryz.func209, Tryz.ntmps209
    go_wp2
    go_ret; exact RetG.mk' (by rw [E.out]; rfl) (Gro.refl _)
def orL : List Int → Int
  | [] => 0
  | x :: r => if x = 0 then orL r else x
set_option maxRecDepth 100000 in
theorem Or_any (l : List Int) (n : Nat) (hn : n = l.length) (hle : l.length ≤ 1000) (g : Nat) (t : TypeId) (fr : Nat × Nat) (w : World) (hg : blk w g = some (.cells (ints l).toArray t fr)) : Calls Tryz.prog 207 #[.slice (some ⟨g, 0, none⟩) n n] w (RetG (.int .i64 (orL l)) w) := by
  subst hn
  have hlg := blk_lt hg
  go_enter Tryz.func207, Tryz.ntmps207
  go_wp2
  go_loop [8] (fun i => ∃ k : Nat, i = .int .i64 k ∧ k ≤ l.length ∧ orL l = orL (l.drop k)) (fun i => l.length - (intOf i).toNat)
  case atStart => exact ⟨0, rfl, by omega, rfl⟩
  case round =>
    obtain ⟨k, rfl, hk, he⟩ := hrel
    have HE := hid he
    clear he
    by_cases hlt : k < l.length
    · obtain ⟨u, hu⟩ : ∃ u, l[k]? = some u := ⟨_, List.getElem?_eq_getElem hlt⟩
      have cg : w.cell? ⟨g, k, none⟩ = some (.int .i64 u) := by rw [blk_cell hg, List.getElem?_toArray]; exact ints_get hu
      have hd : l.drop k = u :: l.drop (k + 1) := by rw [List.drop_eq_getElem_cons hlt]; congr 1; exact Option.some.inj ((List.getElem?_eq_getElem hlt).symm.trans hu)
      have HD := hid hd
      clear hu hd hg
      by_cases h0 : u = 0
      · have h0' : (u != 0) = false := by simp [h0]
        have H0 := hid h0
        clear h0
        go_wp2
        go_round
        case rel => exact ⟨k + 1, by go_num, by omega, by rw [HE.out, HD.out]; simp [orL, H0.out]⟩
        case measure => simp [intOf]; omega
      · have h0' : (u != 0) = true := by simp [h0]
        have H0 := hid h0
        clear h0
        go_wp2
        go_ret
        exact RetG.mk' (vint (by rw [HE.out, HD.out]; simp [orL, H0.out])) (Gro.refl _)
    · obtain rfl : k = l.length := by omega
      go_wp2
      go_ret
      exact RetG.mk' (vint (by rw [HE.out]; simp [orL])) (Gro.refl _)
def cmpM (a b : Mv) : Int := orL [cmpI a.fr b.fr, cmpI a.to_ b.to_, cmpI a.be b.be]
def MSm (a b : Mv) (x y : Nat) (w W : World) : Prop := Gro w W ∧ blk W x = some (.cells (mvC a) 51 (0, 0)) ∧ blk W y = some (.cells (mvC b) 51 (0, 0)) ∧
  W.cell? ⟨x, 0, none⟩ = some (.int .i64 a.fr) ∧ W.cell? ⟨x, 1, none⟩ = some (.int .i64 a.to_) ∧ W.cell? ⟨x, 2, none⟩ = some (.int .i64 a.be) ∧ W.cell? ⟨y, 0, none⟩ = some (.int .i64 b.fr) ∧ W.cell? ⟨y, 1, none⟩ = some (.int .i64 b.to_) ∧ W.cell? ⟨y, 2, none⟩ = some (.int .i64 b.be)
theorem MSm.mk' {a b : Mv} {x y : Nat} {w W : World} (h : Gro w W) (h1 : blk W x = some (.cells (mvC a) 51 (0, 0))) (h2 : blk W y = some (.cells (mvC b) 51 (0, 0))) : MSm a b x y w W := ⟨h, h1, h2, blk_cell h1 0, blk_cell h1 1, blk_cell h1 2, blk_cell h2 0, blk_cell h2 1, blk_cell h2 2⟩
theorem MSm.ext {a b : Mv} {x y : Nat} {w W W' : World} (h : MSm a b x y w W) (hx : Gro W W') : MSm a b x y w W' := MSm.mk' (h.1.trans hx) ((hx.ext.blk _ (blk_lt h.2.1)).trans h.2.1) ((hx.ext.blk _ (blk_lt h.2.2.1)).trans h.2.2.1)
theorem Or3_at (x y z : Int) (b : Nat) (w : World) (h : blk w b = some (.cells #[.int .i64 x, .int .i64 y, .int .i64 z] 3 (0, 0))) : Calls Tryz.prog 207 #[.slice (some ⟨b, 0, none⟩) 3 3] w (RetG (.int .i64 (orL [x, y, z])) w) := Or_any [x, y, z] 3 rfl (by simp) b _ _ w h
set_option maxRecDepth 100000 in
set_option maxHeartbeats 4000000 in
theorem compare_any (a b : Mv) (w : World) : Calls Tryz.prog 180 #[.agg (mvC a), .agg (mvC b)] w (RetG (.int .i64 (cmpM a b)) w) := by
  go_enter Tryz.func180, Tryz.ntmps180
  go_wp2
  have hM : MSm a b w.heap.size (w.heap.size + 1) w ((w.alloc (.cells (mvC a) 51 (0, 0))).alloc (.cells (mvC b) 51 (0, 0))) := MSm.mk' (Gro.alloc (Gro.alloc (Gro.refl _) _) _) (by simp [go_sem]) (blk_alloc_at _ _ _ (by simp))
  refine world_cut (fun W => MSm a b w.heap.size (w.heap.size + 1) w W) hM ?_
  clear hM
  intro W hM
  refine wp_region_held_drew (S := MSm a b w.heap.size (w.heap.size + 1) w) (by kernel_rfl) (hM.ext (Gro.drew (Gro.refl _))) (fun hH => ?_)
  refine hTk (i := 0) (v := ?_) (hy := Or.inl ⟨by rfl, ?_⟩) (h := ?_); rotate_left 1; (intro w0 hS; (try dsimp only at hS); unfold MSm at hS; go_simp; try with_reducible rfl); (try go_frame)
  refine hTk (i := 1) (v := ?_) (hy := Or.inl ⟨by rfl, ?_⟩) (h := ?_); rotate_left 1; (intro w0 hS; (try dsimp only at hS); unfold MSm at hS; go_simp; try with_reducible rfl); (try go_frame)
  refine hTk (i := 2) (v := ?_) (hy := Or.inl ⟨by rfl, ?_⟩) (h := ?_); rotate_left 1; (intro w0 hS; (try dsimp only at hS); unfold MSm at hS; go_simp; try with_reducible rfl); (try go_frame)
  refine hTk (i := 3) (v := ?_) (hy := Or.inl ⟨by rfl, ?_⟩) (h := ?_); rotate_left 1; (intro w0 hS; (try dsimp only at hS); unfold MSm at hS; go_simp; try with_reducible rfl); (try go_frame)
  refine hTk (i := 5) (v := ?_) (hy := Or.inl ⟨by rfl, ?_⟩) (h := ?_); rotate_left 1; (intro w0 hS; (try dsimp only at hS); unfold MSm at hS; go_simp; try with_reducible rfl); (try go_frame)
  refine hTk (i := 6) (v := ?_) (hy := Or.inl ⟨by rfl, ?_⟩) (h := ?_); rotate_left 1; (intro w0 hS; (try dsimp only at hS); unfold MSm at hS; go_simp; try with_reducible rfl); (try go_frame)
  refine hTk (i := 7) (v := ?_) (hy := Or.inl ⟨by rfl, ?_⟩) (h := ?_); rotate_left 1; (intro w0 hS; (try dsimp only at hS); unfold MSm at hS; go_simp; try with_reducible rfl); (try go_frame)
  refine hTk (i := 8) (v := ?_) (hy := Or.inl ⟨by rfl, ?_⟩) (h := ?_); rotate_left 1; (intro w0 hS; (try dsimp only at hS); unfold MSm at hS; go_simp; try with_reducible rfl); (try go_frame)
  refine hTk (i := 10) (v := ?_) (hy := Or.inl ⟨by rfl, ?_⟩) (h := ?_); rotate_left 1; (intro w0 hS; (try dsimp only at hS); unfold MSm at hS; go_simp; try with_reducible rfl); (try go_frame)
  refine hTk (i := 11) (v := ?_) (hy := Or.inl ⟨by rfl, ?_⟩) (h := ?_); rotate_left 1; (intro w0 hS; (try dsimp only at hS); unfold MSm at hS; go_simp; try with_reducible rfl); (try go_frame)
  refine hTk (i := 12) (v := ?_) (hy := Or.inl ⟨by rfl, ?_⟩) (h := ?_); rotate_left 1; (intro w0 hS; (try dsimp only at hS); unfold MSm at hS; go_simp; try with_reducible rfl); (try go_frame)
  refine hTk (i := 13) (v := ?_) (hy := Or.inl ⟨by rfl, ?_⟩) (h := ?_); rotate_left 1; (intro w0 hS; (try dsimp only at hS); unfold MSm at hS; go_simp; try with_reducible rfl); (try go_frame)
  refine wpAnyH_ready (rs := [4]) (by kernel_rfl) (by simp) ?_; refine hCo (h := fun K hK => ?_) (hs := AllReadyH.nil); go_simp
  refine (Compare_any _ _ _).mono ?_
  rintro e w8 ⟨rfl, hx8⟩
  refine hK.out _ _ (hH.ext (by first | assumption | exact Gro.alloc (Gro.refl _) _)) (fun hH => ?_); clear hK; (try go_frame)
  refine wpAnyH_ready (rs := [9]) (by kernel_rfl) (by simp) ?_; refine hCo (h := fun K hK => ?_) (hs := AllReadyH.nil); go_simp
  refine (Compare_any _ _ _).mono ?_
  rintro e w9 ⟨rfl, hx9⟩
  refine hK.out _ _ (hH.ext (by first | assumption | exact Gro.alloc (Gro.refl _) _)) (fun hH => ?_); clear hK; (try go_frame)
  refine wpAnyH_ready (rs := [14]) (by kernel_rfl) (by simp) ?_; refine hCo (h := fun K hK => ?_) (hs := AllReadyH.nil); go_simp
  refine (CompareK_any _ _ _).mono ?_
  rintro e w10 ⟨rfl, hx10⟩
  refine hK.out _ _ (hH.ext (by first | assumption | exact Gro.alloc (Gro.refl _) _)) (fun hH => ?_); clear hK; (try go_frame)
  refine wpAnyH_ready (rs := [15]) (by kernel_rfl) (by simp) ?_; refine hCo (h := fun K hK => ?_) (hs := AllReadyH.nil); go_simp
  refine hK.out _ _ (hH.ext (by first | assumption | exact Gro.alloc (Gro.refl _) _)) (fun hH => ?_); clear hK; (try go_frame)
  refine wpAnyH_ready (rs := [16]) (by kernel_rfl) (by simp) ?_; refine hCo (h := fun K hK => ?_) (hs := AllReadyH.nil); go_simp
  refine (Or3_at _ _ _ _ _ (blk_alloc_at _ _ _ rfl)).mono ?_
  rintro e w11 ⟨rfl, hx11⟩
  refine hK.out _ _ (hH.ext (by first | assumption | exact Gro.alloc (Gro.refl _) _)) (fun hH => ?_); clear hK; (try go_frame)
  refine hTk (i := 17) (v := ?_) (hy := Or.inl ⟨by rfl, ?_⟩) (h := ?_); rotate_left 1; (intro w0 hS; (try dsimp only at hS); unfold MSm at hS; go_simp; try with_reducible rfl); (try go_frame)
  refine wpAnyH_done (by kernel_rfl) ?_ _
  go_wp2
  go_ret
  exact RetG.mk' rfl hH.1
def mvE (m : Mv) : List Value := [.int .i64 m.fr, .int .i64 m.to_, .int .i64 m.be]
theorem mvsC_flat (l : List Mv) : mvsC l = l.flatMap mvE := rfl
instance : Inhabited Mv := ⟨⟨0, 0, 0⟩⟩
theorem cmpI_neg {x y : Int} : cmpI x y < 0 ↔ x < y := by unfold cmpI; split <;> (try split) <;> omega
theorem cmpI_zero {x y : Int} : cmpI x y = 0 ↔ x = y := by unfold cmpI; split <;> (try split) <;> omega
def mvLt (a b : Mv) : Bool := decide (a.fr < b.fr ∨ (a.fr = b.fr ∧ (a.to_ < b.to_ ∨ (a.to_ = b.to_ ∧ a.be < b.be))))
theorem cmpM_lt (a b : Mv) : ltOf cmpM a b = mvLt a b := by
  have h1 := @cmpI_neg a.fr b.fr
  have h2 := @cmpI_zero a.fr b.fr
  have h3 := @cmpI_neg a.to_ b.to_
  have h4 := @cmpI_zero a.to_ b.to_
  have h5 := @cmpI_neg a.be b.be
  have h6 := @cmpI_zero a.be b.be
  unfold ltOf mvLt cmpM
  rw [decide_eq_decide]
  simp only [orL]
  split
  · split
    · split <;> omega
    · omega
  · omega
theorem mvLt_swo : SWO (ltOf cmpM) where
  irrefl x := by rw [cmpM_lt]; simp [mvLt]
  trans x y z h1 h2 := by rw [cmpM_lt] at *; simp only [mvLt, decide_eq_true_eq] at *; omega
  ntrans x y z h1 h2 := by rw [cmpM_lt] at *; simp only [mvLt, decide_eq_false_iff_not] at *; omega
theorem mvLt_tot (x y : Mv) (h1 : ltOf cmpM x y = false) (h2 : ltOf cmpM y x = false) : x = y := by
  rw [cmpM_lt] at *
  simp only [mvLt, decide_eq_false_iff_not] at *
  cases x; cases y
  simp only [Mv.mk.injEq] at *
  omega
end Go.Proofs.YtdmgimfgoajmjaaGreatDoor
namespace Go.Proofs.YtdmgimfgoajmjaaGreatDoor
open Go.RowKit Go.Sort Go.Shelf
def sortMv (l : List Mv) : List Mv := l.mergeSort fun x y => !(ltOf cmpM) y x
theorem sortMv_len (l : List Mv) : (sortMv l).length = l.length := List.length_mergeSort _
theorem sortMv_perm (l : List Mv) : (sortMv l).Perm l := List.mergeSort_perm _ _
theorem mvsC_get : ∀ (l : List Mv) (t : Nat), t < l.length * 3 → (mvsC l)[t]? = some ((mvE l[t / 3]!)[t % 3]!)
  | [], t, h => by simp at h
  | x :: r, t, h => by
    have e : mvsC (x :: r) = mvE x ++ mvsC r := by simp [mvsC, mvE]
    rw [e]
    rcases t with _ | _ | _ | t
    · rfl
    · rfl
    · rfl
    · have h' : t < r.length * 3 := by simp at h; omega
      rw [List.getElem?_append_right (by simp [mvE])]
      have e1 : (t + 1 + 1 + 1) / 3 = t / 3 + 1 := by omega
      have e2 : (t + 1 + 1 + 1) % 3 = t % 3 := by omega
      rw [e1, e2]
      have := mvsC_get r t h'
      simpa [mvE] using this
theorem flat_eq (l : List Mv) : flatK mvE 3 l.toArray = (mvsC l).toArray := by
  have hs : (flatK mvE 3 l.toArray).size = (mvsC l).toArray.size := by simp [mvsC_len]
  refine ext_get! hs fun t ht => ?_
  have ht' : t < l.toArray.size * 3 := by simpa using ht
  rw [get_flatK _ _ _ t ht']
  have h2 := mvsC_get l t (by simpa using ht')
  have h3 : (mvsC l).toArray[t]? = some ((mvE l[t / 3]!)[t % 3]!) := by simpa using h2
  rw [getElem!_def (mvsC l).toArray t, h3]
  simp
theorem take_putCellsId (cur : Array Value) (cs : List Value) (m : Nat) (hm : m = cs.length) (h : cs.length ≤ cur.size) : (putCells id 0 cs.toArray cur).toList.take m = cs := by
  subst hm
  apply List.ext_getElem?
  intro j
  by_cases hj : j < cs.length
  · rw [List.getElem?_take_of_lt hj, Array.getElem?_toList]
    simp [putCells, hj, show j < cur.size by omega]
  · rw [List.getElem?_take_eq_none (by omega), List.getElem?_eq_none (by omega)]
theorem compare_enters : ∀ args w, (callFunc 180 args).run Tryz.prog w = .ok (.enter 180 args) w := enters_of Tryz.func180 (by kernel_rfl) rfl
theorem mv_isAgg : ∀ w, (isAgg 51).run Tryz.prog w = .ok true w := fun w => by kernel_rfl
theorem mv_sizeOf : ∀ w, (Go.sizeOf 51).run Tryz.prog w = .ok 3 w := fun w => by kernel_rfl
theorem heap_putId {w : World} {g n : Nat} {cur : Array Value} {e : TypeId} {fr : Nat × Nat} (d : Array Value) (hb : w.heap[g]? = some (.cells cur e fr)) :
    (putRow id (Sort.ahead w n) g 0 d).heap[g]? = some (.cells (putCells id 0 d cur) e fr) := by
  simp [putRow, mapBlock, Sort.ahead, Array.getElem?_modify, hb, onCells]
theorem compare_lays (g off n : Nat) (w : World) : CmpLays Tryz.prog 180 #[] mvE 3 cmpM g off n w := fun _ _ _ _ x y => by
  refine (compare_any x y _).mono ?_
  rintro e w' ⟨rfl, h⟩
  exact ⟨rfl, h⟩
theorem SortMv_own (base : Nat) (v : Value) (l : List Mv) (w : World) (h : w.ownsRow base 51 3 v l.length (mvsC l)) (hn : l.length ≤ 1000000) :
    Calls Tryz.prog 179 #[v, .func (.func 180) #[] #[]] w fun e w' => e = .returned (.tuple #[]) ∧ w'.ownsRow base 51 3 v l.length (mvsC (sortMv l)) ∧ w.grownBy w' v.ownBlock := by
  rcases h.2 with ⟨rfl, h0⟩ | ⟨g, cap, cur, rfl, hbg, hgg, hcap, hcm, hcs, htk⟩
  · obtain rfl : l = [] := List.eq_nil_of_length_eq_zero h0
    refine (AnyF.slices_SortFunc_none Tryz.laySortF none 0 _ w).mono ?_
    rintro e w' ⟨rfl, rfl⟩
    exact ⟨rfl, by simpa [sortMv] using h, Ext.grownNone (Ext.refl _)⟩
  · have hH : HoldsK mvE 3 w g 0 l.toArray := by
      unfold HoldsK
      rw [flat_eq]
      intro j hj
      have hj' : j < l.length * 3 := by simpa [mvsC_len] using hj
      refine ⟨?_, by simp [World.frozen?, hgg]⟩
      have h1 : (cur.toList.take (l.length * 3))[j]? = (mvsC l)[j]? := by rw [htk]
      rw [List.getElem?_take_of_lt hj'] at h1
      rw [cell_of_row w g (0 + j) cur _ (0, 0) hgg, Nat.zero_add, ← Array.getElem?_toList, h1]
      have hj2 : j < (mvsC l).length := by rw [mvsC_len]; exact hj'
      rw [List.getElem?_eq_getElem hj2]
      simp [getElem!_pos, hj2]
    have hcon := AnyQ.slices_SortFunc_total Tryz.laySortF 3 mv_isAgg mv_sizeOf mvE (fun _ => rfl) (fun x v hv => by simp [mvE] at hv; rcases hv with rfl | rfl | rfl <;> rfl) cmpM mvLt_swo 180 #[] g 0 cap l.toArray w compare_enters (compare_lays g 0 _ w) hH (blk_lt hgg) (by simp; omega) mvLt_tot
    have hsz : l.toArray.size = l.length := by simp
    rw [hsz] at hcon
    change Calls Tryz.prog 179 _ _ _ at hcon
    refine hcon.mono ?_
    rintro e w' ⟨rfl, n, os, rfl⟩
    show _ ∧ (grow (putRowK mvE 3 (Sort.ahead w n) g 0 (sortMv l).toArray) os).ownsRow _ _ _ _ _ _ ∧ _
    have hfl : putRowK mvE 3 (Sort.ahead w n) g 0 (sortMv l).toArray = putRow id (Sort.ahead w n) g 0 (mvsC (sortMv l)).toArray := by unfold putRowK; rw [flat_eq]
    have hB : w.grownBy (putRow id (Sort.ahead w n) g 0 (mvsC (sortMv l)).toArray) (some g) := by
      refine ⟨rfl, rfl, rfl, by simp, fun k hk hne => ?_⟩
      have : g ≠ k := fun e => hne (by rw [e])
      simp [putRow, mapBlock, Sort.ahead, Array.getElem?_modify, this]
    rw [hfl]
    have hlt : g < (putRow id (Sort.ahead w n) g 0 (mvsC (sortMv l)).toArray).heap.size := by simpa using blk_lt hgg
    refine ⟨rfl, ⟨by rw [mvsC_len, sortMv_len], .inr ⟨g, cap, _, rfl, hbg, by rw [heap_grow_old _ _ hlt]; exact heap_putId _ hgg, hcap, hcm, by simp [putCells, hcs], take_putCellsId _ _ _ (by rw [mvsC_len, sortMv_len]) (by rw [mvsC_len, sortMv_len, hcs]; exact Nat.mul_le_mul_right _ hcap)⟩⟩, ?_⟩
    have hG : w.grownBy (grow (putRow id (Sort.ahead w n) g 0 (mvsC (sortMv l)).toArray) os) (some g) := by
      refine ⟨rfl, rfl, rfl, by simp [grow], fun k hk hne => ?_⟩
      rw [heap_grow_old _ _ (by simpa using hk)]
      exact hB.block k hk hne
    have e2 : sortWorldK mvE 3 w g 0 n (l.toArray.toList.mergeSort fun x y => !(ltOf cmpM) y x).toArray os = grow (putRow id (Sort.ahead w n) g 0 (mvsC (sortMv l)).toArray) os := by
      rw [← hfl]; rfl
    rw [e2]
    exact hG
end Go.Proofs.YtdmgimfgoajmjaaGreatDoor
namespace Go.Proofs.YtdmgimfgoajmjaaGreatDoor
open Go.RowKit
theorem Wr.low {B b : Nat} {a c : World} (h : Wr B b a c) (hb : B ≤ b) (hB : B ≤ a.heap.size) : Below B a c :=
  ⟨h.os, h.tape, h.output, h.size, fun k hk => h.keep k (by omega) (by omega) (.inl hk)⟩
theorem Bld.ext {T : TypeId} {B b : Nat} {p : Value} {bs : List Value} {w w' : World} (h : Bld T B b p bs w) (hx : Ext w w') : Bld T B b p bs w' := by
  obtain ⟨v, h1, h2, h3⟩ := h.st
  exact ⟨h.hB, v, (hx.blk _ (blk_lt h1)).trans h1, own_ext h2 hx, h3⟩
def Tab10 (B : Nat) (w : World) : Prop := Lib.TabBelow Tryz.prog B w "internal/strconv.uint64pow10" .u64 Lib.pow10Tab
theorem numsT_len {l : List Int} (h : ∀ n ∈ l, -9223372036854775808 ≤ n ∧ n ≤ 9223372036854775807) : (numsT l).length ≤ 22 * l.length := by
  induction l with
  | nil => simp [numsT]
  | cons n r ih =>
    have h1 := Lib.itoa_length_le n (h n List.mem_cons_self).1 (h n List.mem_cons_self).2
    have h2 := ih (fun m hm => h m (List.mem_cons_of_mem _ hm))
    simp only [numsT, List.flatMap_cons, List.length_append, List.length_cons, List.length_nil] at h2 ⊢
    omega
theorem numsT_snoc {l : List Int} {k : Nat} {n : Int} (h : l[k]? = some n) : numsT (l.take (k + 1)) = numsT (l.take k) ++ (Lib.itoa n ++ [32]) := by
  rw [List.take_add_one, h]; simp [numsT]
theorem cells_snoc (l : List UInt8) (n : Int) : Lib.byteCells l ++ Lib.strCells ⟨(Lib.itoa n).toArray⟩ ++ [.int .u8 32] = Lib.byteCells (l ++ (Lib.itoa n ++ [32])) := by
  simp [Lib.byteCells, Lib.strCells]
theorem ints_at {L : List Int} {k : Nat} {n : Int} (h : L[k]? = some n) : (ints L).toArray[k]? = some (.int .i64 n) := by
  simp [ints, h]
set_option maxRecDepth 100000 in
set_option maxHeartbeats 4000000 in
theorem numbers_any (B b g cap : Nat) (p : Value) (l : List UInt8) (L : List Int) (w : World) (hp : BldI b p) (h : Bld 108 B b p (Lib.byteCells l) w) (hg : blk w g = some (.cells (ints L).toArray 3 (0, 0))) (hgb : g ≠ b)
    (hn : ∀ n ∈ L, -9223372036854775808 ≤ n ∧ n ≤ 9223372036854775807) (hlen : l.length + 22 * L.length ≤ 1000000) (hBw : B ≤ w.heap.size) (ht : Tab10 B w) :
    Calls Tryz.prog 62 #[.pointer (some ⟨b, 0, none⟩), .slice (some ⟨g, 0, none⟩) L.length cap] w (fun e w' => e = .returned (.tuple #[]) ∧ ∃ p', BldI b p' ∧ Bld 108 B b p' (Lib.byteCells (l ++ numsT L)) w' ∧ Wr B b w w') := by
  have hB := h.hB
  go_enter Tryz.func62, Tryz.ntmps62
  go_wp2
  go_loopw [8] (fun i wr => ∃ (k : Nat) (p' : Value), i = .int .i64 k ∧ k ≤ L.length ∧ BldI b p' ∧ Bld 108 B b p' (Lib.byteCells (l ++ numsT (L.take k))) wr ∧ Wr B b w wr) (fun i _ => L.length - (intOf i).toNat)
  case atStart => exact ⟨0, p, rfl, by omega, hp, by simpa [numsT] using h, Wr.refl _ _ _⟩
  case round =>
    obtain ⟨k, p', rfl, hk, hpI, hbl, hwr⟩ := hrel
    by_cases hlt : k < L.length
    · obtain ⟨n, hx⟩ : ∃ n, L[k]? = some n := ⟨_, List.getElem?_eq_getElem hlt⟩
      obtain ⟨n0, n1⟩ := hn n (List.mem_of_getElem? hx)
      have hgr : blk wr g = some (.cells (ints L).toArray 3 (0, 0)) := (hwr.keep g (blk_lt hg) hgb (.inr (fun cs fr e => by rw [hg] at e; injection e with e; injection e with _ e; exact absurd e (by decide)))).trans hg
      have d0 := (blk_cell hgr k).trans (ints_at hx)
      have lk : (numsT (L.take k)).length ≤ 22 * k := by
        have := numsT_len (l := L.take k) (fun m hm => hn m (List.mem_of_mem_take hm))
        rw [List.length_take] at this; omega
      have li := Lib.itoa_length_le n n0 n1
      have hsz := hwr.size
      have ht2 : Tab10 B wr := ht.on (hwr.low hB hBw)
      have HX := hid hx
      have HW := hid hwr
      clear hx hgr
      go_wp2
      refine wp_region_any (by kernel_rfl) ?_
      refine wpAny_take (i := 0) (v := ?_) (by simp only [List.getElem?_toArray, List.getElem?_cons_succ, List.getElem?_cons_zero]; rfl) (by kernel_rfl) (by kernel_rfl) (by kernel_rfl) (by exact fun _ _ _ h => h) (Or.inl ⟨by rfl, ?_⟩) ?_; rotate_left 1; (intro w0; go_simp; try with_reducible rfl); (try go_frame)
      refine wpAny_take (i := 1) (v := ?_) (by simp only [List.getElem?_toArray, List.getElem?_cons_succ, List.getElem?_cons_zero]; rfl) (by kernel_rfl) (by kernel_rfl) (by kernel_rfl) (by exact fun _ _ _ h => h) (Or.inl ⟨by rfl, ?_⟩) ?_; rotate_left 1; (intro w0; go_simp; try with_reducible rfl); (try go_frame)
      refine wpAny_take (i := 2) (v := ?_) (by simp only [List.getElem?_toArray, List.getElem?_cons_succ, List.getElem?_cons_zero]; rfl) (by kernel_rfl) (by kernel_rfl) (by kernel_rfl) (by exact fun _ _ _ h => h) (Or.inl ⟨by rfl, ?_⟩) ?_; rotate_left 1; (intro w0; go_simp; try with_reducible rfl); (try go_frame)
      refine wpAny_take (i := 3) (v := ?_) (by simp only [List.getElem?_toArray, List.getElem?_cons_succ, List.getElem?_cons_zero]; rfl) (by kernel_rfl) (by kernel_rfl) (by kernel_rfl) (by exact fun _ _ _ h => h) (Or.inl ⟨by rfl, ?_⟩) ?_; rotate_left 1; (intro w0; go_simp; try with_reducible rfl); (try go_frame)
      refine wpAny_ready (rs := [4]) (by kernel_rfl) (by simp) ?_; refine (AllReady.cons (by simp only [List.getElem?_toArray, List.getElem?_cons_succ, List.getElem?_cons_zero]; rfl) (fun K hK => ?_) AllReady.nil)
      have HK := hid hK
      clear hK
      go_simp
      refine (Tryz.strconv_Itoa n n0 n1 _ (ht2 _ (Below.drew (Below.refl _ _)))).mono ?_
      rintro e w5 ⟨rfl, hgro⟩
      have hx5 := Gro.ext hgro
      have hb5 : Bld 108 B b p' (Lib.byteCells (l ++ numsT (L.take k))) w5 := hbl.ext (Ext.trans (Ext.drew (Ext.refl _)) hx5)
      have hB5 : B ≤ w5.heap.size := (by have := hx5.le; rw [size_drew] at this; omega)
      refine HK.out _ _ ?_; clear HK; (try go_frame)
      refine wpAny_ready (rs := [5]) (by kernel_rfl) (by simp) ?_; refine (AllReady.cons (by simp only [List.getElem?_toArray, List.getElem?_cons_succ, List.getElem?_cons_zero]; rfl) (fun K hK => ?_) AllReady.nil)
      have HK := hid hK
      clear hK
      go_simp
      refine (WriteString_any B b p' _ _ _ hpI hb5 (by rw [Lib.byteCells_length, List.length_append]; show _ + (Lib.itoa n).toArray.size ≤ _; rw [List.size_toArray]; omega) hB5).mono ?_
      rintro e w6 ⟨rfl, hb6, hw6⟩
      have hsz6 := hw6.size
      have hX6 := hid (show Wr B b w w6 from HW.out.trans ((Wr.ext (Ext.trans (Ext.drew (Ext.refl _)) hx5)).trans hw6))
      have hp7 : BldI b (.pointer (some ⟨b, 0, none⟩)) := Or.inr rfl
      have hl7 : (Lib.byteCells (l ++ numsT (List.take k L)) ++ Lib.strCells ⟨(Lib.itoa n).toArray⟩).length + 1 ≤ 100000000 := (by rw [List.length_append, Lib.byteCells_length, List.length_append, Lib.strCells_length]; show _ + (Lib.itoa n).toArray.size + 1 ≤ _; rw [List.size_toArray]; omega)
      have hB7 : B ≤ w6.heap.size := by omega
      refine HK.out _ _ ?_; clear HK; (try go_frame)
      refine wpAny_done (by kernel_rfl) ?_ _
      go_wp2_with (go_at_call 99; (with_reducible refine (WriteByte_any B b _ _ _ _ hp7 hb6 hl7 hB7).mono ?_); rintro e w7 ⟨rfl, hb7, hw7⟩)
      have HB7 := hid hb7
      go_roundw
      case rel => exact ⟨k + 1, _, by go_num, by omega, .inr rfl, by rw [numsT_snoc HX.out, ← List.append_assoc, ← cells_snoc]; exact HB7.out, hX6.out.trans hw7⟩
      case measure => simp [intOf]; omega
    · obtain rfl : k = L.length := by omega
      rw [List.take_length] at hbl
      go_wp2
      go_end0
      exact ⟨rfl, p', hpI, hbl, hwr⟩
end Go.Proofs.YtdmgimfgoajmjaaGreatDoor
