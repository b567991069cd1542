/- How two moves stand; moves are sorted. -/
import Derived.Test.YtdmgimfgoajmjaaGreatDoorC21
import Derived.Shelf.SlSortCmp.WholeK
import Derived.Test.YtdmgimfgoajmjaaGreatDoorC20
import Derived.Shelf.SlSortCmp.NoneTotal
import Derived.Test.YtdmgimfgoajmjaaGreatDoorC11
import Derived.Test.YtdmgimfgoajmjaaGreatDoorC09
import Derived.Test.YtdmgimfgoajmjaaGreatDoorC22
import Derived.Test.YtdmgimfgoajmjaaGreatDoorC00
import Derived.Lib.ItoaLen
import Derived.Lib.AppendIntMem
set_option linter.unusedVariables false
set_option linter.unusedSimpArgs false
set_option maxRecDepth 100000
set_option maxHeartbeats 4000000
namespace Go.Proofs.YtdmgimfgoajmjaaGreatDoor
open Go.RowKit Go.Sort Go.Shelf
def Gro (w w' : World) : Prop := ∃ q os, w' = grow (w.drewN q) os
theorem Gro.refl (w : World) : Gro w w := ⟨0, #[], by rw [grow_empty]; rfl⟩
theorem Gro.drew {a w : World} (h : Gro a w) : Gro a w.drew := by obtain ⟨q, os, rfl⟩ := h; exact ⟨q + 1, os, rfl⟩
theorem Gro.alloc {a w : World} (h : Gro a w) (o : Obj) : Gro a (w.alloc o) := by obtain ⟨q, os, rfl⟩ := h; exact ⟨q, os ++ #[o], by rw [alloc_eq_grow, grow_grow]⟩
theorem Gro.trans {a b c : World} (h : Gro a b) (k : Gro b c) : Gro a c := by
 obtain ⟨q, os, rfl⟩ := h
 obtain ⟨q', os', rfl⟩ := k
 exact ⟨q + q', os ++ os', by simp [grow, World.drewN, Nat.add_assoc, Array.append_assoc]⟩
theorem Gro.ext {a b : World} (h : Gro a b) : Ext a b := by
 obtain ⟨q, os, rfl⟩ := h
 have h1 : ∀ (l : List Obj) (W : World), Ext a W → Ext a (grow W l.toArray) := by
  intro l
  induction l with
  | nil => intro W hW; simpa using hW
  | cons o r ih =>
    intro W hW
    have := ih (W.alloc o) (Ext.alloc hW o)
    rw [alloc_eq_grow, grow_grow] at this
    simpa using this
 have h2 : ∀ n, Ext a (a.drewN n) := by
  intro n
  induction n with
  | zero => exact Ext.refl _
  | succ n ih => exact Ext.drew ih
 have := h1 os.toList _ (h2 q)
 simpa using this
def RetG (v : Value) (w : World) (e : Ending) (w' : World) : Prop := e = .returned v ∧ Gro w w'
theorem RetG.mk' {v v' : Value} {w w' : World} (h : v' = v) (hx : Gro w w') : RetG v w (.returned v') w' := ⟨by rw [h], hx⟩
def cmpI (x y : Int) : Int := if x < y then -1 else if y < x then 1 else 0
theorem cmpI_lt {x y : Int} (h : x < y) : cmpI x y = -1 := if_pos h
theorem cmpI_gt {x y : Int} (h : y < x) : cmpI x y = 1 := by unfold cmpI; rw [if_neg (by omega), if_pos h]
theorem cmpI_eq {x y : Int} (h : ¬ x < y) (h2 : ¬ y < x) : cmpI x y = 0 := by unfold cmpI; rw [if_neg h, if_neg h2]
theorem Compare_any (x y : Int) (w : World) : Calls Tryz.prog 208 #[.int .i64 x, .int .i64 y] w (RetG (.int .i64 (cmpI x y)) w) := by
 rcases Int.lt_trichotomy x y with h | h | h
 ·have E := hid (cmpI_lt h)
  go_enter Tryz.func208, Tryz.ntmps208
  go_wp2
  go_ret; exact RetG.mk' (by rw [E.out]; rfl) (Gro.refl _)
 ·have E := hid (cmpI_eq (show ¬ x < y by omega) (by omega))
  subst h
  go_enter Tryz.func208, Tryz.ntmps208
  go_wp2
  go_ret; exact RetG.mk' (by rw [E.out]; rfl) (Gro.refl _)
 ·have E := hid (cmpI_gt h)
  have h2 : ¬ x < y := by omega
  go_enter Tryz.func208, Tryz.ntmps208
  go_wp2
  go_ret; exact RetG.mk' (by rw [E.out]; rfl) (Gro.refl _)
theorem CompareK_any (x y : Int) (w : World) : Calls Tryz.prog 209 #[.int .i64 x, .int .i64 y] w (RetG (.int .i64 (cmpI x y)) w) := by
 rcases Int.lt_trichotomy x y with h | h | h
 ·have E := hid (cmpI_lt h)
  go_enter Tryz.func209, Tryz.ntmps209
  go_wp2
  go_ret; exact RetG.mk' (by rw [E.out]; rfl) (Gro.refl _)
 ·have E := hid (cmpI_eq (show ¬ x < y by omega) (by omega))
  subst h
  go_enter Tryz.func209, Tryz.ntmps209
  go_wp2
  go_ret; exact RetG.mk' (by rw [E.out]; rfl) (Gro.refl _)
 ·have E := hid (cmpI_gt h)
  have h2 : ¬ x < y := by omega
  go_enter Tryz.func209, Tryz.ntmps209
  go_wp2
  go_ret; exact RetG.mk' (by rw [E.out]; rfl) (Gro.refl _)
def orL : List Int → Int
 | [] => 0
 | x :: r => if x = 0 then orL r else x
theorem Or_any (l : List Int) (n : Nat) (hn : n = l.length) (hle : l.length ≤ 1000) (g : Nat) (t : TypeId) (fr : Nat × Nat) (w : World) (hg : blk w g = some (.cells (ints l).toArray t fr)) : Calls Tryz.prog 207 #[.slice (some ⟨g, 0, none⟩) n n] w (RetG (.int .i64 (orL l)) w) := by
 subst hn
 have hlg := blk_lt hg
 go_enter Tryz.func207, Tryz.ntmps207
 go_wp2
 go_loop [8] (fun i => ∃ k : Nat, i = .int .i64 k ∧ k ≤ l.length ∧ orL l = orL (l.drop k)) (fun i => l.length - (intOf i).toNat)
 case atStart => exact ⟨0, rfl, by omega, rfl⟩
 case round =>
  obtain ⟨k, rfl, hk, he⟩ := hrel
  have HE := hid he
  clear he
  by_cases hlt : k < l.length
  ·obtain ⟨u, hu⟩ : ∃ u, l[k]? = some u := ⟨_, List.getElem?_eq_getElem hlt⟩
   have cg : w.cell? ⟨g, k, none⟩ = some (.int .i64 u) := by rw [blk_cell hg, List.getElem?_toArray]; exact ints_get hu
   have hd : l.drop k = u :: l.drop (k + 1) := by rw [List.drop_eq_getElem_cons hlt]; congr 1; exact Option.some.inj ((List.getElem?_eq_getElem hlt).symm.trans hu)
   have HD := hid hd
   clear hu hd hg
   by_cases h0 : u = 0
   ·have h0' : (u != 0) = false := by simp [h0]
    have H0 := hid h0
    clear h0
    go_wp2
    go_round
    case rel => exact ⟨k + 1, by go_num, by omega, by rw [HE.out, HD.out]; simp [orL, H0.out]⟩
    case measure => simp [intOf]; omega
   ·have h0' : (u != 0) = true := by simp [h0]
    have H0 := hid h0
    clear h0
    go_wp2
    go_ret
    exact RetG.mk' (vint (by rw [HE.out, HD.out]; simp [orL, H0.out])) (Gro.refl _)
  ·obtain rfl : k = l.length := by omega
   go_wp2
   go_ret
   exact RetG.mk' (vint (by rw [HE.out]; simp [orL])) (Gro.refl _)
def cmpM (a b : Mv) : Int := orL [cmpI a.fr b.fr, cmpI a.to_ b.to_, cmpI a.be b.be]
abbrev MSm.T (a b : Mv) (x y : Nat) (w W : World) : Prop := Gro w W ∧ blk W x = some (.cells (mvC a) 51 (0, 0)) ∧ blk W y = some (.cells (mvC b) 51 (0, 0)) ∧
 W.cell? ⟨x, 0, none⟩ = some (.int .i64 a.fr) ∧ W.cell? ⟨x, 1, none⟩ = some (.int .i64 a.to_) ∧ W.cell? ⟨x, 2, none⟩ = some (.int .i64 a.be) ∧ W.cell? ⟨y, 0, none⟩ = some (.int .i64 b.fr) ∧ W.cell? ⟨y, 1, none⟩ = some (.int .i64 b.to_) ∧ W.cell? ⟨y, 2, none⟩ = some (.int .i64 b.be)
def MSm (a b : Mv) (x y : Nat) (w W : World) : Prop := MSm.T a b x y w W
theorem MSm.u {a b x y w} (W) (h : MSm a b x y w W) : MSm.T a b x y w W := h
theorem MSm.mk' {a b : Mv} {x y : Nat} {w W : World} (h : Gro w W) (h1 : blk W x = some (.cells (mvC a) 51 (0, 0))) (h2 : blk W y = some (.cells (mvC b) 51 (0, 0))) : MSm a b x y w W := ⟨h, h1, h2, blk_cell h1 0, blk_cell h1 1, blk_cell h1 2, blk_cell h2 0, blk_cell h2 1, blk_cell h2 2⟩
theorem MSm.ext {a b : Mv} {x y : Nat} {w W W' : World} (h : MSm a b x y w W) (hx : Gro W W') : MSm a b x y w W' := MSm.mk' (h.1.trans hx) ((hx.ext.blk _ (blk_lt h.2.1)).trans h.2.1) ((hx.ext.blk _ (blk_lt h.2.2.1)).trans h.2.2.1)
theorem Or3_at (x y z : Int) (b : Nat) (w : World) (h : blk w b = some (.cells #[.int .i64 x, .int .i64 y, .int .i64 z] 3 (0, 0))) : Calls Tryz.prog 207 #[.slice (some ⟨b, 0, none⟩) 3 3] w (RetG (.int .i64 (orL [x, y, z])) w) := Or_any [x, y, z] 3 rfl (by simp) b _ _ w h
theorem compare_any (a b : Mv) (w : World) : Calls Tryz.prog 180 #[.agg (mvC a), .agg (mvC b)] w (RetG (.int .i64 (cmpM a b)) w) := by
 go_enter Tryz.func180, Tryz.ntmps180
 go_wp2
 have hM : MSm a b w.heap.size (w.heap.size + 1) w ((w.alloc (.cells (mvC a) 51 (0, 0))).alloc (.cells (mvC b) 51 (0, 0))) := MSm.mk' (Gro.alloc (Gro.alloc (Gro.refl _) _) _) (by simp [go_sem]) (blk_alloc_at _ _ _ (by simp))
 refine world_cut (fun W => MSm a b w.heap.size (w.heap.size + 1) w W) hM ?_
 clear hM
 intro W hM
 refine wp_region_held_drew (S := MSm a b w.heap.size (w.heap.size + 1) w) (by kernel_rfl) (hM.ext (Gro.drew (Gro.refl _))) (fun hH => ?_)
 refine hTz MSm.u 0 ?_; (try go_frame)
 refine hTz MSm.u 1 ?_; (try go_frame)
 refine hTz MSm.u 2 ?_; (try go_frame)
 refine hTz MSm.u 3 ?_; (try go_frame)
 refine hTz MSm.u 5 ?_; (try go_frame)
 refine hTz MSm.u 6 ?_; (try go_frame)
 refine hTz MSm.u 7 ?_; (try go_frame)
 refine hTz MSm.u 8 ?_; (try go_frame)
 refine hTz MSm.u 10 ?_; (try go_frame)
 refine hTz MSm.u 11 ?_; (try go_frame)
 refine hTz MSm.u 12 ?_; (try go_frame)
 refine hTz MSm.u 13 ?_; (try go_frame)
 refine hRy [4] (hCp (fun K hK => ?_) AllReadyH.nil); go_simp
 refine (Compare_any _ _ _).mono ?_
 rintro e w8 ⟨rfl, hx8⟩
 refine hK.out _ _ (hH.ext (by first | assumption | exact Gro.alloc (Gro.refl _) _)) (fun hH => ?_); clear hK; (try go_frame)
 refine hRy [9] (hCp (fun K hK => ?_) AllReadyH.nil); go_simp
 refine (Compare_any _ _ _).mono ?_
 rintro e w9 ⟨rfl, hx9⟩
 refine hK.out _ _ (hH.ext (by first | assumption | exact Gro.alloc (Gro.refl _) _)) (fun hH => ?_); clear hK; (try go_frame)
 refine hRy [14] (hCp (fun K hK => ?_) AllReadyH.nil); go_simp
 refine (CompareK_any _ _ _).mono ?_
 rintro e w10 ⟨rfl, hx10⟩
 refine hK.out _ _ (hH.ext (by first | assumption | exact Gro.alloc (Gro.refl _) _)) (fun hH => ?_); clear hK; (try go_frame)
 refine hRy [15] (hCp (fun K hK => ?_) AllReadyH.nil); go_simp
 refine hK.out _ _ (hH.ext (by first | assumption | exact Gro.alloc (Gro.refl _) _)) (fun hH => ?_); clear hK; (try go_frame)
 refine hRy [16] (hCp (fun K hK => ?_) AllReadyH.nil); go_simp
 refine (Or3_at _ _ _ _ _ (blk_alloc_at _ _ _ rfl)).mono ?_
 rintro e w11 ⟨rfl, hx11⟩
 refine hK.out _ _ (hH.ext (by first | assumption | exact Gro.alloc (Gro.refl _) _)) (fun hH => ?_); clear hK; (try go_frame)
 refine hTz MSm.u 17 ?_; (try go_frame)
 refine wpAnyH_done (by kernel_rfl) ?_ _
 go_wp2
 go_ret
 exact RetG.mk' rfl hH.1
def mvE (m : Mv) : List Value := [.int .i64 m.fr, .int .i64 m.to_, .int .i64 m.be]
theorem mvsC_flat (l : List Mv) : mvsC l = l.flatMap mvE := rfl
instance : Inhabited Mv := ⟨⟨0, 0, 0⟩⟩
theorem cmpI_neg {x y : Int} : cmpI x y < 0 ↔ x < y := by unfold cmpI; split <;> (try split) <;> omega
theorem cmpI_zero {x y : Int} : cmpI x y = 0 ↔ x = y := by unfold cmpI; split <;> (try split) <;> omega
def mvLt (a b : Mv) : Bool := decide (a.fr < b.fr ∨ (a.fr = b.fr ∧ (a.to_ < b.to_ ∨ (a.to_ = b.to_ ∧ a.be < b.be))))
theorem cmpM_lt (a b : Mv) : ltOf cmpM a b = mvLt a b := by
 have h1 := @cmpI_neg a.fr b.fr
 have h2 := @cmpI_zero a.fr b.fr
 have h3 := @cmpI_neg a.to_ b.to_
 have h4 := @cmpI_zero a.to_ b.to_
 have h5 := @cmpI_neg a.be b.be
 have h6 := @cmpI_zero a.be b.be
 unfold ltOf mvLt cmpM
 rw [decide_eq_decide]
 simp only [orL]
 split
 ·split
  ·split <;> omega
  ·omega
 ·omega
theorem mvLt_swo : SWO (ltOf cmpM) where
 irrefl x := by rw [cmpM_lt]; simp [mvLt]
 trans x y z h1 h2 := by rw [cmpM_lt] at *; simp only [mvLt, decide_eq_true_eq] at *; omega
 ntrans x y z h1 h2 := by rw [cmpM_lt] at *; simp only [mvLt, decide_eq_false_iff_not] at *; omega
theorem mvLt_tot (x y : Mv) (h1 : ltOf cmpM x y = false) (h2 : ltOf cmpM y x = false) : x = y := by
 rw [cmpM_lt] at *
 simp only [mvLt, decide_eq_false_iff_not] at *
 cases x; cases y
 simp only [Mv.mk.injEq] at *
 omega
def sortMv (l : List Mv) : List Mv := l.mergeSort fun x y => !(ltOf cmpM) y x
theorem sortMv_len (l : List Mv) : (sortMv l).length = l.length := List.length_mergeSort _
theorem sortMv_perm (l : List Mv) : (sortMv l).Perm l := List.mergeSort_perm _ _
theorem mvsC_get : ∀ (l : List Mv) (t : Nat), t < l.length * 3 → (mvsC l)[t]? = some ((mvE l[t / 3]!)[t % 3]!)
 | [], t, h => by simp at h
 | x :: r, t, h => by
   have e : mvsC (x :: r) = mvE x ++ mvsC r := by simp [mvsC, mvE]
   rw [e]
   rcases t with _ | _ | _ | t
   ·rfl
   ·rfl
   ·rfl
   ·have h' : t < r.length * 3 := by simp at h; omega
    rw [List.getElem?_append_right (by simp [mvE])]
    have e1 : (t + 1 + 1 + 1) / 3 = t / 3 + 1 := by omega
    have e2 : (t + 1 + 1 + 1) % 3 = t % 3 := by omega
    rw [e1, e2]
    have := mvsC_get r t h'
    simpa [mvE] using this
theorem flat_eq (l : List Mv) : flatK mvE 3 l.toArray = (mvsC l).toArray := by
 have hs : (flatK mvE 3 l.toArray).size = (mvsC l).toArray.size := by simp [mvsC_len]
 refine ext_get! hs fun t ht => ?_
 have ht' : t < l.toArray.size * 3 := by simpa using ht
 rw [get_flatK _ _ _ t ht']
 have h2 := mvsC_get l t (by simpa using ht')
 have h3 : (mvsC l).toArray[t]? = some ((mvE l[t / 3]!)[t % 3]!) := by simpa using h2
 rw [getElem!_def (mvsC l).toArray t, h3]
 simp
theorem take_putCellsId (cur : Array Value) (cs : List Value) (m : Nat) (hm : m = cs.length) (h : cs.length ≤ cur.size) : (putCells id 0 cs.toArray cur).toList.take m = cs := by
 subst hm
 apply List.ext_getElem?
 intro j
 by_cases hj : j < cs.length
 ·rw [List.getElem?_take_of_lt hj, Array.getElem?_toList]
  simp [putCells, hj, show j < cur.size by omega]
 ·rw [List.getElem?_take_eq_none (by omega), List.getElem?_eq_none (by omega)]
theorem compare_enters : ∀ args w, (callFunc 180 args).run Tryz.prog w = .ok (.enter 180 args) w := enters_of Tryz.func180 (by kernel_rfl) rfl
theorem mv_isAgg : ∀ w, (isAgg 51).run Tryz.prog w = .ok true w := fun w => by kernel_rfl
theorem mv_sizeOf : ∀ w, (Go.sizeOf 51).run Tryz.prog w = .ok 3 w := fun w => by kernel_rfl
theorem heap_putId {w : World} {g n : Nat} {cur : Array Value} {e : TypeId} {fr : Nat × Nat} (d : Array Value) (hb : w.heap[g]? = some (.cells cur e fr)) :
 (putRow id (Sort.ahead w n) g 0 d).heap[g]? = some (.cells (putCells id 0 d cur) e fr) := by
 simp [putRow, mapBlock, Sort.ahead, Array.getElem?_modify, hb, onCells]
theorem compare_lays (g off n : Nat) (w : World) : CmpLays Tryz.prog 180 #[] mvE 3 cmpM g off n w := fun _ _ _ _ x y => by
 refine (compare_any x y _).mono ?_
 rintro e w' ⟨rfl, h⟩
 exact ⟨rfl, h⟩
theorem SortMv_own (base : Nat) (v : Value) (l : List Mv) (w : World) (h : w.ownsRow base 51 3 v l.length (mvsC l)) (hn : l.length ≤ 1000000) :
 Calls Tryz.prog 179 #[v, .func (.func 180) #[] #[]] w fun e w' => e = .returned (.tuple #[]) ∧ w'.ownsRow base 51 3 v l.length (mvsC (sortMv l)) ∧ w.grownBy w' v.ownBlock := by
 rcases h.2 with ⟨rfl, h0⟩ | ⟨g, cap, cur, rfl, hbg, hgg, hcap, hcm, hcs, htk⟩
 ·obtain rfl : l = [] := List.eq_nil_of_length_eq_zero h0
  refine (AnyF.slices_SortFunc_none Tryz.laySortF none 0 _ w).mono ?_
  rintro e w' ⟨rfl, rfl⟩
  exact ⟨rfl, by simpa [sortMv] using h, Ext.grownNone (Ext.refl _)⟩
 ·have hH : HoldsK mvE 3 w g 0 l.toArray := by
   unfold HoldsK
   rw [flat_eq]
   intro j hj
   have hj' : j < l.length * 3 := by simpa [mvsC_len] using hj
   refine ⟨?_, by simp [World.frozen?, hgg]⟩
   have h1 : (cur.toList.take (l.length * 3))[j]? = (mvsC l)[j]? := by rw [htk]
   rw [List.getElem?_take_of_lt hj'] at h1
   rw [cell_of_row w g (0 + j) cur _ (0, 0) hgg, Nat.zero_add, ← Array.getElem?_toList, h1]
   have hj2 : j < (mvsC l).length := by rw [mvsC_len]; exact hj'
   rw [List.getElem?_eq_getElem hj2]
   simp [getElem!_pos, hj2]
  have hcon := AnyQ.slices_SortFunc_total Tryz.laySortF 3 mv_isAgg mv_sizeOf mvE (fun _ => rfl) (fun x v hv => by simp [mvE] at hv; rcases hv with rfl | rfl | rfl <;> rfl) cmpM mvLt_swo 180 #[] g 0 cap l.toArray w compare_enters (compare_lays g 0 _ w) hH (blk_lt hgg) (by simp; omega) mvLt_tot
  have hsz : l.toArray.size = l.length := by simp
  rw [hsz] at hcon
  change Calls Tryz.prog 179 _ _ _ at hcon
  refine hcon.mono ?_
  rintro e w' ⟨rfl, n, os, rfl⟩
  show _ ∧ (grow (putRowK mvE 3 (Sort.ahead w n) g 0 (sortMv l).toArray) os).ownsRow _ _ _ _ _ _ ∧ _
  have hfl : putRowK mvE 3 (Sort.ahead w n) g 0 (sortMv l).toArray = putRow id (Sort.ahead w n) g 0 (mvsC (sortMv l)).toArray := by unfold putRowK; rw [flat_eq]
  have hB : w.grownBy (putRow id (Sort.ahead w n) g 0 (mvsC (sortMv l)).toArray) (some g) := by
   refine ⟨rfl, rfl, rfl, by simp, fun k hk hne => ?_⟩
   have : g ≠ k := fun e => hne (by rw [e])
   simp [putRow, mapBlock, Sort.ahead, Array.getElem?_modify, this]
  rw [hfl]
  have hlt : g < (putRow id (Sort.ahead w n) g 0 (mvsC (sortMv l)).toArray).heap.size := by simpa using blk_lt hgg
  refine ⟨rfl, ⟨by rw [mvsC_len, sortMv_len], .inr ⟨g, cap, _, rfl, hbg, by rw [heap_grow_old _ _ hlt]; exact heap_putId _ hgg, hcap, hcm, by simp [putCells, hcs], take_putCellsId _ _ _ (by rw [mvsC_len, sortMv_len]) (by rw [mvsC_len, sortMv_len, hcs]; exact Nat.mul_le_mul_right _ hcap)⟩⟩, ?_⟩
  have hG : w.grownBy (grow (putRow id (Sort.ahead w n) g 0 (mvsC (sortMv l)).toArray) os) (some g) := by
   refine ⟨rfl, rfl, rfl, by simp [grow], fun k hk hne => ?_⟩
   rw [heap_grow_old _ _ (by simpa using hk)]
   exact hB.block k hk hne
  have e2 : sortWorldK mvE 3 w g 0 n (l.toArray.toList.mergeSort fun x y => !(ltOf cmpM) y x).toArray os = grow (putRow id (Sort.ahead w n) g 0 (mvsC (sortMv l)).toArray) os := by
   rw [← hfl]; rfl
  rw [e2]
  exact hG
end Go.Proofs.YtdmgimfgoajmjaaGreatDoor
namespace Go.Proofs.YtdmgimfgoajmjaaGreatDoor
open Go.RowKit
abbrev MvT (p : Pos) := { s : Nat // s < 64 ∧ moverB p s = true }
theorem movers_any (p : Pos) (w : World) : Calls Tryz.prog 176 #[.agg (posCells p)] w fun e w' =>
 e = .returned (.func (.func 199) #[] #[.pointer (some ⟨w.heap.size, 0, none⟩)]) ∧ Ext w w' ∧ blk w' w.heap.size = some (.cells (posCells p) 30 (0, 0)) := by
 go_enter Tryz.func176, Tryz.ntmps176
 go_wp2
 go_ret
 exact ⟨rfl, (Ext.auto), by simp [go_sem]⟩
def encM (p : Pos) (x : MvT p) : Array Value := #[.agg (moverCells p (x.1 : Int) (p.kind x.1) (p.side x.1))]
theorem movers_stops (n : Nat) (hn : 1 ≤ n) (p : Pos) (bf : Nat) (w : World) (hC : blk w bf = some (.cells (posCells p) 30 (0, 0))) :
 SeqStopsK Fence.wide n Tryz.prog 199 #[.pointer (some ⟨bf, 0, none⟩)] (encM p) (KeepP bf) (fun xs => xs.map (·.1) = moversL p 64) (fun _ => True) 64 w := fun l J Jx W hW hJ _ hY h0 => by
 refine (movers_in n hn l p bf (fun pre W => ∃ q : List (MvT p), q.map (·.1) = pre ∧ J q W) (fun pre W => ∃ q : List (MvT p), q.map (·.1) = pre ∧ Jx q W) ?_ W (fun s A B row ⟨q, e, h⟩ hg hr => ⟨q, e, hJ _ _ _ _ h hg hr⟩) ((hW.block _ (blk_lt hC)).trans hC) ⟨[], rfl, h0⟩).mono ?_
 ·rintro pre x W1 hx hm ⟨q, e, h⟩ hl
  obtain ⟨fn, tmps, assign, body, hy, hR⟩ := hY q ⟨x, hx, hm⟩ W1 h (by rw [← e] at hl; simpa using hl)
  refine ⟨fn, tmps, assign, body, hy, hR.mono ?_⟩
  rintro e' W' (⟨rfl, hJ3, hk⟩ | ⟨rfl, hJ3⟩)
  ·exact .inl ⟨rfl, ⟨_, by simp [e], hJ3⟩, hk⟩
  ·exact .inr ⟨rfl, ⟨_, by simp [e], hJ3⟩⟩
 ·rintro e W' ⟨hv, ⟨xs, hxs, q, hq, h⟩ | ⟨pre, -, q, hq, h⟩⟩
  ·exact ⟨hv, .inl ⟨q, hq.trans hxs, h⟩⟩
  ·exact ⟨hv, .inr ⟨q, trivial, h⟩⟩
def movesOf (p : Pos) (s : Nat) : List Mv := toL (s : Int) (p.kind s) (p.side s) (squaresL p (s : Int) (p.kind s) (p.side s))
def AllL (p : Pos) : List Mv := sortMv ((moversL p 64).flatMap (movesOf p))
theorem squaresL_len (p : Pos) (a k s : Int) : (squaresL p a k s).length ≤ 1000 := by
 have h1 := FromL_len p a
 have h2 := castlingsL_len p a k s
 have h3 := List.length_filter_le (fun t => !ownB p s t) (FromL p a)
 have h4 := List.length_filter_le (pawnTakes p s) (FromL p a)
 unfold squaresL stepsL
 split
 ·simp only [List.length_append]
  split <;> split <;> simp <;> omega
 ·simp only [List.length_append]; omega
theorem movesOf_len (p : Pos) (s : Nat) : (movesOf p s).length ≤ 4000 := by
 have h1 := toL_len (s : Int) (p.kind s) (p.side s) (squaresL p (s : Int) (p.kind s) (p.side s))
 have h2 := squaresL_len p (s : Int) (p.kind s) (p.side s)
 unfold movesOf; omega
def rawL (p : Pos) (q : List (MvT p)) : List Mv := (q.map (·.1)).flatMap (movesOf p)
theorem rawL_snoc (p : Pos) (q : List (MvT p)) (x : MvT p) : rawL p (q ++ [x]) = rawL p q ++ movesOf p x.1 := by simp [rawL]
theorem rawL_len (p : Pos) (q : List (MvT p)) : (rawL p q).length ≤ q.length * 4000 := by
 induction q with
 | nil => simp [rawL]
 | cons x r ih =>
   have := movesOf_len p x.1
   simp only [rawL, List.map_cons, List.flatMap_cons, List.length_append, List.length_cons] at *; omega
theorem moverB_side {p : Pos} {s : Nat} (h : moverB p s = true) : p.side s = 0 ∨ p.side s = 1 := by
 simp only [moverB, decide_eq_true_eq] at h
 exact h.2.2.1
structure InvA (p : Pos) (w : World) (B0 : Nat) (q : List (MvT p)) (v : Value) (W : World) : Prop where
 o : blk W (w.heap.size + 1) = some (.cells #[v] 45 (0, 0))
 r : W.ownsRow B0 51 3 v (rawL p q).length (mvsC (rawL p q))
 x : Below w.heap.size w W
 n : B0 ≤ W.heap.size
abbrev MSa.T (p : Pos) (x : Nat) (v : Value) (b bo : Nat) (W W' : World) : Prop := Ext W W' ∧ blk W' bo = some (.cells #[v] 45 (0, 0)) ∧ blk W' b = some (.cells (moverCells p (x : Int) (p.kind x) (p.side x)) 219 (0, 0)) ∧ W'.cell? ⟨bo, 0, none⟩ = some v
def MSa (p : Pos) (x : Nat) (v : Value) (b bo : Nat) (W W' : World) : Prop := MSa.T p x v b bo W W'
theorem MSa.u {p x v b bo W} (W') (h : MSa p x v b bo W W') : MSa.T p x v b bo W W' := h
theorem MSa.mk' {p : Pos} {x : Nat} {v : Value} {b bo : Nat} {W W' : World} (h : Ext W W') (h1 : blk W' bo = some (.cells #[v] 45 (0, 0))) (h2 : blk W' b = some (.cells (moverCells p (x : Int) (p.kind x) (p.side x)) 219 (0, 0))) : MSa p x v b bo W W' := ⟨h, h1, h2, blk_cell h1 0⟩
theorem MSa.ext {p : Pos} {x : Nat} {v : Value} {b bo : Nat} {W W' W'' : World} (h : MSa p x v b bo W W') (hx : Ext W' W'') : MSa p x v b bo W W'' := MSa.mk' (h.1.trans hx) ((hx.blk _ (blk_lt h.2.1)).trans h.2.1) ((hx.blk _ (blk_lt h.2.2.1)).trans h.2.2.1)
@[go_sem ↓] theorem store_moves_mover (ρ : Operand → Value) (dst : Option Tmp) (x y : Operand) (ty : TypeId) (pos : String) (af : Array Edge) (g : Option (Nat × Bool)) (w : World) :
 (execOp ρ ⟨dst, .store 219 x y, ty, pos, af, g⟩).run Tryz.prog w = storeSub 136 (ρ x) (ρ y) w (dfltStore Tryz.prog 219 (ρ x) (ρ y) w) :=
  exec_store_sub (by kernel_rfl) ρ dst x y ty pos af g w
@[go_sem] theorem zm_size : (Tryz.zeroCells219).size = 136 := by kernel_rfl
@[go_sem] theorem rowOk_mover (p : Pos) (a k s : Int) : rowOk (moverCells p a k s) = true := by
  have h := posCells_one p
  unfold rowOk at h ⊢
  rw [moverCells_eq, Array.all_append, h]
  simp [Value.oneCell']
theorem own_cells {w : World} {base e size n : Nat} {v : Value} {xs : List Value} (h : w.ownsRow base e size v n xs) {b : Nat} (hb : v.ownBlock = some b) : base ≤ b ∧ ∃ cur, w.heap[b]? = some (.cells cur e (0, 0)) := by
 rcases h.2 with ⟨rfl, _⟩ | ⟨g, cap, cur, rfl, hbg, hgg, _⟩
 ·cases hb
 ·cases hb; exact ⟨hbg, cur, hgg⟩
theorem own_grown {w w' : World} {base e size n : Nat} {v : Value} {xs : List Value} (h : w.ownsRow base e size v n xs) {row : Option Nat} (hg : w.grownBy w' row) (hr : ∀ r, row = some r → ∃ o : Obj, w.heap[r]? = some o ∧ o.isCells = false) : w'.ownsRow base e size v n xs :=
 own_blocks h fun b hb => by
  obtain ⟨_, cur, hc⟩ := own_cells h hb
  refine hg.block b (Array.getElem?_eq_some_iff.1 hc).1 (fun e => ?_)
  obtain ⟨o, ho, hn⟩ := hr b e.symm
  rw [hc] at ho; cases ho; cases hn
theorem own_keeps {w w' : World} {base e size n : Nat} {v : Value} {xs : List Value} (h : w.ownsRow base e size v n xs) (hg : w.grownBy w' v.ownBlock) (B : Nat) : KeepsFrom B w w' := ⟨hg.size, fun k o _ hk ho => by
 refine (hg.block k (Array.getElem?_eq_some_iff.1 hk).1 (fun e => ?_)).trans hk
 obtain ⟨_, cur, hc⟩ := own_cells h e.symm
 rw [hc] at hk; cases hk; cases ho⟩
theorem Ext.keeps {W W' : World} (h : Ext W W') (B : Nat) : KeepsFrom B W W' := ⟨h.le, fun k _ _ hk _ => (h.block k (Array.getElem?_eq_some_iff.1 hk).1).trans hk⟩
theorem All_any (p : Pos) (w : World) : Calls Tryz.prog 154 #[.agg (posCells p)] w (RetMvs (AllL p) w) := by
 refine (callsIn_wide (n := 5)).1 (callsIn_of_wp_marks Tryz.func154 rfl trivial ?_ rfl)
 simp only [Tryz.ntmps154, List.size_toArray, List.length_cons, List.length_nil, Nat.reduceAdd, Nat.reduceSub, Array.replicate_succ, Array.replicate_zero, List.push_toArray, List.append_toArray, List.nil_append, List.cons_append]
 refine wpIn_wide.2 ?_
 go_wp2_with (go_at_call 176; (with_reducible refine (movers_any _ _).mono ?_); rintro e w1 ⟨rfl, hx1, hC⟩)
 have hlw := hx1.le
 simp only [World.size_alloc] at hlw
 have hbo : blk w1 (w.heap.size + 1) = some (.cells #[.slice none 0 0] 45 (0, 0)) := (hx1.blk _ (by simp)).trans (by simp [go_sem])
 have hEx : Ext w w1 := Ext.trans (Ext.auto) hx1
 refine (wpIn_wide (n := 5)).1 ?_
 simp only [World.size_alloc] at hC ⊢
 refine wpIn_rangeFunc_ownH rfl (by decide) (gf := 199) (lb := #[.pointer (some ⟨w.heap.size + 1 + 1, 0, none⟩)]) rfl trivial (enters_of Tryz.func199 (by kernel_rfl) rfl)
  (movers_stops 4 (by decide) p _ w1 hC) (fun h k => ⟨Nat.le_trans h.1 k.1, k.2.trans h.2⟩) ?kb (Below.refl _ _) (fun _ => rfl)
  (fun q W => ∃ v, InvA p w w1.heap.size q v W) (fun _ _ _ => False) ?own (fun _ _ _ _ _ hs _ _ => hs) ⟨_, hbo, World.ownsRow_nil _ _ _ _, hEx, Nat.le_refl _⟩
  (fun x a' W => ∃ b, w1.heap.size ≤ b ∧ blk W b = some (.cells (moverCells p (x.1 : Int) (p.kind x.1) (p.side x.1)) 219 (0, 0)) ∧ a' = { tmps := #[.agg (posCells p), .pointer (some ⟨w.heap.size, 0, none⟩), .pointer (some ⟨w.heap.size + 1, 0, none⟩), .pointer (some ⟨b, 0, none⟩), .agg (posCells p), .func (.func 199) #[] #[.pointer (some ⟨w.heap.size + 1 + 1, 0, none⟩)], .agg (moverCells p (x.1 : Int) (p.kind x.1) (p.side x.1)), undef, undef, undef, undef, undef, undef, undef, undef, undef], defers := [] })
  ?ownA ?assign ?body ?done ?stop
 case kb =>
  intro W l o o' hl _ _ _
  have hlt2 := blk_lt hC
  exact ⟨(grownBy_putObj' W l o').size, World.putObj_heap_other (by omega)⟩
 case own =>
  rintro q A B row ⟨v, hI⟩ hg hr
  refine ⟨v, (hg.block _ (blk_lt hI.o) (fun e => by have := (hr _ e.symm).1; omega)).trans hI.o, own_grown hI.r hg (fun r e => (hr r e).2), hI.x.grown hg hI.x.size (fun r e => by have := (hr r e).1; omega), Nat.le_trans hI.n hg.size⟩
 case ownA =>
  rintro x a' _ A B row ⟨b, hb, hbb, rfl⟩ hg hr
  refine ⟨b, hb, (hg.block _ (blk_lt hbb) (fun e => ?_)).trans hbb, rfl⟩
  obtain ⟨_, o, ho, hn⟩ := hr b e.symm
  rw [show A.heap[b]? = _ from hbb] at ho; cases ho; cases hn
 case assign =>
  rintro l pre x W K ⟨v, hI⟩ hK
  have hA : Ext W (W.alloc (.cells (moverCells p (x.1 : Int) (p.kind x.1) (p.side x.1)) 219 (0, 0))) := Ext.alloc (Ext.refl _) _
  have hle := hI.n
  have hlt2 := blk_lt hC
  unfold encM
  gi_wp2_with (rw [Oper.semAt_eq _ _ _ (fun c h => by cases h)]; go_simp)
  exact hK _ _ (hA.keeps _) ⟨by simp, hA.blk _ (by omega)⟩ ⟨v, (hA.blk _ (blk_lt hI.o)).trans hI.o, own_ext hI.r hA, Below.trans hI.x (Below.mono hA hI.x.size), by simp; omega⟩ ⟨W.heap.size, hle, blk_alloc_at _ _ _ rfl, rfl⟩
 case body =>
  rintro l q0 x a' W hl ⟨r, hr⟩ ⟨v, hI⟩ ⟨b, hb, hbb, rfl⟩ hlt
  gi_wp2
  refine wpIn_round_split 5 (MSa p x.1 v b (w.heap.size + 1) W) _ _ (by rintro ⟨_, _, h⟩; exact h) (by kernel_rfl) (by kernel_rfl) (by kernel_rfl) ((MSa.mk' (Ext.refl _) hI.o hbb).ext (Ext.drew (Ext.refl _))) (fun hH => ?_)
  simp only [List.take_succ_cons, List.take_zero, List.drop_succ_cons, List.drop_zero]
  refine hTz MSa.u 0 ?_; (try go_frame)
  refine hTz MSa.u 1 ?_; (try go_frame)
  refine hTz MSa.u 2 ?_; (try go_frame)
  refine hRy [3] (hCp (fun K hK => ?_) AllReadyH.nil); go_simp
  refine (squares_any p _ _ _ _ (by omega) (by have := x.2.1; omega) rfl (moverB_side x.2.2)).mono ?_
  rintro e w8 ⟨v8, rfl, hown8, hx8⟩
  refine hK.out _ _ (hH.ext (by first | assumption | exact Ext.alloc (Ext.refl _) _)) (fun hH => ?_); clear hK; (try go_frame)
  refine hRy [4] (hCp (fun K hK => ?_) AllReadyH.nil); go_simp
  refine (to_any p _ _ _ _ _ _ (moverB_side x.2.2) (Sl.of_own hown8) (squaresL_len _ _ _ _)).mono ?_
  rintro e w9 ⟨v9, rfl, hown9', hx9⟩
  refine hK.out _ _ (hH.ext (by first | assumption | exact Ext.alloc (Ext.refl _) _)) (fun hH => ?_); clear hK; (try go_frame)
  refine wpAnyH_done (by kernel_rfl) ?_ _
  simp only [splitQ]
  have hown9 := own_ext hI.r hH.1
  have hbo9 := hH.2.1
  have hlq := rawL_len p q0
  refine wpList_append_sl Tryz.underlying45 info_mv rfl (by decide) (by decide) rfl _ _ rfl w1.heap.size v _ _ rfl hown9 v9 _ (mvsC (movesOf p x.1)) rfl (Sl.of_own hown9') (mvs_one _) ?len ?base (fun v' w2 hown2 hg2 hf2 => ?_)
  case len =>
   exact Nat.le_trans (Nat.add_le_add hlq (movesOf_len p x.1)) (by omega)
  case base => exact Nat.le_trans hI.n hH.1.le
  obtain ⟨av, capv, rfl⟩ := (Sl.of_own hown2).form
  have hbo2 : blk w2 (w.heap.size + 1) = some (.cells #[v] 45 (0, 0)) := (hg2.block _ (blk_lt hbo9) (fun e => by have := (own_cells hown9 e.symm).1; omega)).trans hbo9
  have hc2 := blk_cell hbo2 0
  have hf3 := blk_froz hbo2 0
  simp only [List.getElem?_toArray, List.getElem?_cons_zero] at hc2
  go_wp2
  have hS := hown2
  have hbf := blk_lt hC
  have hlb2 := blk_lt hbo2
  have hxW := Below.trans hI.x (Below.mono hH.1 hI.x.size)
  have hn9 := hH.1.le
  have hnI := hI.n
  have hx2 : Ext w w2 := Ext.grown hxW (own_base hown9 (by omega)) hg2
  have hsz := (grownBy_setCell' w2 (w.heap.size + 1) (.slice av ((rawL p q0).length + (toL (x.1 : Int) (p.kind x.1) (p.side x.1) (squaresL p (x.1 : Int) (p.kind x.1) (p.side x.1))).length) capv)).size
  have hg2s := hg2.size
  refine ⟨((hH.1.keeps _).trans (own_keeps hown9 hg2 _)).trans ((KeepsOthers.setCell _ _ _).from _), ⟨by omega, ?k2⟩, _, blk_setCell_same _ _ _ _ _ _ hbo2, ?k4, Ext.set hx2 (by simp) _, by omega⟩
  case k2 =>
   rw [blk_setCell_past _ _ _ _ (by simp)]
   exact (hg2.block _ (by omega) (fun e => by have := (own_cells hown9 e.symm).1; omega)).trans (hH.1.blk _ (by omega))
  case k4 =>
   rw [rawL_snoc, List.length_append, mvsC_append]
   exact own_set hown2 (by show w.heap.size + 1 < _; omega) _
 case done =>
  rintro D xs W hD hxs ⟨v, hI⟩ hK
  have hL : rawL p xs = (moversL p 64).flatMap (movesOf p) := by unfold rawL; rw [hxs]
  have hle := rawL_len p xs
  have hml := moversL_len p 64
  have hxl : xs.length ≤ 64 := by rw [← hxs] at hml; simpa using hml
  have hr := hI.r
  have ho := hI.o
  have hxx := hI.x
  clear hI hxs hml
  generalize rawL p xs = L at hL hle hr
  have HL := hid hL
  clear hL
  have hLn : L.length ≤ 1000000 := by omega
  clear hle hxl
  have hc2 := blk_cell ho 0
  have hf2 := blk_froz ho 0
  simp only [List.getElem?_toArray, List.getElem?_cons_zero] at hc2
  obtain ⟨av, capv, rfl⟩ := (Sl.of_own hr).form
  have hbf := blk_lt hC
  have hlo := blk_lt ho
  have HK := hid hK
  have HO := hid ho
  clear hK ho hbo
  go_wp2_with (go_at_call 179; (with_reducible refine (SortMv_own w1.heap.size _ L _ hr hLn).mono ?_); rintro e w3 ⟨rfl, hown3, hg3⟩; have hbo3 : blk w3 (w.heap.size + 1) = _ := (hg3.block _ hlo (fun e => by have := (own_cells hr e.symm).1; omega)).trans HO.out; have hc3 := blk_cell hbo3 0; have hf3 := blk_froz hbo3 0; simp only [List.getElem?_toArray, List.getElem?_cons_zero] at hc3)
  have hDl := (Array.getElem?_eq_some_iff.1 HK.out).1
  have hK3 : w3.heap[D]? = some (.deferred (some [])) := (hg3.block _ hDl (fun e => by obtain ⟨_, cur, hc⟩ := own_cells hr e.symm; rw [HK.out] at hc; cases hc)).trans HK.out
  have hK4 : (w3.setCell ⟨w.heap.size + 1, 0, none⟩ (.slice av L.length capv)).heap[D]? = some (.deferred (some [])) := (blk_setCell_past w3 _ _ D (by simp; omega)).trans hK3
  have hown4 := own_set hown3 (a := ⟨w.heap.size + 1, 0, none⟩) (by show w.heap.size + 1 < _; omega) (.slice av L.length capv)
  have hc4 : (w3.setCell ⟨w.heap.size + 1, 0, none⟩ (.slice av L.length capv)).cell? ⟨w.heap.size + 1, 0, none⟩ = some (.slice av L.length capv) := World.cell?_setCell_same' _ _ _ (by rw [hc3]; rfl)
  have hx3 : Ext w w3 := Ext.grown hxx (own_base hr (by omega)) hg3
  have hx4 : Ext w (w3.setCell ⟨w.heap.size + 1, 0, none⟩ (.slice av L.length capv)) := Ext.set hx3 (by simp) _
  have hown5 := own_blocks hown4 (w' := (w3.setCell ⟨w.heap.size + 1, 0, none⟩ (.slice av L.length capv)).putObj D (.deferred none)) (fun b hb => World.putObj_heap_other (fun e => by
   obtain ⟨_, cur, hc⟩ := own_cells hown4 hb
   rw [e, hK4] at hc; cases hc))
  have hc5 : ((w3.setCell ⟨w.heap.size + 1, 0, none⟩ (.slice av L.length capv)).putObj D (.deferred none)).cell? ⟨w.heap.size + 1, 0, none⟩ = some (.slice av L.length capv) := (World.cell?_of_block (World.putObj_heap_other (by show w.heap.size + 1 ≠ D; omega))).trans hc4
  have hx5 : Ext w ((w3.setCell ⟨w.heap.size + 1, 0, none⟩ (.slice av L.length capv)).putObj D (.deferred none)) := Below.grown hx4 (grownBy_putObj' _ D _) hx4.size (fun k hk => by have e := Option.some.inj hk; omega)
  have hAL : AllL p = sortMv L := by unfold AllL; rw [← HL.out]
  refine ⟨by simp, .inl ⟨_, _, rfl, run_takeDeferred hK4, ?_⟩⟩
  refine ⟨.slice av L.length capv, ?_, ?_⟩
  ·simp [results, Tryz.f154, go_sem, hc5]
  ·refine ⟨_, rfl, ?_, hx5⟩
   rw [hAL, sortMv_len]
   exact own_base hown5 (by omega)
 case stop =>
  rintro D c pre W _ _ h _
  exact h.elim
theorem Wr.low {B b : Nat} {a c : World} (h : Wr B b a c) (hb : B ≤ b) (hB : B ≤ a.heap.size) : Below B a c :=
 ⟨h.os, h.tape, h.output, h.size, fun k hk => h.keep k (by omega) (by omega) (.inl hk)⟩
theorem Bld.ext {T : TypeId} {B b : Nat} {p : Value} {bs : List Value} {w w' : World} (h : Bld T B b p bs w) (hx : Ext w w') : Bld T B b p bs w' := by
 obtain ⟨v, h1, h2, h3⟩ := h.st
 exact ⟨h.hB, v, (hx.blk _ (blk_lt h1)).trans h1, own_ext h2 hx, h3⟩
def Tab10 (B : Nat) (w : World) : Prop := Lib.TabBelow Tryz.prog B w "internal/strconv.uint64pow10" .u64 Lib.pow10Tab
theorem numsT_len {l : List Int} (h : ∀ n ∈ l, -9223372036854775808 ≤ n ∧ n ≤ 9223372036854775807) : (numsT l).length ≤ 22 * l.length := by
 induction l with
 | nil => simp [numsT]
 | cons n r ih =>
   have h1 := Lib.itoa_length_le n (h n List.mem_cons_self).1 (h n List.mem_cons_self).2
   have h2 := ih (fun m hm => h m (List.mem_cons_of_mem _ hm))
   simp only [numsT, List.flatMap_cons, List.length_append, List.length_cons, List.length_nil] at h2 ⊢
   omega
theorem numsT_snoc {l : List Int} {k : Nat} {n : Int} (h : l[k]? = some n) : numsT (l.take (k + 1)) = numsT (l.take k) ++ (Lib.itoa n ++ [32]) := by
 rw [List.take_add_one, h]; simp [numsT]
theorem cells_snoc (l : List UInt8) (n : Int) : Lib.byteCells l ++ Lib.strCells ⟨(Lib.itoa n).toArray⟩ ++ [.int .u8 32] = Lib.byteCells (l ++ (Lib.itoa n ++ [32])) := by
 simp [Lib.byteCells, Lib.strCells]
theorem ints_at {L : List Int} {k : Nat} {n : Int} (h : L[k]? = some n) : (ints L).toArray[k]? = some (.int .i64 n) := by
 simp [ints, h]
theorem numbers_any (B b g cap : Nat) (p : Value) (l : List UInt8) (L : List Int) (w : World) (hp : BldI b p) (h : Bld 108 B b p (Lib.byteCells l) w) (hg : blk w g = some (.cells (ints L).toArray 3 (0, 0))) (hgb : g ≠ b)
 (hn : ∀ n ∈ L, -9223372036854775808 ≤ n ∧ n ≤ 9223372036854775807) (hlen : l.length + 22 * L.length ≤ 1000000) (hBw : B ≤ w.heap.size) (ht : Tab10 B w) :
 Calls Tryz.prog 62 #[.pointer (some ⟨b, 0, none⟩), .slice (some ⟨g, 0, none⟩) L.length cap] w (fun e w' => e = .returned (.tuple #[]) ∧ ∃ p', BldI b p' ∧ Bld 108 B b p' (Lib.byteCells (l ++ numsT L)) w' ∧ Wr B b w w') := by
 have hB := h.hB
 go_enter Tryz.func62, Tryz.ntmps62
 go_wp2
 go_loopw [8] (fun i wr => ∃ (k : Nat) (p' : Value), i = .int .i64 k ∧ k ≤ L.length ∧ BldI b p' ∧ Bld 108 B b p' (Lib.byteCells (l ++ numsT (L.take k))) wr ∧ Wr B b w wr) (fun i _ => L.length - (intOf i).toNat)
 case atStart => exact ⟨0, p, rfl, by omega, hp, by simpa [numsT] using h, Wr.refl _ _ _⟩
 case round =>
  obtain ⟨k, p', rfl, hk, hpI, hbl, hwr⟩ := hrel
  by_cases hlt : k < L.length
  ·obtain ⟨n, hx⟩ : ∃ n, L[k]? = some n := ⟨_, List.getElem?_eq_getElem hlt⟩
   obtain ⟨n0, n1⟩ := hn n (List.mem_of_getElem? hx)
   have hgr : blk wr g = some (.cells (ints L).toArray 3 (0, 0)) := (hwr.keep g (blk_lt hg) hgb (.inr (fun cs fr e => by rw [hg] at e; injection e with e; injection e with _ e; exact absurd e (by decide)))).trans hg
   have d0 := (blk_cell hgr k).trans (ints_at hx)
   have lk : (numsT (L.take k)).length ≤ 22 * k := by
    have := numsT_len (l := L.take k) (fun m hm => hn m (List.mem_of_mem_take hm))
    rw [List.length_take] at this; omega
   have li := Lib.itoa_length_le n n0 n1
   have hsz := hwr.size
   have ht2 : Tab10 B wr := ht.on (hwr.low hB hBw)
   have HX := hid hx
   have HW := hid hwr
   clear hx hgr
   go_wp2
   refine wp_region_any (by kernel_rfl) ?_
   refine aTk 0 ?_; (try go_frame)
   refine aTk 1 ?_; (try go_frame)
   refine aTk 2 ?_; (try go_frame)
   refine aTk 3 ?_; (try go_frame)
   refine aRy [4] (aCo (fun K hK => ?_) AllReady.nil)
   have HK := hid hK
   clear hK
   go_simp
   refine (Tryz.strconv_Itoa n n0 n1 _ (ht2 _ (Below.drew (Below.refl _ _)))).mono ?_
   rintro e w5 ⟨rfl, hgro⟩
   have hx5 := Gro.ext hgro
   have hb5 : Bld 108 B b p' (Lib.byteCells (l ++ numsT (L.take k))) w5 := hbl.ext (Ext.trans (Ext.drew (Ext.refl _)) hx5)
   have hB5 : B ≤ w5.heap.size := (by have := hx5.le; rw [size_drew] at this; omega)
   refine HK.out _ _ ?_; clear HK; (try go_frame)
   refine aRy [5] (aCo (fun K hK => ?_) AllReady.nil)
   have HK := hid hK
   clear hK
   go_simp
   refine (WriteString_any B b p' _ _ _ hpI hb5 (by rw [Lib.byteCells_length, List.length_append]; show _ + (Lib.itoa n).toArray.size ≤ _; rw [List.size_toArray]; omega) hB5).mono ?_
   rintro e w6 ⟨rfl, hb6, hw6⟩
   have hsz6 := hw6.size
   have hX6 := hid (show Wr B b w w6 from HW.out.trans ((Wr.ext (Ext.trans (Ext.drew (Ext.refl _)) hx5)).trans hw6))
   have hp7 : BldI b (.pointer (some ⟨b, 0, none⟩)) := Or.inr rfl
   have hl7 : (Lib.byteCells (l ++ numsT (List.take k L)) ++ Lib.strCells ⟨(Lib.itoa n).toArray⟩).length + 1 ≤ 100000000 := (by rw [List.length_append, Lib.byteCells_length, List.length_append, Lib.strCells_length]; show _ + (Lib.itoa n).toArray.size + 1 ≤ _; rw [List.size_toArray]; omega)
   have hB7 : B ≤ w6.heap.size := by omega
   refine HK.out _ _ ?_; clear HK; (try go_frame)
   refine wpAny_done (by kernel_rfl) ?_ _
   go_wp2_with (go_at_call 99; (with_reducible refine (WriteByte_any B b _ _ _ _ hp7 hb6 hl7 hB7).mono ?_); rintro e w7 ⟨rfl, hb7, hw7⟩)
   have HB7 := hid hb7
   go_roundw
   case rel => exact ⟨k + 1, _, by go_num, by omega, .inr rfl, by rw [numsT_snoc HX.out, ← List.append_assoc, ← cells_snoc]; exact HB7.out, hX6.out.trans hw7⟩
   case measure => simp [intOf]; omega
  ·obtain rfl : k = L.length := by omega
   rw [List.take_length] at hbl
   go_wp2
   go_end0
   exact ⟨rfl, p', hpI, hbl, hwr⟩
end Go.Proofs.YtdmgimfgoajmjaaGreatDoor
