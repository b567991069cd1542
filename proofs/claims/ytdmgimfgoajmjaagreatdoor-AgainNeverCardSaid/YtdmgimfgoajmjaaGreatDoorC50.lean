/- The chapter's example, in the program. -/
import Derived.Test.YtdmgimfgoajmjaaGreatDoorC47
import Derived.Test.YtdmgimfgoajmjaaGreatDoorC49
import Derived.Test.YtdmgimfgoajmjaaGreatDoorC46
import Derived.Test.YtdmgimfgoajmjaaGreatDoorC43
import Derived.Test.YtdmgimfgoajmjaaGreatDoorC42
import Derived.Test.YtdmgimfgoajmjaaGreatDoorC39
set_option linter.unusedVariables false
set_option linter.unusedSimpArgs false
namespace Go.Proofs.YtdmgimfgoajmjaaGreatDoor
open Go.RowKit Go.Maps
theorem SlP.one {w : World} {g : Nat} {p : Pos} {T : TypeId} {c : Nat} (h : blk w g = some (.cells (posCells p) T (0, 0))) : SlP w (.slice (some ⟨g, 0, none⟩) 1 c) [p] := by
  refine .inr ⟨g, 0, c, posCells p, T, (0, 0), rfl, h, fun k x hx => ?_⟩
  have hk := (List.getElem?_eq_some_iff.1 hx).1
  simp at hk
  subst hk
  simp at hx
  subst hx
  refine ⟨by rw [posCells_size]; omega, ?_⟩
  apply Array.ext_getElem?
  intro j
  rw [Array.getElem?_extract]
  by_cases hj : j < 133
  · rw [if_pos (by rw [posCells_size]; omega)]; congr 1; omega
  · rw [if_neg (by rw [posCells_size]; omega), Array.getElem?_eq_none (by rw [posCells_size]; omega)]
def awC : Array Value := #[.int .i64 6, .int .i64 21, .int .i64 0, .int .i64 62, .int .i64 45, .int .i64 0, .int .i64 21, .int .i64 6, .int .i64 0, .int .i64 45, .int .i64 62, .int .i64 0]
theorem aw_sl {W : World} {g k : Nat} {T : TypeId} (hk : k < 4) (h : blk W g = some (.cells awC T (0, 0))) : Sl W 3 (.slice (some ⟨g, k * 3, none⟩) 1 (4 - k)) 1 (mvsC [awM k]) := by
  refine ⟨by rw [mvsC_len]; rfl, .inr ⟨g, k * 3, 4 - k, rfl, blk_lt h, fun j u hu => ?_⟩⟩
  have hj := (List.getElem?_eq_some_iff.1 hu).1
  rw [mvsC_len] at hj
  simp at hj
  rw [blk_cell h]
  rcases (by omega : k = 0 ∨ k = 1 ∨ k = 2 ∨ k = 3) with rfl | rfl | rfl | rfl <;> rcases (by omega : j = 0 ∨ j = 1 ∨ j = 2) with rfl | rfl | rfl <;> exact hu
set_option maxRecDepth 100000 in
set_option maxHeartbeats 4000000 in
theorem Awake_any (w : World) (ht : Tab10 w.heap.size w) : Calls Tryz.prog 12 #[] w (Ret (.bool true) w) := by
  have HN : ∀ W g, blk W g = some (.cells (posCells startP) 30 (0, 0)) → Ext w W → Calls Tryz.prog 13 #[.slice (some ⟨g, 0, none⟩) 1 1] W (fun e w' => ∃ b m D, e = .returned (.pointer (some ⟨b, 0, none⟩)) ∧ W.heap.size ≤ b ∧ W.heap.size ≤ m ∧ b ≠ m ∧ blk w' b = some (.cells #[.map (some m)] 101 (0, 0)) ∧ Cnt w' m 1 D ∧ Good D (awL 0) ∧ Ext W w') :=
    fun W g h1 h2 => New_any _ [startP] W (SlP.one h1) (by simp) (awL_rng (k := 0) (by omega)) (ht.up h2)
  go_enter Tryz.func12, Tryz.ntmps12
  go_upto_block 0 with (first
    | (go_at_call 26; (with_reducible refine (rStart_any _).mono ?_); rintro e w1 ⟨rfl, hx1⟩)
    | (go_at_call 13; (with_reducible refine (HN _ _ ?c0 ?c1).mono (fun e w2 h2 => ?_)); rotate_left 2; obtain ⟨b, m, D0, rfl, lb, lm, hbm, hb2, hcn, hgd, hx2⟩ := h2))
  case c0 => simp [go_sem]
  case c1 => exact Ext.auto
  have hp2 : blk w2 w1.heap.size = some (.cells (posCells startP) 30 (0, 0)) := (hx2.blk _ (by simp; omega)).trans (by simp [go_sem])
  have hE2 : Ext w w2 := Ext.trans (Ext.auto) hx2
  have lb' : w1.heap.size < b := by simp at lb; omega
  have lm' : w1.heap.size < m := by simp at lm; omega
  have l1 := hx1.le
  generalize w1.heap.size = pb at *
  clear hx1 hx2 lb lm HN
  go_wp2
  go_loopw [3] (fun i wr => ∃ (k : Nat) (D : DataW Unit), i = .int .i64 k ∧ k ≤ 4 ∧ blk wr pb = some (.cells (posCells (aw k)) 30 (0, 0)) ∧ blk wr b = some (.cells #[.map (some m)] 101 (0, 0)) ∧ Cnt wr m (k + 1) D ∧ Good D (awL k) ∧ Ext w wr) (fun i _ => 4 - (intOf i).toNat)
  case atStart => exact ⟨0, D0, rfl, by omega, hp2, hb2, hcn, hgd, hE2⟩
  case round =>
    obtain ⟨k, D, rfl, hk, hp, hb, hc, hg, hxr⟩ := hrel
    clear hp2 hb2 hcn hgd hE2
    by_cases hlt : k < 4
    · go_upto_region 7 with (fail)
      have hE1 : Ext wr (wr.alloc (.cells #[.int .i64 6, .int .i64 21, .int .i64 0, .int .i64 62, .int .i64 45, .int .i64 0, .int .i64 21, .int .i64 6, .int .i64 0, .int .i64 45, .int .i64 62, .int .i64 0] 51)) := Ext.alloc (Ext.refl wr) _
      have hl1 := blk_alloc_at wr (.cells #[.int .i64 6, .int .i64 21, .int .i64 0, .int .i64 62, .int .i64 45, .int .i64 0, .int .i64 21, .int .i64 6, .int .i64 0, .int .i64 45, .int .i64 62, .int .i64 0] 51) _ rfl
      have hp1 := (hE1.blk _ (blk_lt hp)).trans hp
      have hb1 := (hE1.blk _ (blk_lt hb)).trans hb
      have hc1 := hc.ext hE1
      have hx1 := hxr.trans hE1
      have hlp := blk_lt hp1
      have hnp : pb ≠ wr.heap.size := Nat.ne_of_lt (blk_lt hp)
      generalize wr.alloc (.cells #[.int .i64 6, .int .i64 21, .int .i64 0, .int .i64 62, .int .i64 45, .int .i64 0, .int .i64 21, .int .i64 6, .int .i64 0, .int .i64 45, .int .i64 62, .int .i64 0] 51) = W0 at *
      have hwr : IntKind.i64.wrap ((k : Int) + 1) = (k : Int) + 1 := by simp [IntKind.wrap, IntKind.signed, IntKind.bits]; omega
      have hs1 : 0 ≤ (k : Int) + 1 := by omega
      have hs2 : (k : Int) + 1 ≤ 4 := by omega
      have hs3 : (4 = k) = False := by simp; omega
      generalize wr.heap.size = g at *
      clear hE1 hp hb hc hxr
      have hPL : Calls Tryz.prog 60 #[.agg (posCells (aw k)), .slice (some ⟨g, k * 3, none⟩) 1 (4 - k)] W0.drew (Ret (.tuple #[.agg (posCells (aw (k + 1))), .int .i64 0]) W0.drew) := by
        have := rPlay_any (aw k) [awM k] _ W0.drew (aw_sl hlt (show blk W0.drew g = some (.cells awC 51 (0, 0)) from hl1)) (by simp)
        rw [aw_play hlt] at this
        exact this
      have HG := hid hg
      have HC := hid hc1
      have HX := hid hx1
      clear hg hc1 hx1
      refine wp_region_any (by kernel_rfl) ?_
      refine wpAny_take (i := 1) (v := ?_) (by simp only [List.getElem?_toArray, List.getElem?_cons_succ, List.getElem?_cons_zero]; rfl) (by kernel_rfl) (by kernel_rfl) (by kernel_rfl) (by exact fun _ _ _ h => h) (Or.inl ⟨by rfl, ?_⟩) ?_; rotate_left 1; (intro w0; go_simp; try with_reducible rfl); (try go_frame)
      refine wpAny_take (i := 2) (v := ?_) (by simp only [List.getElem?_toArray, List.getElem?_cons_succ, List.getElem?_cons_zero]; rfl) (by kernel_rfl) (by kernel_rfl) (by kernel_rfl) (by exact fun _ _ _ h => h) (Or.inl ⟨by rfl, ?_⟩) ?_; rotate_left 1; (intro w0; go_simp; try with_reducible rfl); (try go_frame)
      refine wpAny_take (i := 3) (v := ?_) (by simp only [List.getElem?_toArray, List.getElem?_cons_succ, List.getElem?_cons_zero]; rfl) (by kernel_rfl) (by kernel_rfl) (by kernel_rfl) (by exact fun _ _ _ h => h) (Or.inl ⟨by rfl, ?_⟩) ?_; rotate_left 1; (intro w0; go_simp; try with_reducible rfl); (try go_frame)
      refine wpAny_take (i := 4) (v := ?_) (by simp only [List.getElem?_toArray, List.getElem?_cons_succ, List.getElem?_cons_zero]; rfl) (by kernel_rfl) (by kernel_rfl) (by kernel_rfl) (by exact fun _ _ _ h => h) (Or.inl ⟨by rfl, ?_⟩) ?_; rotate_left 1; (intro w0; go_simp; try with_reducible rfl); (try go_frame)
      refine wpAny_ready (rs := [0, 5]) (by kernel_rfl) (by simp) ?_; refine (AllReady.cons (by simp only [List.getElem?_toArray, List.getElem?_cons_succ, List.getElem?_cons_zero]; rfl) (fun K hK => ?_) (AllReady.cons (by simp only [List.getElem?_toArray, List.getElem?_cons_succ, List.getElem?_cons_zero]; rfl) (fun K hK => ?_) AllReady.nil))
      · have HK := hid hK
        clear hK
        go_simp
        refine HK.out _ _ ?_; clear HK; (try go_frame)
        refine wpAny_ready (rs := [5]) (by kernel_rfl) (by simp) ?_; refine (AllReady.cons (by simp only [List.getElem?_toArray, List.getElem?_cons_succ, List.getElem?_cons_zero]; rfl) (fun K hK => ?_) AllReady.nil)
        have HK := hid hK
        clear hK
        go_simp
        refine HK.out _ _ ?_; clear HK; (try go_frame)
        refine wpAny_ready (rs := [6]) (by kernel_rfl) (by simp) ?_; refine (AllReady.cons (by simp only [List.getElem?_toArray, List.getElem?_cons_succ, List.getElem?_cons_zero]; rfl) (fun K hK => ?_) AllReady.nil)
        have HK := hid hK
        clear hK
        go_simp
        refine hPL.mono ?_
        rintro e w9 ⟨rfl, hx9⟩
        have hp9 : blk w9 pb = some (.cells (posCells (aw k)) 30 (0, 0)) := (hx9.blk _ (blk_lt hp1)).trans hp1
        have hb9 : blk w9 b = some (.cells #[.map (some m)] 101 (0, 0)) := (hx9.blk _ (blk_lt hb1)).trans hb1
        have hc9 := HC.out.ext (Ext.trans (Ext.drew (Ext.refl _)) hx9)
        have hX9 : Ext w w9 := HX.out.trans (Ext.trans (Ext.drew (Ext.refl _)) hx9)
        refine HK.out _ _ ?_; clear HK; (try go_frame)
        refine wpAny_take (i := 7) (v := ?_) (by simp only [List.getElem?_toArray, List.getElem?_cons_succ, List.getElem?_cons_zero]; rfl) (by kernel_rfl) (by kernel_rfl) (by kernel_rfl) (by exact fun _ _ _ h => h) (Or.inl ⟨by rfl, ?_⟩) ?_; rotate_left 1; (intro w0; go_simp; try with_reducible rfl); (try go_frame)
        refine wpAny_take (i := 8) (v := ?_) (by simp only [List.getElem?_toArray, List.getElem?_cons_succ, List.getElem?_cons_zero]; rfl) (by kernel_rfl) (by kernel_rfl) (by kernel_rfl) (by exact fun _ _ _ h => h) (Or.inl ⟨by rfl, ?_⟩) ?_; rotate_left 1; (intro w0; go_simp; try with_reducible rfl); (try go_frame)
        refine wpAny_take (i := 9) (v := ?_) (by simp only [List.getElem?_toArray, List.getElem?_cons_succ, List.getElem?_cons_zero]; rfl) (by kernel_rfl) (by kernel_rfl) (by kernel_rfl) (by exact fun _ _ _ h => h) (Or.inl ⟨by rfl, ?_⟩) ?_; rotate_left 1; (intro w0; go_simp; try with_reducible rfl); (try go_frame)
        refine wpAny_ready (rs := [10]) (by kernel_rfl) (by simp) ?_; refine (AllReady.cons (by simp only [List.getElem?_toArray, List.getElem?_cons_succ, List.getElem?_cons_zero]; rfl) (fun K hK => ?_) AllReady.nil)
        have HK := hid hK
        clear hK
        go_simp
        refine HK.out _ _ ?_; clear HK; (try go_frame)
        refine wpAny_done (by kernel_rfl) ?_ _
        have hp10 := setRow_blk (cs := posCells (aw (k + 1))) hp9
        have hb10 := (setRow_blk_past (w := w9) (g := pb) (cs := posCells (aw (k + 1))) (show b ≠ pb by omega)).trans hb9
        have hc10 := hc9.keep (setRow_blk_past (w := w9) (g := pb) (cs := posCells (aw (k + 1))) (show m ≠ pb by omega))
        have hx10 := Ext.setRow hX9 l1 (posCells (aw (k + 1)))
        generalize w9.setRow pb (posCells (aw (k + 1))) = W9 at *
        have hG2 := HG.out.put (aw (k + 1))
        rw [← awL_succ] at hG2
        have hmany := aw_many hlt
        have HPU := Put_any b m (k + 1) D (aw (k + 1)) (manyB (awL k) (aw (k + 1))) W9 hb10 hc10 (by omega) (aw_rng (by omega)) (ht.up hx10) (HG.out.at_ _) (by omega) (by omega)
        have HG2 := hid hG2
        clear hp9 hb9 hc9 hX9 hx9 hG2 hPL HC HX HG hp1 hb1 hl1
        generalize manyB (awL k) (aw (k + 1)) = M at *
        have hrel2 : ∀ w10, Cnt w10 m (k + 1 + 1) (D.put (.string (keyT (aw (k + 1)))) (.lit (.int .i64 ((M : Int) + 1)))) → W9.grownBy w10 (some m) → blk w10 pb = some (.cells (posCells (aw (k + 1))) 30 (0, 0)) ∧ blk w10 b = some (.cells #[.map (some m)] 101 (0, 0)) ∧ Ext w w10 := fun w10 _ hg11 =>
          ⟨(hg11.block pb (blk_lt hp10) (by simp; omega)).trans hp10, (hg11.block b (blk_lt hb10) (by simp; omega)).trans hb10, ⟨hg11.os.trans hx10.os, hg11.tape.trans hx10.tape, hg11.output.trans hx10.output, Nat.le_trans hx10.le hg11.size, fun j hj => (hg11.block j (Nat.lt_of_lt_of_le hj hx10.le) (by simp; omega)).trans (hx10.blk j hj)⟩⟩
        have HR2 := hid hrel2
        clear hrel2 hx10
        clear hlp hnp hwr hs1 hs2 hs3
        generalize hq : aw (k + 1) = q at *
        have HQ := hid hq
        clear hq
        generalize aw k = q0 at *
        rcases (by omega : k = 0 ∨ k = 1 ∨ k = 2 ∨ k = 3) with rfl | rfl | rfl | rfl
        · obtain rfl : M = 0 := by omega
          go_wp2_with (go_at_call 19; (with_reducible refine HPU.mono ?_); rintro e w10 ⟨rfl, hc11, hg11⟩)
          go_roundw
          case rel => exact ⟨1, _, by go_num, by omega, by rw [show aw 1 = q from HQ.out]; exact (HR2.out _ hc11 hg11).1, (HR2.out _ hc11 hg11).2.1, hc11, HG2.out, (HR2.out _ hc11 hg11).2.2⟩
          case measure => simp [intOf]
        · obtain rfl : M = 0 := by omega
          go_wp2_with (go_at_call 19; (with_reducible refine HPU.mono ?_); rintro e w10 ⟨rfl, hc11, hg11⟩)
          go_roundw
          case rel => exact ⟨2, _, by go_num, by omega, by rw [show aw 2 = q from HQ.out]; exact (HR2.out _ hc11 hg11).1, (HR2.out _ hc11 hg11).2.1, hc11, HG2.out, (HR2.out _ hc11 hg11).2.2⟩
          case measure => simp [intOf]
        · obtain rfl : M = 0 := by omega
          go_wp2_with (go_at_call 19; (with_reducible refine HPU.mono ?_); rintro e w10 ⟨rfl, hc11, hg11⟩)
          go_roundw
          case rel => exact ⟨3, _, by go_num, by omega, by rw [show aw 3 = q from HQ.out]; exact (HR2.out _ hc11 hg11).1, (HR2.out _ hc11 hg11).2.1, hc11, HG2.out, (HR2.out _ hc11 hg11).2.2⟩
          case measure => simp [intOf]
        · obtain rfl : M = 1 := by omega
          go_wp2_with (go_at_call 19; (with_reducible refine HPU.mono ?_); rintro e w10 ⟨rfl, hc11, hg11⟩)
          go_roundw
          case rel => exact ⟨4, _, by go_num, by omega, by rw [show aw 4 = q from HQ.out]; exact (HR2.out _ hc11 hg11).1, (HR2.out _ hc11 hg11).2.1, hc11, HG2.out, (HR2.out _ hc11 hg11).2.2⟩
          case measure => simp [intOf]
      · have HK := hid hK
        clear hK
        go_simp
        refine HK.out _ _ ?_; clear HK; (try go_frame)
        refine wpAny_ready (rs := [0]) (by kernel_rfl) (by simp) ?_; refine (AllReady.cons (by simp only [List.getElem?_toArray, List.getElem?_cons_succ, List.getElem?_cons_zero]; rfl) (fun K hK => ?_) AllReady.nil)
        have HK := hid hK
        clear hK
        go_simp
        refine HK.out _ _ ?_; clear HK; (try go_frame)
        refine wpAny_ready (rs := [6]) (by kernel_rfl) (by simp) ?_; refine (AllReady.cons (by simp only [List.getElem?_toArray, List.getElem?_cons_succ, List.getElem?_cons_zero]; rfl) (fun K hK => ?_) AllReady.nil)
        have HK := hid hK
        clear hK
        go_simp
        refine hPL.mono ?_
        rintro e w9 ⟨rfl, hx9⟩
        have hp9 : blk w9 pb = some (.cells (posCells (aw k)) 30 (0, 0)) := (hx9.blk _ (blk_lt hp1)).trans hp1
        have hb9 : blk w9 b = some (.cells #[.map (some m)] 101 (0, 0)) := (hx9.blk _ (blk_lt hb1)).trans hb1
        have hc9 := HC.out.ext (Ext.trans (Ext.drew (Ext.refl _)) hx9)
        have hX9 : Ext w w9 := HX.out.trans (Ext.trans (Ext.drew (Ext.refl _)) hx9)
        refine HK.out _ _ ?_; clear HK; (try go_frame)
        refine wpAny_take (i := 7) (v := ?_) (by simp only [List.getElem?_toArray, List.getElem?_cons_succ, List.getElem?_cons_zero]; rfl) (by kernel_rfl) (by kernel_rfl) (by kernel_rfl) (by exact fun _ _ _ h => h) (Or.inl ⟨by rfl, ?_⟩) ?_; rotate_left 1; (intro w0; go_simp; try with_reducible rfl); (try go_frame)
        refine wpAny_take (i := 8) (v := ?_) (by simp only [List.getElem?_toArray, List.getElem?_cons_succ, List.getElem?_cons_zero]; rfl) (by kernel_rfl) (by kernel_rfl) (by kernel_rfl) (by exact fun _ _ _ h => h) (Or.inl ⟨by rfl, ?_⟩) ?_; rotate_left 1; (intro w0; go_simp; try with_reducible rfl); (try go_frame)
        refine wpAny_take (i := 9) (v := ?_) (by simp only [List.getElem?_toArray, List.getElem?_cons_succ, List.getElem?_cons_zero]; rfl) (by kernel_rfl) (by kernel_rfl) (by kernel_rfl) (by exact fun _ _ _ h => h) (Or.inl ⟨by rfl, ?_⟩) ?_; rotate_left 1; (intro w0; go_simp; try with_reducible rfl); (try go_frame)
        refine wpAny_ready (rs := [10]) (by kernel_rfl) (by simp) ?_; refine (AllReady.cons (by simp only [List.getElem?_toArray, List.getElem?_cons_succ, List.getElem?_cons_zero]; rfl) (fun K hK => ?_) AllReady.nil)
        have HK := hid hK
        clear hK
        go_simp
        refine HK.out _ _ ?_; clear HK; (try go_frame)
        refine wpAny_done (by kernel_rfl) ?_ _
        have hp10 := setRow_blk (cs := posCells (aw (k + 1))) hp9
        have hb10 := (setRow_blk_past (w := w9) (g := pb) (cs := posCells (aw (k + 1))) (show b ≠ pb by omega)).trans hb9
        have hc10 := hc9.keep (setRow_blk_past (w := w9) (g := pb) (cs := posCells (aw (k + 1))) (show m ≠ pb by omega))
        have hx10 := Ext.setRow hX9 l1 (posCells (aw (k + 1)))
        generalize w9.setRow pb (posCells (aw (k + 1))) = W9 at *
        have hG2 := HG.out.put (aw (k + 1))
        rw [← awL_succ] at hG2
        have hmany := aw_many hlt
        have HPU := Put_any b m (k + 1) D (aw (k + 1)) (manyB (awL k) (aw (k + 1))) W9 hb10 hc10 (by omega) (aw_rng (by omega)) (ht.up hx10) (HG.out.at_ _) (by omega) (by omega)
        have HG2 := hid hG2
        clear hp9 hb9 hc9 hX9 hx9 hG2 hPL HC HX HG hp1 hb1 hl1
        generalize manyB (awL k) (aw (k + 1)) = M at *
        have hrel2 : ∀ w10, Cnt w10 m (k + 1 + 1) (D.put (.string (keyT (aw (k + 1)))) (.lit (.int .i64 ((M : Int) + 1)))) → W9.grownBy w10 (some m) → blk w10 pb = some (.cells (posCells (aw (k + 1))) 30 (0, 0)) ∧ blk w10 b = some (.cells #[.map (some m)] 101 (0, 0)) ∧ Ext w w10 := fun w10 _ hg11 =>
          ⟨(hg11.block pb (blk_lt hp10) (by simp; omega)).trans hp10, (hg11.block b (blk_lt hb10) (by simp; omega)).trans hb10, ⟨hg11.os.trans hx10.os, hg11.tape.trans hx10.tape, hg11.output.trans hx10.output, Nat.le_trans hx10.le hg11.size, fun j hj => (hg11.block j (Nat.lt_of_lt_of_le hj hx10.le) (by simp; omega)).trans (hx10.blk j hj)⟩⟩
        have HR2 := hid hrel2
        clear hrel2 hx10
        clear hlp hnp hwr hs1 hs2 hs3
        generalize hq : aw (k + 1) = q at *
        have HQ := hid hq
        clear hq
        generalize aw k = q0 at *
        rcases (by omega : k = 0 ∨ k = 1 ∨ k = 2 ∨ k = 3) with rfl | rfl | rfl | rfl
        · obtain rfl : M = 0 := by omega
          go_wp2_with (go_at_call 19; (with_reducible refine HPU.mono ?_); rintro e w10 ⟨rfl, hc11, hg11⟩)
          go_roundw
          case rel => exact ⟨1, _, by go_num, by omega, by rw [show aw 1 = q from HQ.out]; exact (HR2.out _ hc11 hg11).1, (HR2.out _ hc11 hg11).2.1, hc11, HG2.out, (HR2.out _ hc11 hg11).2.2⟩
          case measure => simp [intOf]
        · obtain rfl : M = 0 := by omega
          go_wp2_with (go_at_call 19; (with_reducible refine HPU.mono ?_); rintro e w10 ⟨rfl, hc11, hg11⟩)
          go_roundw
          case rel => exact ⟨2, _, by go_num, by omega, by rw [show aw 2 = q from HQ.out]; exact (HR2.out _ hc11 hg11).1, (HR2.out _ hc11 hg11).2.1, hc11, HG2.out, (HR2.out _ hc11 hg11).2.2⟩
          case measure => simp [intOf]
        · obtain rfl : M = 0 := by omega
          go_wp2_with (go_at_call 19; (with_reducible refine HPU.mono ?_); rintro e w10 ⟨rfl, hc11, hg11⟩)
          go_roundw
          case rel => exact ⟨3, _, by go_num, by omega, by rw [show aw 3 = q from HQ.out]; exact (HR2.out _ hc11 hg11).1, (HR2.out _ hc11 hg11).2.1, hc11, HG2.out, (HR2.out _ hc11 hg11).2.2⟩
          case measure => simp [intOf]
        · obtain rfl : M = 1 := by omega
          go_wp2_with (go_at_call 19; (with_reducible refine HPU.mono ?_); rintro e w10 ⟨rfl, hc11, hg11⟩)
          go_roundw
          case rel => exact ⟨4, _, by go_num, by omega, by rw [show aw 4 = q from HQ.out]; exact (HR2.out _ hc11 hg11).1, (HR2.out _ hc11 hg11).2.1, hc11, HG2.out, (HR2.out _ hc11 hg11).2.2⟩
          case measure => simp [intOf]
    · obtain rfl : k = 4 := by omega
      have hM := Most_any b m _ D (awL 4) wr hb hc hg (by simp [awL])
      rw [aw_most] at hM
      have hN : ∀ W, Ext wr W → Calls Tryz.prog 23 #[.pointer (some ⟨b, 0, none⟩), .agg (posCells startP)] W (Ret (.int .i64 2) W) := fun W h => by
        have := Many_any b m _ D startP _ W ((h.blk _ (blk_lt hb)).trans hb) (hc.ext h) (aw_rng (i := 0) (by omega)) (ht.up (hxr.trans h)) (hg.at_ startP)
        rw [aw_start] at this
        exact this
      have HG := hid hg
      clear hg hp
      go_wp2_with (first
        | (go_at_call 21; (with_reducible refine hM.mono ?_); rintro e w3 ⟨rfl, hx3⟩)
        | (go_at_call 26; (with_reducible refine (rStart_any _).mono ?_); rintro e w4 ⟨rfl, hx4⟩)
        | (go_at_call 23; (with_reducible refine (hN _ ?c0).mono (fun e w5 h5 => ?_)); rotate_left 1; obtain ⟨rfl, hx5⟩ := h5))
      · go_ret
        exact Ret.mk' rfl (hxr.trans (hx3.trans (hx4.trans hx5)))
      · exact hx3.trans hx4
end Go.Proofs.YtdmgimfgoajmjaaGreatDoor
namespace Go.Proofs.YtdmgimfgoajmjaaGreatDoor
open Go.RowKit Go.Maps
set_option maxRecDepth 100000 in
set_option maxHeartbeats 4000000 in
theorem Tells_any (v : Value) (Ps : List Pos) (p : Pos) (w : World) (hS : SlP w v Ps) (hr : ∀ x ∈ Ps, Rng x) (hp : Rng p) (ht : Tab10 w.heap.size w) :
    Calls Tryz.prog 3 #[v, .agg (posCells p)] w (Ret (.bool true) w) := by
  obtain ⟨a, cap, rfl⟩ := hS.form
  have hA : ∀ W, Ext w W → Calls Tryz.prog 12 #[] W (Ret (.bool true) W) := fun W h => Awake_any W (ht.up h)
  have hE0 : Ext w (w.alloc (.cells (posCells p) 30)) := Ext.alloc (Ext.refl w) _
  by_cases hbig : 25 < Ps.length
  · have hA1 := hA _ hE0
    clear hA ht hS
    go_enter Tryz.func3, Tryz.ntmps3
    go_wp2_with (go_at_call 12; (with_reducible refine hA1.mono ?_); rintro e w1 ⟨rfl, hx1⟩)
    go_ret
    exact Ret.mk' rfl (Ext.auto)
  · have hsm : Ps.length ≤ 25 := by omega
    have hN := New_any (.slice none 0 0) [] _ (.inl ⟨⟨_, _, rfl⟩, rfl⟩) (by simp) (by simp) (ht.up hE0)
    have HR := hid hr
    have HT := hid ht
    have HA := hid hA
    have HSS := hid hS
    clear hr ht hA hS
    go_enter Tryz.func3, Tryz.ntmps3
    go_upto_block 0 with (go_at_call 13; (with_reducible refine hN.mono ?_); rintro e w1 ⟨b, m, D0, rfl, lb, lm, hbm, hb1, hcn, hgd, hx1⟩)
    have hp1 := (hx1.blk w.heap.size (by simp)).trans (blk_alloc_at w (.cells (posCells p) 30) _ rfl)
    have hx2 : Ext w1 (w1.alloc (.cells #[.slice none 0 0] 36)) := Ext.alloc (Ext.refl _) _
    have hT0 : TS w p b m w1.heap.size [] [] D0 (w1.alloc (.cells #[.slice none 0 0] 36)) :=
      ⟨hE0.trans (hx1.trans hx2), (hx2.blk _ (blk_lt hp1)).trans hp1, (hx2.blk _ (blk_lt hb1)).trans hb1, hcn.ext hx2, hgd, Bk.start w1, by simp at lb; omega, by simp at lm; omega, hbm, blk_lt hb1, hcn.lt⟩
    generalize w1.alloc (.cells #[.slice none 0 0] 36) = w2 at *
    have lB := hT0.bk.lt
    generalize w1.heap.size = B at *
    clear hN hx1 hx2 hp1 hb1 hcn hgd
    go_wp2
    go_loopw [7] (fun i wr => ∃ (k : Nat) (D : DataW Unit), i = .int .i64 k ∧ k ≤ Ps.length ∧ TS w p b m B (Ps.take k) (Ps.take k) D wr) (fun i _ => Ps.length - (intOf i).toNat)
    case atStart => exact ⟨0, D0, rfl, by omega, hT0⟩
    case round =>
      obtain ⟨k, D, rfl, hk, hT⟩ := hrel
      clear hT0
      by_cases hlt : k < Ps.length
      · obtain ⟨x, hx⟩ : ∃ x, Ps[k]? = some x := ⟨_, List.getElem?_eq_getElem hlt⟩
        rcases HSS.out with ⟨-, h0⟩ | ⟨g, o, cap', cur, T, fr, hv, hg, hat⟩
        · rw [h0] at hlt; simp at hlt
        injection hv with hv1 hv2 hv3
        subst hv1
        subst hv3
        obtain ⟨hk1, hk2⟩ := hat k x hx
        have hrx : Rng x := HR.out x (List.mem_of_getElem? hx)
        have htk : Ps.take (k + 1) = Ps.take k ++ [x] := by rw [List.take_add_one, hx]; rfl
        have hl1 : (Ps.take k).length ≤ 25 := by rw [List.length_take]; omega
        have hl2 : (Ps.take k ++ [x]).length ≤ 26 := by rw [List.length_append, List.length_singleton]; omega
        generalize Ps.take k = L at *
        obtain ⟨kx, hkx⟩ : ∃ kx, keyT x = kx := ⟨_, rfl⟩
        obtain ⟨kp, hkp⟩ : ∃ kp, keyT p = kp := ⟨_, rfl⟩
        have hke : (kx == kp) = sameB x p := by
          rw [← hkx, ← hkp, Bool.eq_iff_iff, beq_iff_eq, same_key]
        have HKX : ∀ W, Ext w W → Calls Tryz.prog 18 #[.agg (posCells x)] W (Ret (.string ⟨kx.toArray⟩) W) := fun W h => by rw [← hkx]; exact Key_any x W hrx (HT.out.up h)
        have HKP : ∀ W, Ext w W → Calls Tryz.prog 18 #[.agg (posCells p)] W (Ret (.string ⟨kp.toArray⟩) W) := fun W h => by rw [← hkp]; exact Key_any p W hp (HT.out.up h)
        have HSA : ∀ W, Ext w W → Calls Tryz.prog 16 #[.agg (posCells x), .agg (posCells p)] W (Ret (.bool (kx == kp)) W) := fun W h => by rw [hke]; exact Same_any x p W hrx hp (HT.out.up h)
        have HSR : ∀ W, Calls Tryz.prog 17 #[.agg (posCells x), .agg (posCells p)] W (Ret (.bool (kx == kp)) W) := fun W => by rw [hke]; exact rSame_any x p W
        have HOV : ∀ W, Calls Tryz.prog 14 #[.agg (posCells x)] W (Ret (.int .i64 (overA x)) W) := fun W => Over_any x W
        have HOR : ∀ W, Calls Tryz.prog 15 #[.agg (posCells x)] W (Ret (.int .i64 (overA x)) W) := fun W => rOver12_any x W
        have HPU : ∀ {L D W}, TS w p b m B L L D W → L.length ≤ 100 → _ := fun {L D W} (h : TS w p b m B L L D W) (h2 : L.length ≤ 100) => h.put hrx HT.out (by omega)
        have hM0 := hT.ms hg
        have HG := hid hg
        have hT := hT.up (Ext.drew (Ext.refl _))
        clear hat hx hkx hkp hke
        generalize overA x = O at *
        go_wp2
        refine wp_region_held_drew (S := MSl p g cur T fr w) (by kernel_rfl) (hT.ms HG.out) (fun hH => ?_)
        refine hTk (i := 0) (v := ?_) (hy := Or.inl ⟨by rfl, ?_⟩) (h := ?_); rotate_left 1; (intro w0 hS; (try dsimp only at hS); unfold MSl at hS; go_simp; try with_reducible rfl); (try go_frame)
        refine hTk (i := 1) (v := ?_) (hy := Or.inl ⟨by rfl, ?_⟩) (h := ?_); rotate_left 1; (intro w0 hS; (try dsimp only at hS); unfold MSl at hS; go_simp; try with_reducible rfl); (try go_frame)
        refine hTk (i := 2) (v := ?_) (hy := Or.inl ⟨by rfl, ?_⟩) (h := ?_); rotate_left 1; (intro w0 hS; (try dsimp only at hS); unfold MSl at hS; go_simp; try with_reducible rfl); (try go_frame)
        refine hTk (i := 3) (v := ?_) (hy := Or.inl ⟨by rfl, ?_⟩) (h := ?_); rotate_left 1; (intro w0 hS; (try dsimp only at hS); unfold MSl at hS; go_simp; try with_reducible rfl); (try go_frame)
        refine hTk (i := 5) (v := ?_) (hy := Or.inl ⟨by rfl, ?_⟩) (h := ?_); rotate_left 1; (intro w0 hS; (try dsimp only at hS); unfold MSl at hS; go_simp; try with_reducible rfl); (try go_frame)
        refine hTk (i := 6) (v := ?_) (hy := Or.inl ⟨by rfl, ?_⟩) (h := ?_); rotate_left 1; (intro w0 hS; (try dsimp only at hS); unfold MSl at hS; go_simp; try with_reducible rfl); (try go_frame)
        refine hTk (i := 7) (v := ?_) (hy := Or.inl ⟨by rfl, ?_⟩) (h := ?_); rotate_left 1; (intro w0 hS; (try dsimp only at hS); unfold MSl at hS; go_simp; try with_reducible rfl); (try go_frame)
        refine hTk (i := 8) (v := ?_) (hy := Or.inl ⟨by rfl, ?_⟩) (h := ?_); rotate_left 1; (intro w0 hS; (try dsimp only at hS); unfold MSl at hS; go_simp; try with_reducible rfl); (try go_frame)
        refine wpAnyH_ready (rs := [4]) (by kernel_rfl) (by simp) ?_; refine hCo (h := fun K hK => ?_) (hs := AllReadyH.nil); go_simp
        refine (HOV _).mono ?_
        rintro e w8 ⟨rfl, hx8⟩
        replace hT := hT.up hx8
        refine hK.out _ _ (hT.ms HG.out) (fun hH => ?_); clear hK; (try go_frame)
        refine wpAnyH_ready (rs := [9]) (by kernel_rfl) (by simp) ?_; refine hCo (h := fun K hK => ?_) (hs := AllReadyH.nil); go_simp
        refine (HOR _).mono ?_
        rintro e w8 ⟨rfl, hx8⟩
        replace hT := hT.up hx8
        refine hK.out _ _ (hT.ms HG.out) (fun hH => ?_); clear hK; (try go_frame)
        refine hTk (i := 10) (v := ?_) (hy := Or.inl ⟨by rfl, ?_⟩) (h := ?_); rotate_left 1; (intro w0 hS; (try dsimp only at hS); unfold MSl at hS; go_simp; try with_reducible rfl); (try go_frame)
        refine hTk (i := 11) (v := ?_) (hy := Or.inl ⟨by rfl, ?_⟩) (h := ?_); rotate_left 1; (intro w0 hS; (try dsimp only at hS); unfold MSl at hS; go_simp; try with_reducible rfl); (try go_frame)
        refine hTk (i := 12) (v := ?_) (hy := Or.inl ⟨by rfl, ?_⟩) (h := ?_); rotate_left 1; (intro w0 hS; (try dsimp only at hS); unfold MSl at hS; go_simp; try with_reducible rfl); (try go_frame)
        refine hTk (i := 13) (v := ?_) (hy := Or.inl ⟨by rfl, ?_⟩) (h := ?_); rotate_left 1; (intro w0 hS; (try dsimp only at hS); unfold MSl at hS; go_simp; try with_reducible rfl); (try go_frame)
        refine hTk (i := 14) (v := ?_) (hy := Or.inl ⟨by rfl, ?_⟩) (h := ?_); rotate_left 1; (intro w0 hS; (try dsimp only at hS); unfold MSl at hS; go_simp; try with_reducible rfl); (try go_frame)
        refine hTk (i := 15) (v := ?_) (hy := Or.inl ⟨by rfl, ?_⟩) (h := ?_); rotate_left 1; (intro w0 hS; (try dsimp only at hS); unfold MSl at hS; go_simp; try with_reducible rfl); (try go_frame)
        refine hTk (i := 16) (v := ?_) (hy := Or.inl ⟨by rfl, ?_⟩) (h := ?_); rotate_left 1; (intro w0 hS; (try dsimp only at hS); unfold MSl at hS; go_simp; try with_reducible rfl); (try go_frame)
        refine hTk (i := 18) (v := ?_) (hy := Or.inl ⟨by rfl, ?_⟩) (h := ?_); rotate_left 1; (intro w0 hS; (try dsimp only at hS); unfold MSl at hS; go_simp; try with_reducible rfl); (try go_frame)
        refine hTk (i := 19) (v := ?_) (hy := Or.inl ⟨by rfl, ?_⟩) (h := ?_); rotate_left 1; (intro w0 hS; (try dsimp only at hS); unfold MSl at hS; go_simp; try with_reducible rfl); (try go_frame)
        refine hTk (i := 20) (v := ?_) (hy := Or.inl ⟨by rfl, ?_⟩) (h := ?_); rotate_left 1; (intro w0 hS; (try dsimp only at hS); unfold MSl at hS; go_simp; try with_reducible rfl); (try go_frame)
        refine hTk (i := 21) (v := ?_) (hy := Or.inl ⟨by rfl, ?_⟩) (h := ?_); rotate_left 1; (intro w0 hS; (try dsimp only at hS); unfold MSl at hS; go_simp; try with_reducible rfl); (try go_frame)
        refine hTk (i := 22) (v := ?_) (hy := Or.inl ⟨by rfl, ?_⟩) (h := ?_); rotate_left 1; (intro w0 hS; (try dsimp only at hS); unfold MSl at hS; go_simp; try with_reducible rfl); (try go_frame)
        refine wpAnyH_ready (rs := [17]) (by kernel_rfl) (by simp) ?_; refine hCo (h := fun K hK => ?_) (hs := AllReadyH.nil); go_simp
        refine (HSA _ hT.ext).mono ?_
        rintro e w8 ⟨rfl, hx8⟩
        replace hT := hT.up hx8
        refine hK.out _ _ (hT.ms HG.out) (fun hH => ?_); clear hK; (try go_frame)
        refine wpAnyH_ready (rs := [23]) (by kernel_rfl) (by simp) ?_; refine hCo (h := fun K hK => ?_) (hs := AllReadyH.nil); go_simp
        refine (HSR _).mono ?_
        rintro e w8 ⟨rfl, hx8⟩
        replace hT := hT.up hx8
        refine hK.out _ _ (hT.ms HG.out) (fun hH => ?_); clear hK; (try go_frame)
        refine hTk (i := 24) (v := ?_) (hy := Or.inl ⟨by rfl, ?_⟩) (h := ?_); rotate_left 1; (intro w0 hS; (try dsimp only at hS); unfold MSl at hS; go_simp; try with_reducible rfl); (try go_frame)
        refine hTk (i := 25) (v := ?_) (hy := Or.inl ⟨by rfl, ?_⟩) (h := ?_); rotate_left 1; (intro w0 hS; (try dsimp only at hS); unfold MSl at hS; go_simp; try with_reducible rfl); (try go_frame)
        refine hTk (i := 26) (v := ?_) (hy := Or.inl ⟨by rfl, ?_⟩) (h := ?_); rotate_left 1; (intro w0 hS; (try dsimp only at hS); unfold MSl at hS; go_simp; try with_reducible rfl); (try go_frame)
        refine hTk (i := 27) (v := ?_) (hy := Or.inl ⟨by rfl, ?_⟩) (h := ?_); rotate_left 1; (intro w0 hS; (try dsimp only at hS); unfold MSl at hS; go_simp; try with_reducible rfl); (try go_frame)
        refine hTk (i := 28) (v := ?_) (hy := Or.inl ⟨by rfl, ?_⟩) (h := ?_); rotate_left 1; (intro w0 hS; (try dsimp only at hS); unfold MSl at hS; go_simp; try with_reducible rfl); (try go_frame)
        refine hTk (i := 29) (v := ?_) (hy := Or.inl ⟨by rfl, ?_⟩) (h := ?_); rotate_left 1; (intro w0 hS; (try dsimp only at hS); unfold MSl at hS; go_simp; try with_reducible rfl); (try go_frame)
        refine hTk (i := 30) (v := ?_) (hy := Or.inl ⟨by rfl, ?_⟩) (h := ?_); rotate_left 1; (intro w0 hS; (try dsimp only at hS); unfold MSl at hS; go_simp; try with_reducible rfl); (try go_frame)
        refine hTk (i := 32) (v := ?_) (hy := Or.inl ⟨by rfl, ?_⟩) (h := ?_); rotate_left 1; (intro w0 hS; (try dsimp only at hS); unfold MSl at hS; go_simp; try with_reducible rfl); (try go_frame)
        refine hTk (i := 35) (v := ?_) (hy := Or.inl ⟨by rfl, ?_⟩) (h := ?_); rotate_left 1; (intro w0 hS; (try dsimp only at hS); unfold MSl at hS; go_simp; try with_reducible rfl); (try go_frame)
        refine hTk (i := 36) (v := ?_) (hy := Or.inl ⟨by rfl, ?_⟩) (h := ?_); rotate_left 1; (intro w0 hS; (try dsimp only at hS); unfold MSl at hS; go_simp; try with_reducible rfl); (try go_frame)
        refine hTk (i := 37) (v := ?_) (hy := Or.inl ⟨by rfl, ?_⟩) (h := ?_); rotate_left 1; (intro w0 hS; (try dsimp only at hS); unfold MSl at hS; go_simp; try with_reducible rfl); (try go_frame)
        refine hTk (i := 38) (v := ?_) (hy := Or.inl ⟨by rfl, ?_⟩) (h := ?_); rotate_left 1; (intro w0 hS; (try dsimp only at hS); unfold MSl at hS; go_simp; try with_reducible rfl); (try go_frame)
        refine hTk (i := 39) (v := ?_) (hy := Or.inl ⟨by rfl, ?_⟩) (h := ?_); rotate_left 1; (intro w0 hS; (try dsimp only at hS); unfold MSl at hS; go_simp; try with_reducible rfl); (try go_frame)
        refine wpAnyH_ready (rs := [31]) (by kernel_rfl) (by simp) ?_; refine hCo (h := fun K hK => ?_) (hs := AllReadyH.nil); go_simp
        refine (HKX _ hT.ext).mono ?_
        rintro e w8 ⟨rfl, hx8⟩
        replace hT := hT.up hx8
        refine hK.out _ _ (hT.ms HG.out) (fun hH => ?_); clear hK; (try go_frame)
        refine wpAnyH_ready (rs := [33]) (by kernel_rfl) (by simp) ?_; refine hCo (h := fun K hK => ?_) (hs := AllReadyH.nil); go_simp
        refine (HKP _ hT.ext).mono ?_
        rintro e w8 ⟨rfl, hx8⟩
        replace hT := hT.up hx8
        refine hK.out _ _ (hT.ms HG.out) (fun hH => ?_); clear hK; (try go_frame)
        refine hTk (i := 34) (v := ?_) (hy := Or.inl ⟨by rfl, ?_⟩) (h := ?_); rotate_left 1; (intro w0 hS; (try dsimp only at hS); unfold MSl at hS; go_simp; try with_reducible rfl); (try go_frame)
        refine wpAnyH_ready (rs := [40]) (by kernel_rfl) (by simp) ?_; refine hCo (h := fun K hK => ?_) (hs := AllReadyH.nil); go_simp
        refine (HSR _).mono ?_
        rintro e w8 ⟨rfl, hx8⟩
        replace hT := hT.up hx8
        refine hK.out _ _ (hT.ms HG.out) (fun hH => ?_); clear hK; (try go_frame)
        refine hTk (i := 41) (v := ?_) (hy := Or.inl ⟨by rfl, ?_⟩) (h := ?_); rotate_left 1; (intro w0 hS; (try dsimp only at hS); unfold MSl at hS; go_simp; try with_reducible rfl); (try go_frame)
        refine hTk (i := 42) (v := ?_) (hy := Or.inl ⟨by rfl, ?_⟩) (h := ?_); rotate_left 1; (intro w0 hS; (try dsimp only at hS); unfold MSl at hS; go_simp; try with_reducible rfl); (try go_frame)
        refine hTk (i := 43) (v := ?_) (hy := Or.inl ⟨by rfl, ?_⟩) (h := ?_); rotate_left 1; (intro w0 hS; (try dsimp only at hS); unfold MSl at hS; go_simp; try with_reducible rfl); (try go_frame)
        refine hTk (i := 44) (v := ?_) (hy := Or.inl ⟨by rfl, ?_⟩) (h := ?_); rotate_left 1; (intro w0 hS; (try dsimp only at hS); unfold MSl at hS; go_simp; try with_reducible rfl); (try go_frame)
        refine hTk (i := 45) (v := ?_) (hy := Or.inl ⟨by rfl, ?_⟩) (h := ?_); rotate_left 1; (intro w0 hS; (try dsimp only at hS); unfold MSl at hS; go_simp; try with_reducible rfl); (try go_frame)
        refine hTk (i := 46) (v := ?_) (hy := Or.inl ⟨by rfl, ?_⟩) (h := ?_); rotate_left 1; (intro w0 hS; (try dsimp only at hS); unfold MSl at hS; go_simp; try with_reducible rfl); (try go_frame)
        refine hTk (i := 47) (v := ?_) (hy := Or.inl ⟨by rfl, ?_⟩) (h := ?_); rotate_left 1; (intro w0 hS; (try dsimp only at hS); unfold MSl at hS; go_simp; try with_reducible rfl); (try go_frame)
        refine hTk (i := 48) (v := ?_) (hy := Or.inl ⟨by rfl, ?_⟩) (h := ?_); rotate_left 1; (intro w0 hS; (try dsimp only at hS); unfold MSl at hS; go_simp; try with_reducible rfl); (try go_frame)
        refine hTk (i := 50) (v := ?_) (hy := Or.inl ⟨by rfl, ?_⟩) (h := ?_); rotate_left 1; (intro w0 hS; (try dsimp only at hS); unfold MSl at hS; go_simp; try with_reducible rfl); (try go_frame)
        refine hTk (i := 51) (v := ?_) (hy := Or.inl ⟨by rfl, ?_⟩) (h := ?_); rotate_left 1; (intro w0 hS; (try dsimp only at hS); unfold MSl at hS; go_simp; try with_reducible rfl); (try go_frame)
        refine hTk (i := 52) (v := ?_) (hy := Or.inl ⟨by rfl, ?_⟩) (h := ?_); rotate_left 1; (intro w0 hS; (try dsimp only at hS); unfold MSl at hS; go_simp; try with_reducible rfl); (try go_frame)
        refine hTk (i := 53) (v := ?_) (hy := Or.inl ⟨by rfl, ?_⟩) (h := ?_); rotate_left 1; (intro w0 hS; (try dsimp only at hS); unfold MSl at hS; go_simp; try with_reducible rfl); (try go_frame)
        refine hTk (i := 54) (v := ?_) (hy := Or.inl ⟨by rfl, ?_⟩) (h := ?_); rotate_left 1; (intro w0 hS; (try dsimp only at hS); unfold MSl at hS; go_simp; try with_reducible rfl); (try go_frame)
        refine wpAnyH_ready (rs := [49]) (by kernel_rfl) (by simp) ?_; refine hCo (h := fun K hK => ?_) (hs := AllReadyH.nil); go_simp
        refine (hT.put hrx HT.out (by omega)).mono ?_
        rintro e w8 ⟨rfl, D8, hT8⟩
        clear hT
        have hT := hT8
        clear hT8
        refine hK.out _ _ (hT.ms HG.out) (fun hH => ?_); clear hK; (try go_frame)
        refine wpAnyH_ready (rs := [55]) (by kernel_rfl) (by simp) ?_; refine hCo (h := fun K hK => ?_) (hs := AllReadyH.nil); go_simp
        refine (hT.rput (by omega)).mono ?_
        rintro e w8 ⟨rfl, hT8⟩
        clear hT
        have hT := hT8
        clear hT8
        refine hK.out _ _ (hT.ms HG.out) (fun hH => ?_); clear hK; (try go_frame)
        refine hTk (i := 56) (v := ?_) (hy := Or.inl ⟨by rfl, ?_⟩) (h := ?_); rotate_left 1; (intro w0 hS; (try dsimp only at hS); unfold MSl at hS; go_simp; try with_reducible rfl); (try go_frame)
        refine hTk (i := 57) (v := ?_) (hy := Or.inl ⟨by rfl, ?_⟩) (h := ?_); rotate_left 1; (intro w0 hS; (try dsimp only at hS); unfold MSl at hS; go_simp; try with_reducible rfl); (try go_frame)
        refine hTk (i := 58) (v := ?_) (hy := Or.inl ⟨by rfl, ?_⟩) (h := ?_); rotate_left 1; (intro w0 hS; (try dsimp only at hS); unfold MSl at hS; go_simp; try with_reducible rfl); (try go_frame)
        refine hTk (i := 59) (v := ?_) (hy := Or.inl ⟨by rfl, ?_⟩) (h := ?_); rotate_left 1; (intro w0 hS; (try dsimp only at hS); unfold MSl at hS; go_simp; try with_reducible rfl); (try go_frame)
        refine hTk (i := 61) (v := ?_) (hy := Or.inl ⟨by rfl, ?_⟩) (h := ?_); rotate_left 1; (intro w0 hS; (try dsimp only at hS); unfold MSl at hS; go_simp; try with_reducible rfl); (try go_frame)
        refine wpAnyH_ready (rs := [60]) (by kernel_rfl) (by simp) ?_; refine hCo (h := fun K hK => ?_) (hs := AllReadyH.nil); go_simp
        refine (hT.most (by omega)).mono ?_
        rintro e w8 ⟨rfl, hx8⟩
        replace hT := hT.up hx8
        refine hK.out _ _ (hT.ms HG.out) (fun hH => ?_); clear hK; (try go_frame)
        refine wpAnyH_ready (rs := [62]) (by kernel_rfl) (by simp) ?_; refine hCo (h := fun K hK => ?_) (hs := AllReadyH.nil); go_simp
        refine (hT.rmost (by omega)).mono ?_
        rintro e w8 ⟨rfl, hx8⟩
        replace hT := hT.up hx8
        refine hK.out _ _ (hT.ms HG.out) (fun hH => ?_); clear hK; (try go_frame)
        refine hTk (i := 63) (v := ?_) (hy := Or.inl ⟨by rfl, ?_⟩) (h := ?_); rotate_left 1; (intro w0 hS; (try dsimp only at hS); unfold MSl at hS; go_simp; try with_reducible rfl); (try go_frame)
        refine hTk (i := 64) (v := ?_) (hy := Or.inl ⟨by rfl, ?_⟩) (h := ?_); rotate_left 1; (intro w0 hS; (try dsimp only at hS); unfold MSl at hS; go_simp; try with_reducible rfl); (try go_frame)
        refine hTk (i := 65) (v := ?_) (hy := Or.inl ⟨by rfl, ?_⟩) (h := ?_); rotate_left 1; (intro w0 hS; (try dsimp only at hS); unfold MSl at hS; go_simp; try with_reducible rfl); (try go_frame)
        refine hTk (i := 66) (v := ?_) (hy := Or.inl ⟨by rfl, ?_⟩) (h := ?_); rotate_left 1; (intro w0 hS; (try dsimp only at hS); unfold MSl at hS; go_simp; try with_reducible rfl); (try go_frame)
        refine hTk (i := 67) (v := ?_) (hy := Or.inl ⟨by rfl, ?_⟩) (h := ?_); rotate_left 1; (intro w0 hS; (try dsimp only at hS); unfold MSl at hS; go_simp; try with_reducible rfl); (try go_frame)
        refine hTk (i := 69) (v := ?_) (hy := Or.inl ⟨by rfl, ?_⟩) (h := ?_); rotate_left 1; (intro w0 hS; (try dsimp only at hS); unfold MSl at hS; go_simp; try with_reducible rfl); (try go_frame)
        refine hTk (i := 70) (v := ?_) (hy := Or.inl ⟨by rfl, ?_⟩) (h := ?_); rotate_left 1; (intro w0 hS; (try dsimp only at hS); unfold MSl at hS; go_simp; try with_reducible rfl); (try go_frame)
        refine wpAnyH_ready (rs := [68]) (by kernel_rfl) (by simp) ?_; refine hCo (h := fun K hK => ?_) (hs := AllReadyH.nil); go_simp
        refine (hT.many p hp HT.out).mono ?_
        rintro e w8 ⟨rfl, hx8⟩
        replace hT := hT.up hx8
        refine hK.out _ _ (hT.ms HG.out) (fun hH => ?_); clear hK; (try go_frame)
        refine wpAnyH_ready (rs := [71]) (by kernel_rfl) (by simp) ?_; refine hCo (h := fun K hK => ?_) (hs := AllReadyH.nil); go_simp
        refine (hT.rmany p (by omega)).mono ?_
        rintro e w8 ⟨rfl, hx8⟩
        replace hT := hT.up hx8
        refine hK.out _ _ (hT.ms HG.out) (fun hH => ?_); clear hK; (try go_frame)
        refine hTk (i := 72) (v := ?_) (hy := Or.inl ⟨by rfl, ?_⟩) (h := ?_); rotate_left 1; (intro w0 hS; (try dsimp only at hS); unfold MSl at hS; go_simp; try with_reducible rfl); (try go_frame)
        refine hTk (i := 73) (v := ?_) (hy := Or.inl ⟨by rfl, ?_⟩) (h := ?_); rotate_left 1; (intro w0 hS; (try dsimp only at hS); unfold MSl at hS; go_simp; try with_reducible rfl); (try go_frame)
        refine wpAnyH_done (by kernel_rfl) ?_ _
        clear hH
        go_wp2
        go_roundw
        case rel => exact ⟨k + 1, _, by go_num, by omega, by rw [htk]; exact hT⟩
        case measure => simp [intOf]; omega
      · obtain rfl : k = Ps.length := by omega
        rw [List.take_length] at hT
        have hN := New_any _ Ps wr (HSS.out.ext hT.ext) (by omega) HR.out (HT.out.up hT.ext)
        have HOV : ∀ W, Calls Tryz.prog 14 #[.agg (posCells p)] W (Ret (.int .i64 (overA p)) W) := fun W => Over_any p W
        have HOR : ∀ W, Calls Tryz.prog 15 #[.agg (posCells p)] W (Ret (.int .i64 (overA p)) W) := fun W => rOver12_any p W
        have HT3 := hid hT
        clear hT
        generalize overA p = O at *
        go_upto_region 10 with (go_at_call 13; (with_reducible refine hN.mono ?_); rintro e w3 ⟨b2, m2, D2, rfl, lb2, lm2, hbm2, hb2, hcn2, hgd2, hx3⟩)
        have hT := HT3.out
        have HM : ∀ W, Ext w3 W → Calls Tryz.prog 21 #[.pointer (some ⟨b2, 0, none⟩)] W (Ret (.int .i64 (mostB Ps)) W) := fun W h => Most_any b2 m2 _ D2 Ps W ((h.blk _ (blk_lt hb2)).trans hb2) (hcn2.ext h) hgd2 (by omega)
        have HMR : ∀ W, Ext w3 W → Calls Tryz.prog 22 #[.pointer (some ⟨B, 0, none⟩)] W (Ret (.int .i64 (mostB Ps)) W) := fun W h => (hT.up (hx3.trans h)).rmost (by omega)
        have HY : ∀ W, Ext w3 W → Calls Tryz.prog 23 #[.pointer (some ⟨b2, 0, none⟩), .agg (posCells p)] W (Ret (.int .i64 (manyB Ps p)) W) := fun W h => Many_any b2 m2 _ D2 p _ W ((h.blk _ (blk_lt hb2)).trans hb2) (hcn2.ext h) hp (HT.out.up (hT.ext.trans (hx3.trans h))) (hgd2.at_ p)
        have HYR : ∀ W, Ext w3 W → Calls Tryz.prog 24 #[.pointer (some ⟨B, 0, none⟩), .agg (posCells p)] W (Ret (.int .i64 (manyB Ps p)) W) := fun W h => (hT.up (hx3.trans h)).rmany p (by omega)
        have HAW : ∀ W, Ext w3 W → Calls Tryz.prog 12 #[] W (Ret (.bool true) W) := fun W h => HA.out W (hT.ext.trans (hx3.trans h))
        have hE3 : Ext w w3 := hT.ext.trans hx3
        have hM0 : MSw p w.heap.size w3 w3.drew := ⟨Ext.drew (Ext.refl _), (hx3.blk _ (blk_lt hT.pos)).trans hT.pos⟩
        clear hT hb2 hcn2 hgd2
        generalize mostB Ps = M1 at *
        generalize manyB Ps p = M2 at *
        refine wp_region_held_drew (S := MSw p w.heap.size w3) (by kernel_rfl) (hM0) (fun hH => ?_)
        refine hTk (i := 0) (v := ?_) (hy := Or.inl ⟨by rfl, ?_⟩) (h := ?_); rotate_left 1; (intro w0 hS; (try dsimp only at hS); unfold MSw at hS; go_simp; try with_reducible rfl); (try go_frame)
        refine hTk (i := 2) (v := ?_) (hy := Or.inl ⟨by rfl, ?_⟩) (h := ?_); rotate_left 1; (intro w0 hS; (try dsimp only at hS); unfold MSw at hS; go_simp; try with_reducible rfl); (try go_frame)
        refine wpAnyH_ready (rs := [1]) (by kernel_rfl) (by simp) ?_; refine hCo (h := fun K hK => ?_) (hs := AllReadyH.nil); go_simp
        refine (HM _ hH.1).mono ?_
        rintro e w8 ⟨rfl, hx8⟩
        refine hK.out _ _ (hH.ext (by first | assumption | exact Ext.alloc (Ext.refl _) _)) (fun hH => ?_); clear hK; (try go_frame)
        refine wpAnyH_ready (rs := [3]) (by kernel_rfl) (by simp) ?_; refine hCo (h := fun K hK => ?_) (hs := AllReadyH.nil); go_simp
        refine (HMR _ hH.1).mono ?_
        rintro e w8 ⟨rfl, hx8⟩
        refine hK.out _ _ (hH.ext (by first | assumption | exact Ext.alloc (Ext.refl _) _)) (fun hH => ?_); clear hK; (try go_frame)
        refine hTk (i := 4) (v := ?_) (hy := Or.inl ⟨by rfl, ?_⟩) (h := ?_); rotate_left 1; (intro w0 hS; (try dsimp only at hS); unfold MSw at hS; go_simp; try with_reducible rfl); (try go_frame)
        refine hTk (i := 5) (v := ?_) (hy := Or.inl ⟨by rfl, ?_⟩) (h := ?_); rotate_left 1; (intro w0 hS; (try dsimp only at hS); unfold MSw at hS; go_simp; try with_reducible rfl); (try go_frame)
        refine hTk (i := 6) (v := ?_) (hy := Or.inl ⟨by rfl, ?_⟩) (h := ?_); rotate_left 1; (intro w0 hS; (try dsimp only at hS); unfold MSw at hS; go_simp; try with_reducible rfl); (try go_frame)
        refine hTk (i := 7) (v := ?_) (hy := Or.inl ⟨by rfl, ?_⟩) (h := ?_); rotate_left 1; (intro w0 hS; (try dsimp only at hS); unfold MSw at hS; go_simp; try with_reducible rfl); (try go_frame)
        refine hTk (i := 9) (v := ?_) (hy := Or.inl ⟨by rfl, ?_⟩) (h := ?_); rotate_left 1; (intro w0 hS; (try dsimp only at hS); unfold MSw at hS; go_simp; try with_reducible rfl); (try go_frame)
        refine hTk (i := 10) (v := ?_) (hy := Or.inl ⟨by rfl, ?_⟩) (h := ?_); rotate_left 1; (intro w0 hS; (try dsimp only at hS); unfold MSw at hS; go_simp; try with_reducible rfl); (try go_frame)
        refine wpAnyH_ready (rs := [8]) (by kernel_rfl) (by simp) ?_; refine hCo (h := fun K hK => ?_) (hs := AllReadyH.nil); go_simp
        refine (HY _ hH.1).mono ?_
        rintro e w8 ⟨rfl, hx8⟩
        refine hK.out _ _ (hH.ext (by first | assumption | exact Ext.alloc (Ext.refl _) _)) (fun hH => ?_); clear hK; (try go_frame)
        refine wpAnyH_ready (rs := [11]) (by kernel_rfl) (by simp) ?_; refine hCo (h := fun K hK => ?_) (hs := AllReadyH.nil); go_simp
        refine (HYR _ hH.1).mono ?_
        rintro e w8 ⟨rfl, hx8⟩
        refine hK.out _ _ (hH.ext (by first | assumption | exact Ext.alloc (Ext.refl _) _)) (fun hH => ?_); clear hK; (try go_frame)
        refine hTk (i := 12) (v := ?_) (hy := Or.inl ⟨by rfl, ?_⟩) (h := ?_); rotate_left 1; (intro w0 hS; (try dsimp only at hS); unfold MSw at hS; go_simp; try with_reducible rfl); (try go_frame)
        refine hTk (i := 13) (v := ?_) (hy := Or.inl ⟨by rfl, ?_⟩) (h := ?_); rotate_left 1; (intro w0 hS; (try dsimp only at hS); unfold MSw at hS; go_simp; try with_reducible rfl); (try go_frame)
        refine hTk (i := 14) (v := ?_) (hy := Or.inl ⟨by rfl, ?_⟩) (h := ?_); rotate_left 1; (intro w0 hS; (try dsimp only at hS); unfold MSw at hS; go_simp; try with_reducible rfl); (try go_frame)
        refine hTk (i := 15) (v := ?_) (hy := Or.inl ⟨by rfl, ?_⟩) (h := ?_); rotate_left 1; (intro w0 hS; (try dsimp only at hS); unfold MSw at hS; go_simp; try with_reducible rfl); (try go_frame)
        refine hTk (i := 17) (v := ?_) (hy := Or.inl ⟨by rfl, ?_⟩) (h := ?_); rotate_left 1; (intro w0 hS; (try dsimp only at hS); unfold MSw at hS; go_simp; try with_reducible rfl); (try go_frame)
        refine wpAnyH_ready (rs := [16]) (by kernel_rfl) (by simp) ?_; refine hCo (h := fun K hK => ?_) (hs := AllReadyH.nil); go_simp
        refine (HOV _).mono ?_
        rintro e w8 ⟨rfl, hx8⟩
        refine hK.out _ _ (hH.ext (by first | assumption | exact Ext.alloc (Ext.refl _) _)) (fun hH => ?_); clear hK; (try go_frame)
        refine wpAnyH_ready (rs := [18]) (by kernel_rfl) (by simp) ?_; refine hCo (h := fun K hK => ?_) (hs := AllReadyH.nil); go_simp
        refine (HOR _).mono ?_
        rintro e w8 ⟨rfl, hx8⟩
        refine hK.out _ _ (hH.ext (by first | assumption | exact Ext.alloc (Ext.refl _) _)) (fun hH => ?_); clear hK; (try go_frame)
        refine hTk (i := 19) (v := ?_) (hy := Or.inl ⟨by rfl, ?_⟩) (h := ?_); rotate_left 1; (intro w0 hS; (try dsimp only at hS); unfold MSw at hS; go_simp; try with_reducible rfl); (try go_frame)
        refine hTk (i := 20) (v := ?_) (hy := Or.inl ⟨by rfl, ?_⟩) (h := ?_); rotate_left 1; (intro w0 hS; (try dsimp only at hS); unfold MSw at hS; go_simp; try with_reducible rfl); (try go_frame)
        refine hTk (i := 21) (v := ?_) (hy := Or.inl ⟨by rfl, ?_⟩) (h := ?_); rotate_left 1; (intro w0 hS; (try dsimp only at hS); unfold MSw at hS; go_simp; try with_reducible rfl); (try go_frame)
        refine wpAnyH_ready (rs := [22]) (by kernel_rfl) (by simp) ?_; refine hCo (h := fun K hK => ?_) (hs := AllReadyH.nil); go_simp
        refine (HAW _ hH.1).mono ?_
        rintro e w8 ⟨rfl, hx8⟩
        refine hK.out _ _ (hH.ext (by first | assumption | exact Ext.alloc (Ext.refl _) _)) (fun hH => ?_); clear hK; (try go_frame)
        refine hTk (i := 23) (v := ?_) (hy := Or.inl ⟨by rfl, ?_⟩) (h := ?_); rotate_left 1; (intro w0 hS; (try dsimp only at hS); unfold MSw at hS; go_simp; try with_reducible rfl); (try go_frame)
        refine hTk (i := 24) (v := ?_) (hy := Or.inl ⟨by rfl, ?_⟩) (h := ?_); rotate_left 1; (intro w0 hS; (try dsimp only at hS); unfold MSw at hS; go_simp; try with_reducible rfl); (try go_frame)
        refine wpAnyH_done (by kernel_rfl) ?_ _
        have hx9 := hH.1
        clear hM0 hH
        go_wp2
        go_ret
        exact Ret.mk' rfl (hE3.trans hx9)
end Go.Proofs.YtdmgimfgoajmjaaGreatDoor
