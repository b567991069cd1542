/- A new game, and the chapter's example of the fourteenth law, in the program. -/
import Derived.Test.YtdmgimfgoajmjaaGreatDoorC41
import Derived.Test.YtdmgimfgoajmjaaGreatDoorC45
set_option linter.unusedVariables false
set_option linter.unusedSimpArgs false
set_option maxRecDepth 100000
set_option maxHeartbeats 4000000
namespace Go.Proofs.YtdmgimfgoajmjaaGreatDoor
open Go.RowKit Go.Maps
theorem NewG_any (w : World) (ht : Tab10 w.heap.size w) :
 Calls Tryz.prog 54 #[] w (fun e w' => ∃ g b m, e = .returned (.pointer (some ⟨g, 0, none⟩)) ∧ PG g b m (.slice none 0 0) (fromS startP) w' ∧ (∀ k, footG g b m (.slice none 0 0) k → w.heap.size ≤ k) ∧ Ext w w') := by
 have hF := fun W (h : Ext w W) => FromG_yes startP W gaw_pos (ht.up h)
 go_enter Tryz.func54, Tryz.ntmps54
 go_wp2_with (first
  | (go_at_call 93; (with_reducible refine (Start_any _).mono ?_); rintro e w1 ⟨rfl, hx1⟩; have hF1 := hF _ hx1)
  | (go_at_call 40; (with_reducible refine hF1.mono ?_); rintro e w2 ⟨g, b, m, rfl, hp, hb, hx2⟩))
 go_ret
 exact ⟨g, b, m, rfl, hp, fun k hk => Nat.le_trans hx1.le (hb k hk), hx1.trans hx2⟩
def gawC : Array Value := #[.int .i64 13, .int .i64 21, .int .i64 0, .int .i64 52, .int .i64 36, .int .i64 0, .int .i64 14, .int .i64 30, .int .i64 0, .int .i64 59, .int .i64 31, .int .i64 0]
theorem gaw_sl {W : World} {g : Nat} {T : TypeId} (h : blk W g = some (.cells gawC T (0, 0))) : Sl W 3 (.slice (some ⟨g, 0, none⟩) 4 4) 4 (mvsC [gawM 0, gawM 1, gawM 2, gawM 3]) := by
 refine ⟨by rw [mvsC_len]; rfl, .inr ⟨g, 0, 4, rfl, blk_lt h, fun j u hu => ?_⟩⟩
 rw [show mvsC [gawM 0, gawM 1, gawM 2, gawM 3] = gawC.toList from rfl] at hu
 rw [blk_cell h, Nat.zero_add, ← Array.getElem?_toList]
 exact hu
theorem GAwake_any (w : World) (ht : Tab10 w.heap.size w) : Calls Tryz.prog 39 #[] w (Ret (.bool true) w) := by
 have ho : positionB (fromS startP).at_ = true := gaw_pos
 obtain ⟨g2, g1, g3⟩ := gaw_end
 have hPl := fun (g b m gb : Nat) (W : World) (h : PG g b m (.slice none 0 0) (fromS startP) W) (hb : ∀ k, footG g b m (.slice none 0 0) k → w.heap.size ≤ k) (hx : Ext w W) (hs : blk W gb = some (.cells gawC 51 (0, 0))) (hn : ¬ footG g b m (.slice none 0 0) gb) =>
  PlayG_any g b m w.heap.size (.slice none 0 0) (fromS startP) [gawM 0, gawM 1, gawM 2, gawM 3] (.slice (some ⟨gb, 0, none⟩) 4 4) W h ho (Sl.mv (ms := [gawM 0, gawM 1, gawM 2, gawM 3]) (gaw_sl hs)) (fun _ gb' off c e => by injection e with e; injection e with e; injection e with e; rw [← e]; exact hn) hb (fun w5 hb5 => ht w5 (Below.trans hx hb5)) (by show 1 + 4 ≤ 800; omega)
 rw [gaw_play] at hPl
 have HPL := hid hPl
 clear hPl ho
 generalize hs4 : gaw 4 = s4 at *
 clear hs4
 go_enter Tryz.func39, Tryz.ntmps39
 go_upto_region 2 with (go_at_call 54; (with_reducible refine (NewG_any w ht).mono ?_); rintro e w1 ⟨g, b, m, rfl, hp, hb, hx1⟩)
 have hA := Ext.alloc (Ext.refl w1) (.cells gawC 51)
 have h1 := HPL.out g b m w1.heap.size (w1.alloc (.cells gawC 51)) (hp.ext hA) hb (hx1.trans hA) (blk_alloc_at _ _ _ rfl) (fun h => by have := hp.foot_lt _ h; omega)
 have HB := hid hb
 have HX := hid (hx1.trans hA)
 clear hp hb hx1 hA
 unfold gawC at h1 HX
 go_upto_region 3 with (go_at_call 42; (with_reducible refine h1.mono ?_); rintro e w2 ⟨rfl, mv, hp2, hf2, hb2, -⟩)
 have hE2 : Ext w w2 := hf2.toExt HX.out HB.out
 have hRs := fun W (hx : Ext w2 W) => Result_any (hp2.ext hx)
 have hMv := fun W (hx : Ext w2 W) => MovesG_any (hp2.ext hx) (by omega)
 rw [g1, g2] at hRs
 clear h1 hf2 hb2 hp2 HB HX
 go_wp2_with (first
  | (go_at_call 47; (with_reducible refine (hRs _ (Ext.refl _)).mono ?_); rintro e w3 ⟨rfl, hx3⟩)
  | (go_at_call 49; (with_reducible refine (hMv _ hx3).mono ?_); rintro e w4 ⟨v, rfl, ho4, hx4⟩; (obtain ⟨a4, c4, rfl⟩ := (Sl.of_own ho4).form); rw [g3])
  | go_in)
 go_ret
 exact Ret.mk' rfl (hE2.trans (hx3.trans hx4))
end Go.Proofs.YtdmgimfgoajmjaaGreatDoor
