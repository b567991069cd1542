/- The laws of games: does a game stand as the document's? -/
import Derived.Test.YtdmgimfgoajmjaaGreatDoorC39
import Derived.Test.YtdmgimfgoajmjaaGreatDoorC41
import Derived.Test.YtdmgimfgoajmjaaGreatDoorC42
import Derived.Test.YtdmgimfgoajmjaaGreatDoorC01
set_option linter.unusedVariables false
set_option linter.unusedSimpArgs false
set_option maxRecDepth 100000
set_option maxHeartbeats 4000000
namespace Go.Proofs.YtdmgimfgoajmjaaGreatDoor
open Go.RowKit Go.Maps
theorem eqIn_mv (a b c : Int) (w : World) : (Op.equalIn 10000 51 (.agg #[.int .i64 a, .int .i64 b, .int .i64 c]) (.agg #[.int .i64 a, .int .i64 b, .int .i64 c])).run Tryz.prog w = .ok true w := by go_simp
@[go_sem high] theorem neq_mv (a b c : Int) (w : World) : (binOp .neq 51 (.agg #[.int .i64 a, .int .i64 b, .int .i64 c]) (.agg #[.int .i64 a, .int .i64 b, .int .i64 c])).run Tryz.prog w = .ok (.bool false) w := by
  rw [run_neq_struct, eqIn_mv]; rfl
abbrev MSsm.T (g : Nat) (cs : Array Value) (mv : Value) (r y : Int) (w W : World) : Prop := Ext w W ∧ blk W g = some (.cells cs 65 (0, 0)) ∧ W.cell? ⟨g, 134, none⟩ = some mv ∧ W.cell? ⟨g, 135, none⟩ = some (.int .i64 r) ∧ W.cell? ⟨g, 136, none⟩ = some (.int .i64 y)
def MSsm (g : Nat) (cs : Array Value) (mv : Value) (r y : Int) (w W : World) : Prop := MSsm.T g cs mv r y w W
theorem MSsm.u {g cs mv r y w} (W) (h : MSsm g cs mv r y w W) : MSsm.T g cs mv r y w W := h
theorem MSsm.ext {g : Nat} {cs : Array Value} {mv : Value} {r y : Int} {w W W' : World} (h : MSsm g cs mv r y w W) (hx : Ext W W') : MSsm g cs mv r y w W' := by
 obtain ⟨h1, h2, h3, h4, h5⟩ := h
 have l := blk_lt h2
 exact ⟨h1.trans hx, (hx.blk _ l).trans h2, (hx.cell _ _ l).trans h3, (hx.cell _ _ l).trans h4, (hx.cell _ _ l).trans h5⟩
abbrev MSs8.T (g1 i1 g2 i2 g : Nat) (mv : Value) (x : Mv) (w W : World) : Prop := Ext w W ∧ W.cell? ⟨g1, i1, none⟩ = some (.int .i64 x.fr) ∧ W.cell? ⟨g1, i1 + 1, none⟩ = some (.int .i64 x.to_) ∧ W.cell? ⟨g1, i1 + 2, none⟩ = some (.int .i64 x.be) ∧ W.cell? ⟨g2, i2, none⟩ = some (.int .i64 x.fr) ∧ W.cell? ⟨g2, i2 + 1, none⟩ = some (.int .i64 x.to_) ∧ W.cell? ⟨g2, i2 + 2, none⟩ = some (.int .i64 x.be) ∧ W.cell? ⟨g, 134, none⟩ = some mv
def MSs8 (g1 i1 g2 i2 g : Nat) (mv : Value) (x : Mv) (w W : World) : Prop := MSs8.T g1 i1 g2 i2 g mv x w W
theorem MSs8.u {g1 i1 g2 i2 g mv x w} (W) (h : MSs8 g1 i1 g2 i2 g mv x w W) : MSs8.T g1 i1 g2 i2 g mv x w W := h
theorem sameG_any {g b m gr : Nat} {mv bv mvr : Value} {s : GS} {w : World} (h : PG g b m mv s w) (hr : RG gr bv mvr s w) (hok : positionB s.at_ = true) (ht : Tab10 w.heap.size w) (hn : s.ps.length ≤ 1000) (hm : s.ms.length ≤ 10000) :
 Calls Tryz.prog 43 #[.pointer (some ⟨g, 0, none⟩), .pointer (some ⟨gr, 0, none⟩)] w (Ret (.bool true) w) := by
 have hR := Result_any h
 have HP := hid h
 have HR := hid hr
 have HT := hid ht
 have HRN := hid (rng_pos hok)
 obtain ⟨ar, cr, rfl⟩ := (Sl.of_own hr.own).form
 have hMV := fun W (hx : Ext w W) => MovesG_any (h.ext hx) (by omega)
 have hNO := fun W (hx : Ext w W) => Now_any (h.ext hx)
 clear h hr ht hok
 go_enter Tryz.func43, Tryz.ntmps43
 go_upto_region 3 with (first
  | (go_at_call 47; (with_reducible refine hR.mono ?_); rintro e w1 ⟨rfl, hx1⟩)
  | (go_at_call 49; (with_reducible refine (hMV _ hx1).mono ?_); rintro e w2 ⟨v2, rfl, ho2, hx2⟩; obtain ⟨a2, c2, rfl⟩ := (Sl.of_own ho2).form))
 have hE2 := hx1.trans hx2
 have hr2 := HR.out.ext hE2
 have hg2 := hr2.game
 have hM0 : MSsm gr (rgC s.at_ bv (.slice ar s.ms.length cr) s.res s.why) (.slice ar s.ms.length cr) s.res s.why w2 w2.drew := ⟨(Ext.refl _).drew, hg2, (blk_cell hg2 134).trans (rg_134 ..), (blk_cell hg2 135).trans (rg_135 ..), (blk_cell hg2 136).trans (rg_136 ..)⟩
 have hSa := Sl.of_own ho2
 have hSb := Sl.of_own hr2.own
 clear hR hMV hr2 ho2 hx1 hx2
 refine wp_region_held_drew (S := MSsm gr (rgC s.at_ bv (.slice ar s.ms.length cr) s.res s.why) (.slice ar s.ms.length cr) s.res s.why w2) (by kernel_rfl) (hM0) (fun hH => ?_)
 refine hTz MSsm.u 0 ?_; (try go_frame)
 refine hTz MSsm.u 1 ?_; (try go_frame)
 refine hTz MSsm.u 2 ?_; (try go_frame)
 refine hTz MSsm.u 3 ?_; (try go_frame)
 refine hTz MSsm.u 4 ?_; (try go_frame)
 refine hTz MSsm.u 5 ?_; (try go_frame)
 refine hTz MSsm.u 6 ?_; (try go_frame)
 refine hTz MSsm.u 7 ?_; (try go_frame)
 refine hTz MSsm.u 8 ?_; (try go_frame)
 refine hTz MSsm.u 9 ?_; (try go_frame)
 refine hTz MSsm.u 10 ?_; (try go_frame)
 refine hTz MSsm.u 11 ?_; (try go_frame)
 refine hTz MSsm.u 12 ?_; (try go_frame)
 refine hTz MSsm.u 13 ?_; (try go_frame)
 refine hTz MSsm.u 14 ?_; (try go_frame)
 refine hTz MSsm.u 15 ?_; (try go_frame)
 refine hTz MSsm.u 17 ?_; (try go_frame)
 refine hTz MSsm.u 18 ?_; (try go_frame)
 refine hTz MSsm.u 19 ?_; (try go_frame)
 refine hTz MSsm.u 20 ?_; (try go_frame)
 refine hRy [16] (hCp (fun K hK => ?_) AllReadyH.nil); go_simp
 refine (hNO _ (hE2.trans hH.1)).mono ?_
 rintro e w8 ⟨rfl, hx8⟩
 refine hK.out _ _ (hH.ext (by assumption)) (fun hH => ?_); clear hK; (try go_frame)
 refine hTz MSsm.u 21 ?_; (try go_frame)
 refine hTz MSsm.u 22 ?_; (try go_frame)
 refine hTz MSsm.u 23 ?_; (try go_frame)
 refine hTz MSsm.u 24 ?_; (try go_frame)
 refine hTz MSsm.u 25 ?_; (try go_frame)
 refine hTz MSsm.u 26 ?_; (try go_frame)
 refine hTz MSsm.u 27 ?_; (try go_frame)
 refine hTz MSsm.u 28 ?_; (try go_frame)
 refine hTz MSsm.u 29 ?_; (try go_frame)
 refine hTz MSsm.u 30 ?_; (try go_frame)
 refine hTz MSsm.u 31 ?_; (try go_frame)
 refine hTz MSsm.u 32 ?_; (try go_frame)
 refine wpAnyH_done (by kernel_rfl) ?_ _
 have hx9 := hH.1
 clear hH hM0 hNO
 go_wp2
 go_loopw [8] (fun i wr => ∃ k : Nat, i = .int .i64 k ∧ k ≤ s.ms.length ∧ Ext w2 wr) (fun i _ => s.ms.length - (intOf i).toNat)
 case atStart => exact ⟨0, rfl, by omega, hx9⟩
 case round =>
  obtain ⟨k, rfl, hk, hxr⟩ := hrel
  clear hx9
  by_cases hlt : k < s.ms.length
  ·obtain ⟨x, hx⟩ : ∃ x, s.ms[k]? = some x := ⟨_, List.getElem?_eq_getElem hlt⟩
   obtain ⟨g1, o1, rfl, hg1, hc1⟩ := hSa.pos (by omega)
   obtain ⟨g3, o3, rfl, hg3, hc3⟩ := hSb.pos (by omega)
   have c0 := hc1 (k * 3) _ (mvsC_at hx 0 (by omega))
   have c1 := hc1 (k * 3 + 1) _ (mvsC_at hx 1 (by omega))
   have c2' := hc1 (k * 3 + 2) _ (mvsC_at hx 2 (by omega))
   have d0 := hc3 (k * 3) _ (mvsC_at hx 0 (by omega))
   have d1 := hc3 (k * 3 + 1) _ (mvsC_at hx 1 (by omega))
   have d2 := hc3 (k * 3 + 2) _ (mvsC_at hx 2 (by omega))
   simp only [mvE, List.getElem!_cons_zero, List.getElem!_cons_succ] at c0 c1 c2' d0 d1 d2
   rw [← Nat.add_assoc] at c1 c2' d1 d2
   have hM8 : MSs8 g1 (o1 + k * 3) g3 (o3 + k * 3) gr (.slice (some ⟨g3, o3, none⟩) s.ms.length cr) x w2 wr.drew := ⟨hxr.drew, (hxr.cell _ _ hg1).trans c0, (hxr.cell _ _ hg1).trans c1, (hxr.cell _ _ hg1).trans c2', (hxr.cell _ _ hg3).trans d0, (hxr.cell _ _ hg3).trans d1, (hxr.cell _ _ hg3).trans d2, (hxr.cell _ _ (blk_lt hg2)).trans ((blk_cell hg2 134).trans (rg_134 ..))⟩
   clear hx hc1 hc3 c0 c1 c2' d0 d1 d2 hSa hSb
   go_wp2
   refine wp_region_held_drew (S := MSs8 g1 (o1 + k * 3) g3 (o3 + k * 3) gr (.slice (some ⟨g3, o3, none⟩) s.ms.length cr) x w2) (by kernel_rfl) (hM8) (fun hH => ?_)
   refine hTz MSs8.u 0 ?_; (try go_frame)
   refine hTz MSs8.u 1 ?_; (try go_frame)
   refine hTz MSs8.u 2 ?_; (try go_frame)
   refine hTz MSs8.u 3 ?_; (try go_frame)
   refine hTz MSs8.u 4 ?_; (try go_frame)
   refine hTz MSs8.u 5 ?_; (try go_frame)
   refine hTz MSs8.u 6 ?_; (try go_frame)
   refine hTz MSs8.u 7 ?_; (try go_frame)
   refine hTz MSs8.u 8 ?_; (try go_frame)
   refine hTz MSs8.u 9 ?_; (try go_frame)
   refine hTz MSs8.u 10 ?_; (try go_frame)
   refine hTz MSs8.u 11 ?_; (try go_frame)
   refine wpAnyH_done (by kernel_rfl) ?_ _
   have hx9 := hH.1
   clear hH hM8
   go_wp2
   go_roundw
   case rel => exact ⟨k + 1, by go_num, by omega, hx9⟩
   case measure => simp [intOf]; omega
  ·obtain rfl : k = s.ms.length := by omega
   clear hSa hSb
   go_wp2
   go_loopw [9] (fun i wr => ∃ j : Nat, i = .int .i64 ((j : Int) - 1) ∧ j ≤ 13 ∧ Ext w2 wr) (fun i _ => 13 - ((intOf i) + 1).toNat)
   case atStart => exact ⟨0, rfl, by omega, hxr⟩
   case round =>
    obtain ⟨j, rfl, hj, hxj⟩ := hrel
    clear hxr
    have hEj := hE2.trans hxj
    by_cases hlt2 : j < 13
    ·have h12 : (j : Int) - 1 < 12 := by omega
     have hA := MayG_any ((j : Int) - 1) (HP.out.ext hEj) HRN.out (HT.out.up hEj)
     have hB := fun W (hx : Ext wr W) => rMayG_any ((j : Int) - 1) (HR.out.ext (hEj.trans hx)) hn
     generalize mayS s ((j : Int) - 1) = M at *
     go_wp2_with (first
      | (go_at_call 57; (with_reducible refine hA.mono ?_); rintro e w5 ⟨rfl, hx5⟩)
      | (go_at_call 85; (with_reducible refine (hB _ hx5).mono ?_); rintro e w6 ⟨rfl, hx6⟩))
     go_roundw
     case rel => exact ⟨j + 1, by go_num, by omega, hxj.trans (hx5.trans hx6)⟩
     case measure => simp [intOf]; omega
    ·have h12 : ¬ (j : Int) - 1 < 12 := by omega
     go_wp2
     go_ret
     exact Ret.mk' rfl hEj
structure Dd where
 what : Int
 mv : Mv
 why : Int
def ddC (d : Dd) : Array Value := #[.int .i64 d.what, .int .i64 d.mv.fr, .int .i64 d.mv.to_, .int .i64 d.mv.be, .int .i64 d.why]
def doS (s : GS) (d : Dd) : GS := if d.what % 3 = 0 then (playG s [d.mv]).1 else if d.what % 3 = 1 then claimS s d.why else stopS s d.why
abbrev MSdo.T (tb : Nat) (d : Dd) (F : Nat → Prop) (w W : World) : Prop := Fr F w W ∧ W.cell? ⟨tb, 1, none⟩ = some (.int .i64 d.mv.fr) ∧ W.cell? ⟨tb, 2, none⟩ = some (.int .i64 d.mv.to_) ∧ W.cell? ⟨tb, 3, none⟩ = some (.int .i64 d.mv.be) ∧ W.cell? ⟨tb, 4, none⟩ = some (.int .i64 d.why) ∧ tb < W.heap.size
def MSdo (tb : Nat) (d : Dd) (F : Nat → Prop) (w W : World) : Prop := MSdo.T tb d F w W
theorem MSdo.u {tb d F w} (W) (h : MSdo tb d F w W) : MSdo.T tb d F w W := h
theorem MSdo.fr {tb : Nat} {d : Dd} {F G : Nat → Prop} {w W W' : World} (h : MSdo tb d F w W) (hx : Fr G W W') (ht : ¬ G tb) (hG : ∀ k, k < w.heap.size → G k → F k) : MSdo tb d F w W' := by
 obtain ⟨h1, h2, h3, h4, h5, h6⟩ := h
 have kc : ∀ o, W'.cell? ⟨tb, o, none⟩ = W.cell? ⟨tb, o, none⟩ := fun o => World.cell?_of_block (hx.keep tb h6 ht)
 exact ⟨h1.trans hx hG, (kc _).trans h2, (kc _).trans h3, (kc _).trans h4, (kc _).trans h5, Nat.lt_of_lt_of_le h6 hx.size⟩
theorem MSdo.ext {tb : Nat} {d : Dd} {F : Nat → Prop} {w W W' : World} (h : MSdo tb d F w W) (hx : Ext W W') : MSdo tb d F w W' := h.fr (Fr.ext (F := fun _ => False) hx) (fun h => h) (fun _ _ h => h.elim)
structure Two (g b m gr : Nat) (mv bv mvr : Value) (s : GS) (W : World) : Prop where
 p : PG g b m mv s W
 r : RG gr bv mvr s W
 dis : ∀ k, footG g b m mv k → ¬ footR gr bv mvr k
theorem Two.ext {g b m gr : Nat} {mv bv mvr : Value} {s : GS} {W W' : World} (h : Two g b m gr mv bv mvr s W) (hx : Ext W W') : Two g b m gr mv bv mvr s W' := ⟨h.p.ext hx, h.r.ext hx, h.dis⟩
def footT (g b m gr : Nat) (mv bv mvr : Value) (k : Nat) : Prop := footG g b m mv k ∨ footR gr bv mvr k
theorem Two.foot_lt {g b m gr : Nat} {mv bv mvr : Value} {s : GS} {W : World} (h : Two g b m gr mv bv mvr s W) : ∀ k, footT g b m gr mv bv mvr k → k < W.heap.size := fun k hk => hk.elim (h.p.foot_lt k) (h.r.foot_lt k)
theorem pick3 (x : Int) : pickI x 3 = x % 3 := by unfold pickI; rw [if_neg (by omega)]
theorem not_foot {n N : Nat} {F : Nat → Prop} (hl : N ≤ n) (hF : ∀ k, F k → k < N) : ∀ gb off c, Value.slice (some ⟨n, 0, none⟩) 1 1 = .slice (some ⟨gb, off, none⟩) 1 c → ¬ F gb := by
 intro gb off c e h
 injection e with e
 injection e with e
 injection e with e
 subst e
 have := hF _ h
 omega
def DoPost (g b m gr : Nat) (mv bv mvr : Value) (s' : GS) (w : World) (e : Ending) (w' : World) : Prop :=
 e = .returned (.bool true) ∧ ∃ mv' bv' mvr', Two g b m gr mv' bv' mvr' s' w' ∧ Fr (footT g b m gr mv bv mvr) w w' ∧ (∀ k, footT g b m gr mv' bv' mvr' k → footT g b m gr mv bv mvr k ∨ w.heap.size ≤ k) ∧ positionB s'.at_ = true
theorem doG_any {g b m gr B : Nat} {mv bv mvr : Value} {s : GS} (d : Dd) {w : World} (h : Two g b m gr mv bv mvr s w) (hok : positionB s.at_ = true) (hB : ∀ k, footT g b m gr mv bv mvr k → B ≤ k) (ht : Tab10 B w) (hn : s.ps.length ≤ 700) (hw : -9223372036854775808 ≤ d.what ∧ d.what ≤ 9223372036854775807) :
 Calls Tryz.prog 53 #[.pointer (some ⟨g, 0, none⟩), .pointer (some ⟨gr, 0, none⟩), .agg (ddC d)] w (DoPost g b m gr mv bv mvr (doS s d) w) := by
 have hPK := fun W => Pick_any d.what 3 W hw (by omega)
 rw [pick3] at hPK
 have hfl := h.foot_lt
 have hBw : B ≤ w.heap.size := Nat.le_trans (hB g (.inl (.inl rfl))) (Nat.le_of_lt (h.p.foot_lt g (.inl rfl)))
 have HT := hid h
 have HOK := hid hok
 have HB := hid hB
 have HTB := hid ht
 have hdis := h.dis
 have HFL := hid hfl
 clear h hok hB ht hfl hw
 unfold ddC
 have hm3 : d.what % 3 = 0 ∨ d.what % 3 = 1 ∨ d.what % 3 = 2 := by omega
 rcases hm3 with h3 | h3 | h3
 ·have HS := hid (show doS s d = (playG s [d.mv]).1 from if_pos h3)
  rw [h3] at hPK
  clear h3
  go_enter Tryz.func53, Tryz.ntmps53
  go_upto_region 3 with (go_at_call 31; (with_reducible refine (hPK _).mono ?_); rintro e w1 ⟨rfl, hx1⟩)
  have hb0 : blk w1 w.heap.size = some (.cells #[.int .i64 d.what, .int .i64 d.mv.fr, .int .i64 d.mv.to_, .int .i64 d.mv.be, .int .i64 d.why] 91 (0, 0)) := (hx1.blk _ (by simp)).trans (blk_alloc_at _ _ _ rfl)
  have hE1 : Ext w w1 := Ext.trans (Ext.auto) hx1
  have hM0 : MSdo w.heap.size d (footT g b m gr mv bv mvr) w w1.drew := ⟨Fr.ext hE1.drew, blk_cell hb0 1, blk_cell hb0 2, blk_cell hb0 3, blk_cell hb0 4, blk_lt hb0⟩
  have hT0 := HT.out.ext hE1.drew
  have htG : ¬ footG g b m mv w.heap.size := fun h => by have := HFL.out _ (.inl h); omega
  have htR : ¬ footR gr bv mvr w.heap.size := fun h => by have := HFL.out _ (.inr h); omega
  clear hb0 hx1 hE1 HT hPK
  refine held_ini (S := MSdo w.heap.size d (footT g b m gr mv bv mvr) w) (fun W => Two g b m gr mv bv mvr s W) (by kernel_rfl) (hM0) (hT0) (fun W0 hH hI => ?_)
  refine hTz MSdo.u 0 ?_; (try go_frame)
  refine hTz MSdo.u 1 ?_; (try go_frame)
  refine hTz MSdo.u 2 ?_; (try go_frame)
  refine hTz MSdo.u 5 ?_; (try go_frame)
  refine hTz MSdo.u 6 ?_; (try go_frame)
  refine hTz MSdo.u 7 ?_; (try go_frame)
  refine hRy [3, 8] (hCp (fun K hK => ?_) (hCp (fun K hK => ?_) AllReadyH.nil))
  ·go_simp
   obtain ⟨n3, W3, e3, f3, hb3, hx3⟩ := new_blk _ (.cells #[.int .i64 d.mv.fr, .int .i64 d.mv.to_, .int .i64 d.mv.be] 51)
   have hH3 := hH.ext hx3
   have hl3 := Nat.le_trans hH.1.size (Nat.le_of_eq e3)
   rw [e3, f3]
   have hb3 : blk W3 n3 = some (.cells (mvC d.mv) 51 (0, 0)) := hb3
   have hI := hI.ext hx3
   try have hb8 := (hx3.blk _ (blk_lt hb8)).trans hb8
   refine hK.out _ _ (by first | exact hH9 | exact hH4 | exact hH8 | exact hH3) (fun hH => ?_); clear hK; (try go_frame)
   refine hRy [4, 8] (hCp (fun K hK => ?_) (hCp (fun K hK => ?_) AllReadyH.nil))
   ·go_simp
    have hs4 := hH.1.size
    refine (PlayG_any g b m B mv s [d.mv] (.slice (some ⟨n3, 0, none⟩) 1 1) _ hI.p HOK.out (Sl.mv (ms := [d.mv]) (Sl.of_blk hb3 3 1 rfl 1)) (fun _ => not_foot hl3 (fun k h => HFL.out k (.inl h))) (fun k h => HB.out k (.inl h)) (HTB.out.fr hH.1 HB.out hBw) (by simp; omega)).mono ?_
    rintro e w4 ⟨rfl, mv4, hP4, hf4, hg4, hok4⟩
    have hQ4 := hI.r.fr hf4 (fun k hk h => hdis k h hk)
    have hg4' : ∀ k, footG g b m mv4 k → footG g b m mv k ∨ w.heap.size ≤ k := fun k hk => (hg4 k hk).imp id (Nat.le_trans hs4)
    have hH4 := hH.fr hf4 htG (fun k _ h => .inl h)
    clear hI
    try have hb8 := (hf4.keep _ (blk_lt hb8) (fun h => by have := HFL.out _ (.inl h); omega)).trans hb8
    refine hK.out _ _ (by first | exact hH9 | exact hH4 | exact hH8 | exact hH3) (fun hH => ?_); clear hK; (try go_frame)
    refine hRy [8] (hCp (fun K hK => ?_) AllReadyH.nil); go_simp
    obtain ⟨n8, W8, e8, f8, hb8, hx8⟩ := new_blk _ (.cells #[.int .i64 d.mv.fr, .int .i64 d.mv.to_, .int .i64 d.mv.be] 51)
    have hH8 := hH.ext hx8
    have hl8 := Nat.le_trans hH.1.size (Nat.le_of_eq e8)
    rw [e8, f8]
    have hb8 : blk W8 n8 = some (.cells (mvC d.mv) 51 (0, 0)) := hb8
    try have hP4 := hP4.ext hx8
    try have hQ4 := hQ4.ext hx8
    try have hI := hI.ext hx8
    try have hb3 := (hx8.blk _ (blk_lt hb3)).trans hb3
    refine hK.out _ _ (by first | exact hH9 | exact hH4 | exact hH8 | exact hH3) (fun hH => ?_); clear hK; (try go_frame)
    refine hRy [9] (hCp (fun K hK => ?_) AllReadyH.nil); go_simp
    have hlt9 := hP4.foot_lt
    have hs9 := hH.1.size
    refine (rPlayG_any gr bv mvr s [d.mv] (.slice (some ⟨n8, 0, none⟩) 1 1) _ hQ4 HOK.out (Sl.mv (ms := [d.mv]) (Sl.of_blk hb8 3 1 rfl 1)) (fun _ => not_foot hl8 (fun k h => HFL.out k (.inr h))) (by simp; omega)).mono ?_
    rintro e w9 ⟨rfl, bv9, mv9, hQ9, hf9, hg9, -⟩
    have hP9 := hP4.fr hf9 (fun k hk h => (hg4' k hk).elim (fun e => hdis k e h) (fun e => by have := HFL.out k (.inr h); omega))
    have hg9' : ∀ k, footR gr bv9 mv9 k → footR gr bv mvr k ∨ w.heap.size ≤ k := fun k hk => (hg9 k hk).imp id (Nat.le_trans hs9)
    have hdis9 : ∀ k, footG g b m mv4 k → ¬ footR gr bv9 mv9 k := fun k h1 h2 => (hg9 k h2).elim (fun e => (hg4' k h1).elim (fun e1 => hdis k e1 e) (fun e1 => by have := HFL.out k (.inr e); omega)) (fun e => by have := hlt9 k h1; omega)
    have hH9 := hH.fr hf9 htR (fun k _ h => .inr h)
    have HF9 := hid (show ∃ mv' bv' mvr', Two g b m gr mv' bv' mvr' (playG s [d.mv]).1 w9 ∧ (∀ k, footT g b m gr mv' bv' mvr' k → footT g b m gr mv bv mvr k ∨ w.heap.size ≤ k) from ⟨mv4, bv9, mv9, ⟨hP9, hQ9, hdis9⟩, fun k hk => hk.elim (fun h => (hg4' k h).imp .inl id) (fun h => (hg9' k h).imp .inr id)⟩)
    have hB9 : ((playG s [d.mv]).2 == (playG s [d.mv]).2) = true := beq_self_eq_true _
    clear hP9 hQ9 hdis9 hP4 hQ4 hg4 hg9
    refine hK.out _ _ (by first | exact hH9 | exact hH4 | exact hH8 | exact hH3) (fun hH => ?_); clear hK; (try go_frame)
    refine hTz MSdo.u 10 ?_; (try go_frame)
    refine hTz MSdo.u 11 ?_; (try go_frame)
    refine wpAnyH_done (by kernel_rfl) ?_ _
    have hfr9 := hH.1
    clear hH hM0 hT0
    go_wp2
    go_ret
    obtain ⟨mv', bv', mvr', h1, h2⟩ := HF9.out
    exact ⟨rfl, mv', bv', mvr', by rw [HS.out]; exact h1, hfr9, h2, by rw [HS.out]; exact hok4⟩
   ·go_simp
    obtain ⟨n8, W8, e8, f8, hb8, hx8⟩ := new_blk _ (.cells #[.int .i64 d.mv.fr, .int .i64 d.mv.to_, .int .i64 d.mv.be] 51)
    have hH8 := hH.ext hx8
    have hl8 := Nat.le_trans hH.1.size (Nat.le_of_eq e8)
    rw [e8, f8]
    have hb8 : blk W8 n8 = some (.cells (mvC d.mv) 51 (0, 0)) := hb8
    try have hP4 := hP4.ext hx8
    try have hQ4 := hQ4.ext hx8
    try have hI := hI.ext hx8
    try have hb3 := (hx8.blk _ (blk_lt hb3)).trans hb3
    refine hK.out _ _ (by first | exact hH9 | exact hH4 | exact hH8 | exact hH3) (fun hH => ?_); clear hK; (try go_frame)
    refine hRy [4] (hCp (fun K hK => ?_) AllReadyH.nil); go_simp
    have hs4 := hH.1.size
    refine (PlayG_any g b m B mv s [d.mv] (.slice (some ⟨n3, 0, none⟩) 1 1) _ hI.p HOK.out (Sl.mv (ms := [d.mv]) (Sl.of_blk hb3 3 1 rfl 1)) (fun _ => not_foot hl3 (fun k h => HFL.out k (.inl h))) (fun k h => HB.out k (.inl h)) (HTB.out.fr hH.1 HB.out hBw) (by simp; omega)).mono ?_
    rintro e w4 ⟨rfl, mv4, hP4, hf4, hg4, hok4⟩
    have hQ4 := hI.r.fr hf4 (fun k hk h => hdis k h hk)
    have hg4' : ∀ k, footG g b m mv4 k → footG g b m mv k ∨ w.heap.size ≤ k := fun k hk => (hg4 k hk).imp id (Nat.le_trans hs4)
    have hH4 := hH.fr hf4 htG (fun k _ h => .inl h)
    clear hI
    try have hb8 := (hf4.keep _ (blk_lt hb8) (fun h => by have := HFL.out _ (.inl h); omega)).trans hb8
    refine hK.out _ _ (by first | exact hH9 | exact hH4 | exact hH8 | exact hH3) (fun hH => ?_); clear hK; (try go_frame)
    refine hRy [9] (hCp (fun K hK => ?_) AllReadyH.nil); go_simp
    have hlt9 := hP4.foot_lt
    have hs9 := hH.1.size
    refine (rPlayG_any gr bv mvr s [d.mv] (.slice (some ⟨n8, 0, none⟩) 1 1) _ hQ4 HOK.out (Sl.mv (ms := [d.mv]) (Sl.of_blk hb8 3 1 rfl 1)) (fun _ => not_foot hl8 (fun k h => HFL.out k (.inr h))) (by simp; omega)).mono ?_
    rintro e w9 ⟨rfl, bv9, mv9, hQ9, hf9, hg9, -⟩
    have hP9 := hP4.fr hf9 (fun k hk h => (hg4' k hk).elim (fun e => hdis k e h) (fun e => by have := HFL.out k (.inr h); omega))
    have hg9' : ∀ k, footR gr bv9 mv9 k → footR gr bv mvr k ∨ w.heap.size ≤ k := fun k hk => (hg9 k hk).imp id (Nat.le_trans hs9)
    have hdis9 : ∀ k, footG g b m mv4 k → ¬ footR gr bv9 mv9 k := fun k h1 h2 => (hg9 k h2).elim (fun e => (hg4' k h1).elim (fun e1 => hdis k e1 e) (fun e1 => by have := HFL.out k (.inr e); omega)) (fun e => by have := hlt9 k h1; omega)
    have hH9 := hH.fr hf9 htR (fun k _ h => .inr h)
    have HF9 := hid (show ∃ mv' bv' mvr', Two g b m gr mv' bv' mvr' (playG s [d.mv]).1 w9 ∧ (∀ k, footT g b m gr mv' bv' mvr' k → footT g b m gr mv bv mvr k ∨ w.heap.size ≤ k) from ⟨mv4, bv9, mv9, ⟨hP9, hQ9, hdis9⟩, fun k hk => hk.elim (fun h => (hg4' k h).imp .inl id) (fun h => (hg9' k h).imp .inr id)⟩)
    have hB9 : ((playG s [d.mv]).2 == (playG s [d.mv]).2) = true := beq_self_eq_true _
    clear hP9 hQ9 hdis9 hP4 hQ4 hg4 hg9
    refine hK.out _ _ (by first | exact hH9 | exact hH4 | exact hH8 | exact hH3) (fun hH => ?_); clear hK; (try go_frame)
    refine hTz MSdo.u 10 ?_; (try go_frame)
    refine hTz MSdo.u 11 ?_; (try go_frame)
    refine wpAnyH_done (by kernel_rfl) ?_ _
    have hfr9 := hH.1
    clear hH hM0 hT0
    go_wp2
    go_ret
    obtain ⟨mv', bv', mvr', h1, h2⟩ := HF9.out
    exact ⟨rfl, mv', bv', mvr', by rw [HS.out]; exact h1, hfr9, h2, by rw [HS.out]; exact hok4⟩
  ·go_simp
   obtain ⟨n8, W8, e8, f8, hb8, hx8⟩ := new_blk _ (.cells #[.int .i64 d.mv.fr, .int .i64 d.mv.to_, .int .i64 d.mv.be] 51)
   have hH8 := hH.ext hx8
   have hl8 := Nat.le_trans hH.1.size (Nat.le_of_eq e8)
   rw [e8, f8]
   have hb8 : blk W8 n8 = some (.cells (mvC d.mv) 51 (0, 0)) := hb8
   try have hP4 := hP4.ext hx8
   try have hQ4 := hQ4.ext hx8
   try have hI := hI.ext hx8
   try have hb3 := (hx8.blk _ (blk_lt hb3)).trans hb3
   refine hK.out _ _ (by first | exact hH9 | exact hH4 | exact hH8 | exact hH3) (fun hH => ?_); clear hK; (try go_frame)
   refine hRy [3] (hCp (fun K hK => ?_) AllReadyH.nil); go_simp
   obtain ⟨n3, W3, e3, f3, hb3, hx3⟩ := new_blk _ (.cells #[.int .i64 d.mv.fr, .int .i64 d.mv.to_, .int .i64 d.mv.be] 51)
   have hH3 := hH.ext hx3
   have hl3 := Nat.le_trans hH.1.size (Nat.le_of_eq e3)
   rw [e3, f3]
   have hb3 : blk W3 n3 = some (.cells (mvC d.mv) 51 (0, 0)) := hb3
   have hI := hI.ext hx3
   try have hb8 := (hx3.blk _ (blk_lt hb8)).trans hb8
   refine hK.out _ _ (by first | exact hH9 | exact hH4 | exact hH8 | exact hH3) (fun hH => ?_); clear hK; (try go_frame)
   refine hRy [4] (hCp (fun K hK => ?_) AllReadyH.nil); go_simp
   have hs4 := hH.1.size
   refine (PlayG_any g b m B mv s [d.mv] (.slice (some ⟨n3, 0, none⟩) 1 1) _ hI.p HOK.out (Sl.mv (ms := [d.mv]) (Sl.of_blk hb3 3 1 rfl 1)) (fun _ => not_foot hl3 (fun k h => HFL.out k (.inl h))) (fun k h => HB.out k (.inl h)) (HTB.out.fr hH.1 HB.out hBw) (by simp; omega)).mono ?_
   rintro e w4 ⟨rfl, mv4, hP4, hf4, hg4, hok4⟩
   have hQ4 := hI.r.fr hf4 (fun k hk h => hdis k h hk)
   have hg4' : ∀ k, footG g b m mv4 k → footG g b m mv k ∨ w.heap.size ≤ k := fun k hk => (hg4 k hk).imp id (Nat.le_trans hs4)
   have hH4 := hH.fr hf4 htG (fun k _ h => .inl h)
   clear hI
   try have hb8 := (hf4.keep _ (blk_lt hb8) (fun h => by have := HFL.out _ (.inl h); omega)).trans hb8
   refine hK.out _ _ (by first | exact hH9 | exact hH4 | exact hH8 | exact hH3) (fun hH => ?_); clear hK; (try go_frame)
   refine hRy [9] (hCp (fun K hK => ?_) AllReadyH.nil); go_simp
   have hlt9 := hP4.foot_lt
   have hs9 := hH.1.size
   refine (rPlayG_any gr bv mvr s [d.mv] (.slice (some ⟨n8, 0, none⟩) 1 1) _ hQ4 HOK.out (Sl.mv (ms := [d.mv]) (Sl.of_blk hb8 3 1 rfl 1)) (fun _ => not_foot hl8 (fun k h => HFL.out k (.inr h))) (by simp; omega)).mono ?_
   rintro e w9 ⟨rfl, bv9, mv9, hQ9, hf9, hg9, -⟩
   have hP9 := hP4.fr hf9 (fun k hk h => (hg4' k hk).elim (fun e => hdis k e h) (fun e => by have := HFL.out k (.inr h); omega))
   have hg9' : ∀ k, footR gr bv9 mv9 k → footR gr bv mvr k ∨ w.heap.size ≤ k := fun k hk => (hg9 k hk).imp id (Nat.le_trans hs9)
   have hdis9 : ∀ k, footG g b m mv4 k → ¬ footR gr bv9 mv9 k := fun k h1 h2 => (hg9 k h2).elim (fun e => (hg4' k h1).elim (fun e1 => hdis k e1 e) (fun e1 => by have := HFL.out k (.inr e); omega)) (fun e => by have := hlt9 k h1; omega)
   have hH9 := hH.fr hf9 htR (fun k _ h => .inr h)
   have HF9 := hid (show ∃ mv' bv' mvr', Two g b m gr mv' bv' mvr' (playG s [d.mv]).1 w9 ∧ (∀ k, footT g b m gr mv' bv' mvr' k → footT g b m gr mv bv mvr k ∨ w.heap.size ≤ k) from ⟨mv4, bv9, mv9, ⟨hP9, hQ9, hdis9⟩, fun k hk => hk.elim (fun h => (hg4' k h).imp .inl id) (fun h => (hg9' k h).imp .inr id)⟩)
   have hB9 : ((playG s [d.mv]).2 == (playG s [d.mv]).2) = true := beq_self_eq_true _
   clear hP9 hQ9 hdis9 hP4 hQ4 hg4 hg9
   refine hK.out _ _ (by first | exact hH9 | exact hH4 | exact hH8 | exact hH3) (fun hH => ?_); clear hK; (try go_frame)
   refine hTz MSdo.u 10 ?_; (try go_frame)
   refine hTz MSdo.u 11 ?_; (try go_frame)
   refine wpAnyH_done (by kernel_rfl) ?_ _
   have hfr9 := hH.1
   clear hH hM0 hT0
   go_wp2
   go_ret
   obtain ⟨mv', bv', mvr', h1, h2⟩ := HF9.out
   exact ⟨rfl, mv', bv', mvr', by rw [HS.out]; exact h1, hfr9, h2, by rw [HS.out]; exact hok4⟩
 ·have HS := hid (show doS s d = claimS s d.why by unfold doS; rw [if_neg (by omega), if_pos h3])
  rw [h3] at hPK
  clear h3
  go_enter Tryz.func53, Tryz.ntmps53
  go_upto_region 5 with (go_at_call 31; (with_reducible refine (hPK _).mono ?_); rintro e w1 ⟨rfl, hx1⟩)
  have hb0 : blk w1 w.heap.size = some (.cells #[.int .i64 d.what, .int .i64 d.mv.fr, .int .i64 d.mv.to_, .int .i64 d.mv.be, .int .i64 d.why] 91 (0, 0)) := (hx1.blk _ (by simp)).trans (blk_alloc_at _ _ _ rfl)
  have hE1 : Ext w w1 := Ext.trans (Ext.auto) hx1
  have hM0 : MSdo w.heap.size d (footT g b m gr mv bv mvr) w w1.drew := ⟨Fr.ext hE1.drew, blk_cell hb0 1, blk_cell hb0 2, blk_cell hb0 3, blk_cell hb0 4, blk_lt hb0⟩
  have hT0 := HT.out.ext hE1.drew
  have htG : ¬ footG g b m mv w.heap.size := fun h => by have := HFL.out _ (.inl h); omega
  have htR : ¬ footR gr bv mvr w.heap.size := fun h => by have := HFL.out _ (.inr h); omega
  clear hb0 hx1 hE1 HT hPK
  have hok9 : positionB (claimS s d.why).at_ = true := by unfold claimS; split <;> exact HOK.out
  refine held_ini (S := MSdo w.heap.size d (footT g b m gr mv bv mvr) w) (fun W => Two g b m gr mv bv mvr s W) (by kernel_rfl) (hM0) (hT0) (fun W0 hH hI => ?_)
  refine hTz MSdo.u 0 ?_; (try go_frame)
  refine hTz MSdo.u 1 ?_; (try go_frame)
  refine hTz MSdo.u 2 ?_; (try go_frame)
  refine hTz MSdo.u 4 ?_; (try go_frame)
  refine hTz MSdo.u 5 ?_; (try go_frame)
  refine hTz MSdo.u 6 ?_; (try go_frame)
  refine hRy [3] (hCp (fun K hK => ?_) AllReadyH.nil); go_simp
  refine (ClaimG_any d.why hI.p (rng_pos HOK.out) ((HTB.out.fr hH.1 HB.out hBw).mono (Nat.le_trans hBw hH.1.size))).mono ?_
  rintro e w4 ⟨rfl, hP4, hf4⟩
  have hQ4 := hI.r.fr hf4 (fun k hk h => hdis k (.inl h) hk)
  have hH3 := hH.fr hf4 (fun h => htG (.inl h)) (fun k _ h => .inl (.inl h))
  clear hI
  refine hK.out _ _ (by first | exact hH7 | exact hH3) (fun hH => ?_); clear hK; (try go_frame)
  refine hRy [7] (hCp (fun K hK => ?_) AllReadyH.nil); go_simp
  refine (rClaim_any d.why hQ4 (by omega)).mono ?_
  rintro e w9 ⟨rfl, hQ9, hf9⟩
  have hP9 := hP4.fr hf9 (fun k hk h => hdis k hk (.inl h))
  have hH7 := hH.fr hf9 (fun h => htR (.inl h)) (fun k _ h => .inr (.inl h))
  have HF9 := hid (show Two g b m gr mv bv mvr (claimS s d.why) w9 from ⟨hP9, hQ9, hdis⟩)
  have hB9 : (claimE s d.why == claimE s d.why) = true := beq_self_eq_true _
  clear hP9 hQ9 hP4 hQ4
  refine hK.out _ _ (by first | exact hH7 | exact hH3) (fun hH => ?_); clear hK; (try go_frame)
  refine hTz MSdo.u 8 ?_; (try go_frame)
  refine hTz MSdo.u 9 ?_; (try go_frame)
  refine wpAnyH_done (by kernel_rfl) ?_ _
  have hfr9 := hH.1
  clear hH hM0 hT0
  go_wp2
  go_ret
  exact ⟨rfl, mv, bv, mvr, by rw [HS.out]; exact HF9.out, hfr9, fun k h => .inl h, by rw [HS.out]; exact hok9⟩
 ·have HS := hid (show doS s d = stopS s d.why by unfold doS; rw [if_neg (by omega), if_neg (by omega)])
  rw [h3] at hPK
  clear h3
  go_enter Tryz.func53, Tryz.ntmps53
  go_upto_region 6 with (go_at_call 31; (with_reducible refine (hPK _).mono ?_); rintro e w1 ⟨rfl, hx1⟩)
  have hb0 : blk w1 w.heap.size = some (.cells #[.int .i64 d.what, .int .i64 d.mv.fr, .int .i64 d.mv.to_, .int .i64 d.mv.be, .int .i64 d.why] 91 (0, 0)) := (hx1.blk _ (by simp)).trans (blk_alloc_at _ _ _ rfl)
  have hE1 : Ext w w1 := Ext.trans (Ext.auto) hx1
  have hM0 : MSdo w.heap.size d (footT g b m gr mv bv mvr) w w1.drew := ⟨Fr.ext hE1.drew, blk_cell hb0 1, blk_cell hb0 2, blk_cell hb0 3, blk_cell hb0 4, blk_lt hb0⟩
  have hT0 := HT.out.ext hE1.drew
  have htG : ¬ footG g b m mv w.heap.size := fun h => by have := HFL.out _ (.inl h); omega
  have htR : ¬ footR gr bv mvr w.heap.size := fun h => by have := HFL.out _ (.inr h); omega
  clear hb0 hx1 hE1 HT hPK
  have hok9 : positionB (stopS s d.why).at_ = true := by unfold stopS; split <;> exact HOK.out
  refine held_ini (S := MSdo w.heap.size d (footT g b m gr mv bv mvr) w) (fun W => Two g b m gr mv bv mvr s W) (by kernel_rfl) (hM0) (hT0) (fun W0 hH hI => ?_)
  refine hTz MSdo.u 0 ?_; (try go_frame)
  refine hTz MSdo.u 1 ?_; (try go_frame)
  refine hTz MSdo.u 2 ?_; (try go_frame)
  refine hTz MSdo.u 4 ?_; (try go_frame)
  refine hTz MSdo.u 5 ?_; (try go_frame)
  refine hTz MSdo.u 6 ?_; (try go_frame)
  refine hRy [3] (hCp (fun K hK => ?_) AllReadyH.nil); go_simp
  refine (StopG_any d.why hI.p).mono ?_
  rintro e w4 ⟨rfl, hP4, hf4⟩
  have hQ4 := hI.r.fr hf4 (fun k hk h => hdis k (.inl h) hk)
  have hH3 := hH.fr hf4 (fun h => htG (.inl h)) (fun k _ h => .inl (.inl h))
  clear hI
  refine hK.out _ _ (by first | exact hH7 | exact hH3) (fun hH => ?_); clear hK; (try go_frame)
  refine hRy [7] (hCp (fun K hK => ?_) AllReadyH.nil); go_simp
  refine (rStop_any d.why hQ4).mono ?_
  rintro e w9 ⟨rfl, hQ9, hf9⟩
  have hP9 := hP4.fr hf9 (fun k hk h => hdis k hk (.inl h))
  have hH7 := hH.fr hf9 (fun h => htR (.inl h)) (fun k _ h => .inr (.inl h))
  have HF9 := hid (show Two g b m gr mv bv mvr (stopS s d.why) w9 from ⟨hP9, hQ9, hdis⟩)
  have hB9 : (stopE s d.why == stopE s d.why) = true := beq_self_eq_true _
  clear hP9 hQ9 hP4 hQ4
  refine hK.out _ _ (by first | exact hH7 | exact hH3) (fun hH => ?_); clear hK; (try go_frame)
  refine hTz MSdo.u 8 ?_; (try go_frame)
  refine hTz MSdo.u 9 ?_; (try go_frame)
  refine wpAnyH_done (by kernel_rfl) ?_ _
  have hfr9 := hH.1
  clear hH hM0 hT0
  go_wp2
  go_ret
  exact ⟨rfl, mv, bv, mvr, by rw [HS.out]; exact HF9.out, hfr9, fun k h => .inl h, by rw [HS.out]; exact hok9⟩
end Go.Proofs.YtdmgimfgoajmjaaGreatDoor
