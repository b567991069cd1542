/- GameRows: the law's function, whatever the position and the moves. -/
import Derived.Test.YtdmgimfgoajmjaaGreatDoorC44
import Derived.Test.YtdmgimfgoajmjaaGreatDoorC21
import Derived.Test.YtdmgimfgoajmjaaGreatDoorC09
set_option linter.unusedVariables false
set_option linter.unusedSimpArgs false
set_option maxRecDepth 100000
set_option maxHeartbeats 4000000
namespace Go.Proofs.YtdmgimfgoajmjaaGreatDoor
open Go.RowKit Go.Maps
theorem append_mv {ops : Array Oper} {rest : List Oper} {o : Oper} {a : Act} {w : World} {Q : Exit → Act → World → Prop} (hgd : o.guard = none) (s x : Operand)
 (ho : o.op = .call { callee := .builtin .append, args := #[s, x], argTypes := #[45, 45] })
 (base : Nat) (v : Value) (n : Nat) (xs : List Value) (hs : a.eval s = v) (hown : w.ownsRow base 51 3 v n xs) (y : Value) (ms : List Mv) (hx : a.eval x = y) (hS : SlMv w y ms) (hv : y = .slice none 0 0 ∨ ∃ ad c, y = .slice (some ad) ms.length c)
 (hn : n + ms.length ≤ 1000000) (hbase : base ≤ w.heap.size)
 (h : ∀ v' w', w'.ownsRow base 51 3 v' (n + ms.length) (xs ++ mvsC ms) → w.grownBy w' v.ownBlock → (∀ k, v'.ownBlock = some k → v.ownBlock = some k ∨ w.heap.size ≤ k) → wpList Tryz.prog ops Q rest (a.put o.dst v') w') : wpList Tryz.prog ops Q (o :: rest) a w := by
 by_cases h0 : 0 < ms.length
 ·exact wpList_append_sl Tryz.underlying45 info_mv rfl (by decide) (by decide) hgd s x ho base v n xs hs hown y ms.length (mvsC ms) hx (hS.2 h0) (mvs_one _) hn hbase h
 ·obtain rfl : ms = [] := List.eq_nil_of_length_eq_zero (by omega)
  rcases hv with rfl | ⟨ad, c, rfl⟩
  ·exact wpList_append_sl Tryz.underlying45 info_mv rfl (by decide) (by decide) hgd s x ho base v n xs hs hown _ 0 (mvsC []) hx ⟨rfl, .inl ⟨rfl, rfl⟩⟩ (mvs_one _) hn hbase h
  ·obtain ⟨i0, hi0, hz0, hz1, hz2⟩ := info_parts info_mv
   obtain ⟨v', w', hr, h2, h3, h4⟩ := run_append_far (P := Tryz.prog) w base 45 o.type 51 i0 _ 3 24 Tryz.underlying45 hi0 hz0 hz1 hz2 rfl (by decide) v n xs hown ad 0 c [] rfl (fun j u hu => by cases hu) (fun u hu => by cases hu) (by unfold maxLen; simp at hn; omega) (by simp at hn; omega) hbase
   exact Lib.wpList_append_run w hgd s x _ _ ho v _ hs hx v' w' hr (h v' w' h2 h3 h4)
theorem playG_len : ∀ (l : List Mv) (s : GS), (playG s l).1.ps.length ≤ s.ps.length + l.length ∧ (playG s l).1.ms.length ≤ s.ms.length + l.length
 | [], s => by unfold playG; exact ⟨by simp, by simp⟩
 | m :: r, s => by
   unfold playG
   have := playG_len r (stepS s m)
   have h1 : (stepS s m).ps.length = s.ps.length + 1 := by simp [stepS, comeS]
   have h2 : (stepS s m).ms.length = s.ms.length + 1 := by simp [stepS, comeS]
   rw [List.length_cons]
   (repeat' split) <;> constructor <;> first | omega | (dsimp only; omega)
abbrev MSrw.T (g1 i1 g2 i2 : Nat) (x : Mv) (w W : World) : Prop := Ext w W ∧ W.cell? ⟨g1, i1, none⟩ = some (.int .i64 x.fr) ∧ W.cell? ⟨g1, i1 + 1, none⟩ = some (.int .i64 x.to_) ∧ W.cell? ⟨g1, i1 + 2, none⟩ = some (.int .i64 x.be) ∧ W.cell? ⟨g2, i2, none⟩ = some (.int .i64 x.fr) ∧ W.cell? ⟨g2, i2 + 1, none⟩ = some (.int .i64 x.to_) ∧ W.cell? ⟨g2, i2 + 2, none⟩ = some (.int .i64 x.be)
def MSrw (g1 i1 g2 i2 : Nat) (x : Mv) (w W : World) : Prop := MSrw.T g1 i1 g2 i2 x w W
theorem MSrw.u {g1 i1 g2 i2 x w} (W) (h : MSrw g1 i1 g2 i2 x w W) : MSrw.T g1 i1 g2 i2 x w W := h
theorem MSrw.ext {g1 i1 g2 i2 : Nat} {x : Mv} {w W W' : World} (h : MSrw g1 i1 g2 i2 x w W) (h1 : g1 < W.heap.size) (h2 : g2 < W.heap.size) (hx : Ext W W') : MSrw g1 i1 g2 i2 x w W' := by
 obtain ⟨a, b, c, d, e, f, g⟩ := h
 exact ⟨a.trans hx, (hx.cell _ _ h1).trans b, (hx.cell _ _ h1).trans c, (hx.cell _ _ h1).trans d, (hx.cell _ _ h2).trans e, (hx.cell _ _ h2).trans f, (hx.cell _ _ h2).trans g⟩
theorem Two.fr {g b m gr : Nat} {mv bv mvr : Value} {s : GS} {W W' : World} {F : Nat → Prop} (h : Two g b m gr mv bv mvr s W) (hf : Fr F W W') (hd : ∀ k, footT g b m gr mv bv mvr k → ¬ F k) : Two g b m gr mv bv mvr s W' := ⟨h.p.fr hf fun k hk => hd k (.inl hk), h.r.fr hf fun k hk => hd k (.inr hk), h.dis⟩
@[go_sem high] theorem eql_mv (a b c : Int) (w : World) : (binOp .eql 51 (.agg #[.int .i64 a, .int .i64 b, .int .i64 c]) (.agg #[.int .i64 a, .int .i64 b, .int .i64 c])).run Tryz.prog w = .ok (.bool true) w := by
  rw [run_eql_struct, eqIn_mv]; rfl
theorem both_played {g b m gr : Nat} {mv bv mvr mv5 bv6 mvr6 : Value} {s' : GS} {w2 w4 w5 w6 : World} {v4 : Value} {n : Nat} {xs : List Value} (h2 : w2.heap.size ≤ w4.heap.size) (hl2 : ∀ k, footT g b m gr mv bv mvr k → k < w2.heap.size) (hd : ∀ k, footG g b m mv k → ¬ footR gr bv mvr k)
 (ho : w4.ownsRow w2.heap.size 51 3 v4 n xs) (hP5 : PG g b m mv5 s' w5) (hf5 : Fr (footG g b m mv) w4 w5) (hg5 : ∀ k, footG g b m mv5 k → footG g b m mv k ∨ w4.heap.size ≤ k)
 (hQ6 : RG gr bv6 mvr6 s' w6) (hf6 : Fr (footR gr bv mvr) w5 w6) (hg6 : ∀ k, footR gr bv6 mvr6 k → footR gr bv mvr k ∨ w5.heap.size ≤ k) :
 Two g b m gr mv5 bv6 mvr6 s' w6 ∧ w6.ownsRow w2.heap.size 51 3 v4 n xs ∧ (∀ k, footT g b m gr mv5 bv6 mvr6 k → footT g b m gr mv bv mvr k ∨ w4.heap.size ≤ k) := by
 have hs5 := hf5.size
 have hl5 := hP5.foot_lt
 refine ⟨⟨hP5.fr hf6 fun k h1 h3 => ?_, hQ6, fun k h1 h3 => ?_⟩, own_blocks (w := w5) (own_blocks (w := w4) (w' := w5) ho fun k hk => ?_) fun k hk => ?_, fun k hk => hk.elim (fun h => (hg5 k h).imp .inl id) fun h => (hg6 k h).imp .inr (Nat.le_trans hs5)⟩
 ·have := hl2 k (.inr h3)
  exact (hg5 k h1).elim (fun e => hd k e h3) (fun e => by omega)
 ·have h4 := hl5 k h1
  rcases hg6 k h3 with e | e
  ·have := hl2 k (.inr e)
   exact (hg5 k h1).elim (fun e1 => hd k e1 e) (fun e1 => by omega)
  ·omega
 ·obtain ⟨e1, cs, fr, e2⟩ := own_type ho k hk
  exact hf5.keep k (blk_lt e2) fun h => by have := hl2 k (.inl h); omega
 ·obtain ⟨e1, cs, fr, e2⟩ := own_type ho k hk
  exact hf6.keep k (Nat.lt_of_lt_of_le (blk_lt e2) hs5) fun h => by have := hl2 k (.inr h); omega
theorem GameRows_any (p : Pos) (ms : List Mv) (v : Value) (w : World) (hS : SlMv w v ms) (hv : v = .slice none 0 0 ∨ ∃ ad c, v = .slice (some ad) ms.length c) (ht : Tab10 w.heap.size w) (hA : ∀ W, Ext w W → Calls Tryz.prog 39 #[] W (Ret (.bool true) W)) :
 Calls Tryz.prog 7 #[.agg (posCells p), v] w (Ret (.bool true) w) := by
 obtain ⟨a, cap, rfl⟩ := hS.1
 have hE0 : Ext w (w.alloc (.cells (posCells p) 30)) := Ext.alloc (Ext.refl w) _
 have HT := hid ht
 have HA := hid hA
 have HSS := hid hS
 have HV := hid hv
 clear ht hA hS hv
 by_cases hbig : 30 < ms.length
 ·have hA1 := HA.out _ hE0
  go_enter Tryz.func7, Tryz.ntmps7
  go_wp2_with (go_at_call 39; (with_reducible refine hA1.mono ?_); rintro e w1 ⟨rfl, hx1⟩)
  go_ret
  exact Ret.mk' rfl (hE0.trans hx1)
 ·cases hpos : positionB p
  ·have hF := fun W => FromG_no p W hpos
   have hR := fun W => rFrom_no p W hpos
   clear hpos
   go_enter Tryz.func7, Tryz.ntmps7
   go_wp2_with (first
    | (go_at_call 40; (with_reducible refine (hF _).mono ?_); rintro e w1 ⟨rfl, hx1⟩; (have hp1 := (hx1.blk w.heap.size (by simp)).trans (blk_alloc_at w (.cells (posCells p) 30) _ rfl)))
    | (go_at_call 41; (with_reducible refine (hR _).mono ?_); rintro e w2 ⟨rfl, hx2⟩; (have hA2 := HA.out w2 (hE0.trans (hx1.trans hx2))))
    | (go_at_call 39; (with_reducible refine hA2.mono ?_); rintro e w3 ⟨rfl, hx3⟩))
   go_ret
   exact Ret.mk' rfl (hE0.trans (hx1.trans (hx2.trans hx3)))
  ·have hF := fun W (h : Ext w W) => FromG_yes p W hpos (HT.out.up h)
   have hR := fun W => rFrom_yes p W hpos
   have HOK := hid (show positionB (fromS p).at_ = true from hpos)
   clear hpos
   have hF0 := hF _ hE0
   go_enter Tryz.func7, Tryz.ntmps7
   go_upto_region 5 with (first
    | (go_at_call 40; (with_reducible refine hF0.mono ?_); rintro e w1 ⟨g, b, m, rfl, hP1, hf1, hx1⟩; (have hp1 := (hx1.blk w.heap.size (by simp)).trans (blk_alloc_at w (.cells (posCells p) 30) _ rfl)); (have HP1 := hid hP1); (have HF1 := hid hf1); clear hP1 hf1)
    | (go_at_call 41; (with_reducible refine (hR _).mono ?_); rintro e w2 ⟨gr, bv, rfl, hQ2, hf2, hx2⟩))
   have hE2 : Ext w w2 := hE0.trans (hx1.trans hx2)
   have hTw : Two g b m gr (.slice none 0 0) bv (.slice none 0 0) (fromS p) w2 := ⟨HP1.out.ext hx2, hQ2, fun k h1 h2 => by have := HP1.out.foot_lt k h1; have := hf2 k h2; omega⟩
   have hFT : ∀ k, footT g b m gr (.slice none 0 0) bv (.slice none 0 0) k → w.heap.size ≤ k := fun k hk => hk.elim (fun h => Nat.le_trans (by simp) (HF1.out k h)) (fun h => Nat.le_trans (hE0.trans hx1).le (hf2 k h))
   have hHx : Ext w2 (w2.alloc (.cells #[] 51)) := Ext.alloc (Ext.refl _) _
   have h0 : (w2.alloc (.cells #[] 51)).ownsRow w2.heap.size 51 3 (.slice (some ⟨w2.heap.size, 0, none⟩) 0 0) 0 [] := ⟨rfl, .inr ⟨w2.heap.size, 0, #[], rfl, Nat.le_refl _, blk_alloc_at _ _ _ rfl, Nat.le_refl _, by unfold maxLen; omega, rfl, rfl⟩⟩
   have hS2 : SlMv (w2.alloc (.cells #[] 51)) (.slice a ms.length cap) ms := ⟨⟨_, _, rfl⟩, fun h => (HSS.out.2 h).ext (hE2.trans hHx)⟩
   have HTw := hid hTw
   have HFT := hid hFT
   clear hF hF0 hR hQ2 hf2 hTw hFT hp1 HP1 HF1 hx1 hx2
   go_upto_region 8 with (at_builtin; refine append_mv rfl _ _ rfl w2.heap.size _ 0 [] rfl h0 _ ms rfl hS2 HV.out (by omega) ?c3 (fun v4 w4 hown4 hg4 hf4 => ?_))
   case c3 => simp
   have hx4 : Ext w2 w4 := ⟨hg4.os, hg4.tape, hg4.output, Nat.le_trans (by simp) hg4.size, fun k hk => (hg4.block k (by simp; omega) (fun e => by have h9 : k = w2.heap.size := Option.some.inj e; omega)).trans (blk_alloc_past _ _ _ hk)⟩
   have hlt24 : w2.heap.size < w4.heap.size := Nat.lt_of_lt_of_le (by simp) hg4.size
   simp only [Nat.zero_add, List.nil_append] at hown4
   have hfl2 := HTw.out.foot_lt
   have hon : ∀ k, v4.ownBlock = some k → w2.heap.size ≤ k := fun k hk => (own_type hown4 k hk).1
   have hT4 := HTw.out.ext hx4
   have hP := PlayG_any g b m w.heap.size _ (fromS p) ms v4 w4 hT4.p HOK.out (Sl.mv (Sl.of_own hown4)) (fun _ gb off c e h => by
    have h1 := hon gb (by rw [e]; rfl)
    have h2 := hfl2 gb (.inl h)
    omega) (fun k hk => HFT.out k (.inl hk)) (HT.out.on (hE2.trans hx4)) (by simp [fromS, comeS, zeroS]; omega)
   have hR := fun W (hx : Fr (footG g b m (.slice none 0 0)) w4 W) => rPlayG_any gr bv _ (fromS p) ms (.slice a ms.length cap) W (hT4.r.fr hx fun k h1 h2 => hT4.dis k h2 h1) HOK.out ⟨⟨_, _, rfl⟩, fun h => (HSS.out.2 h).ext (hx.toExt (hE2.trans hx4) fun k hk => HFT.out k (.inl hk))⟩ (fun h gb off c e hf => by
    rcases (HSS.out.2 h).2 with ⟨h1, h2⟩ | ⟨b', o', c', h1, h2, h3⟩
    ·omega
    ·rw [e] at h1
     injection h1 with h1
     injection h1 with h1
     injection h1 with h1
     have := HFT.out gb (.inr hf)
     omega) (by simp [fromS, comeS, zeroS]; omega)
   obtain ⟨hps, hms⟩ := playG_len ms (fromS p)
   have hf0 : (fromS p).ps.length = 1 ∧ (fromS p).ms.length = 0 := by simp [fromS, comeS, zeroS]
   have HON := hid hon
   have HDS := hid hT4.dis
   have HFL2 := hid hfl2
   have HOWN := hid hown4
   have HE4 := hid (hE2.trans hx4)
   have HR := hid hR
   have hsz4 := hx4.le
   clear hT4 hR hfl2 hon hx4 hg4 hf4 hS2 h0 hHx
   generalize playG (fromS p) ms = r at *
   obtain ⟨s', er⟩ := r
   dsimp only at *
   obtain ⟨a4, c4, rfl⟩ := (Sl.of_own hown4).form
   clear hown4
   have hSM := fun g b m gr mv bv mvr W (h : Two g b m gr mv bv mvr s' W) (ho : positionB s'.at_ = true) (hx : Ext w W) => sameG_any h.p h.r ho (HT.out.up hx) (by omega) (by omega)
   go_upto_block 0 with (first
    | (go_at_call 42; (with_reducible refine hP.mono ?_); rintro e w5 ⟨rfl, mv5, hP5, hf5, hg5, hok5⟩; (have hR5 := HR.out w5 hf5); (have hE5 := hf5.toExt HE4.out (fun k hk => HFT.out k (.inl hk))); (have hl5 := hP5.foot_lt); clear hP)
    | (go_at_call 37; (with_reducible refine hR5.mono ?_); rintro e w6 ⟨rfl, bv6, mvr6, hQ6, hf6, hg6, -⟩; obtain ⟨hT6, hO6, hG6⟩ := both_played hsz4 HFL2.out HDS.out HOWN.out hP5 hf5 hg5 hQ6 hf6 hg6; (have hE6 := hf6.toExt hE5 (fun k hk => HFT.out k (.inr hk))); (have hs6 := hf6.size); (have hs5 := hf5.size); clear hP5 hf5 hg5 hQ6 hf6 hg6 hR5 hl5)
    | (go_at_call 43; (with_reducible refine (hSM _ _ _ _ _ _ _ _ hT6 hok5 hE6).mono ?_); rintro e w7 ⟨rfl, hx7⟩))
   have hT7 := hT6.ext hx7
   have hO7 := own_ext hO6 hx7
   have hE7 := hE6.trans hx7
   have hF7 : ∀ k, footT g b m gr mv5 bv6 mvr6 k → w.heap.size ≤ k := fun k hk => (hG6 k hk).elim (HFT.out k) fun h => by have := HE4.out.le; omega
   obtain ⟨bo, hb1, hb2, hb3⟩ : ∃ bo, w.heap.size ≤ bo ∧ ¬ footT g b m gr mv5 bv6 mvr6 bo ∧ (0 < ms.length → a4 = some ⟨bo, 0, none⟩ ∧ ∃ cur : Array Value, blk w7 bo = some (.cells cur 51 (0, 0)) ∧ ∀ j u, (mvsC ms)[j]? = some u → cur[j]? = some u) := by
    have hnf : ∀ k, w2.heap.size ≤ k → k < w4.heap.size → ¬ footT g b m gr mv5 bv6 mvr6 k := fun k h1 h2 h => (hG6 k h).elim (fun e => by have := HFL2.out k e; omega) (fun e => by omega)
    have hlt4 : w2.heap.size < w4.heap.size := hlt24
    rcases hO7.2 with ⟨h1, h2⟩ | ⟨bo, cap', cur, hv4, hbo, hgg, q1, q2, q3, q4⟩
    ·exact ⟨w2.heap.size, hE2.le, hnf _ (Nat.le_refl _) hlt4, fun h => by omega⟩
    ·injection hv4 with e1
     subst e1
     obtain ⟨-, cs, fr, e2⟩ := own_type HOWN.out bo rfl
     refine ⟨bo, Nat.le_trans hE2.le hbo, hnf bo hbo (blk_lt e2), fun _ => ⟨rfl, cur, hgg, fun j u hu => ?_⟩⟩
     rw [← q4, List.getElem?_take] at hu
     split at hu
     ·simpa using hu
     ·cases hu
   clear hT6 hO6 hO7 hG6 hx7 hE5
   go_wp2
   go_loopw [10, 11] (fun o i wr => ∃ k : Nat, o = .bool true ∧ i = .int .i64 k ∧ k ≤ ms.length ∧ Fr (fun j => j = bo) w7 wr ∧ (0 < ms.length → ∃ cur : Array Value, blk wr bo = some (.cells cur 51 (0, 0)) ∧ ∀ j u, k * 3 ≤ j → (mvsC ms)[j]? = some u → cur[j]? = some u)) (fun _ i _ => ms.length - (intOf i).toNat)
   case atStart => exact ⟨0, rfl, rfl, by omega, Fr.refl _ _, fun h => by obtain ⟨-, cur, h1, h2⟩ := hb3 h; exact ⟨cur, h1, fun j u _ => h2 j u⟩⟩
   case round =>
    obtain ⟨k, rfl, rfl, hk, hfr, hcur⟩ := hrel
    have hEr := hfr.toExt hE7 (fun j e => e ▸ hb1)
    by_cases hlt : k < ms.length
    ·obtain ⟨x, hx⟩ : ∃ x, ms[k]? = some x := ⟨_, List.getElem?_eq_getElem hlt⟩
     obtain ⟨rfl, -⟩ := hb3 (by omega)
     obtain ⟨cur, hbr, hcr⟩ := hcur (by omega)
     obtain ⟨gd, od, rfl, hgd, hcd⟩ := (HSS.out.2 (by omega)).pos (by omega)
     have c0 := hcd (k * 3) _ (mvsC_at hx 0 (by omega))
     have c1 := hcd (k * 3 + 1) _ (mvsC_at hx 1 (by omega))
     have c2 := hcd (k * 3 + 2) _ (mvsC_at hx 2 (by omega))
     have d0 := hcr (k * 3) _ (by omega) (mvsC_at hx 0 (by omega))
     have d1 := hcr (k * 3 + 1) _ (by omega) (mvsC_at hx 1 (by omega))
     have d2 := hcr (k * 3 + 2) _ (by omega) (mvsC_at hx 2 (by omega))
     simp only [mvE, List.getElem!_cons_zero, List.getElem!_cons_succ] at c0 c1 c2 d0 d1 d2
     rw [← Nat.add_assoc] at c1 c2
     rw [← hEr.cell _ _ hgd] at c0 c1 c2
     rw [← blk_cell hbr] at d0 d1 d2
     have hgr : gd < wr.heap.size := Nat.lt_of_lt_of_le hgd hEr.le
     have hbl := blk_lt hbr
     have hM8 : MSrw bo (k * 3) gd (od + k * 3) x wr wr.drew := ⟨(Ext.refl _).drew, d0, d1, d2, c0, c1, c2⟩
     have HCR := hid hcr
     have HFR := hid hfr
     have HER := hid hEr
     have HBR := hid hbr
     clear hx hcur hcd hcr hfr hEr c0 c1 c2
     go_wp2
     refine wp_region_held_drew (S := MSrw bo (k * 3) gd (od + k * 3) x wr) (by kernel_rfl) (hM8) (fun hH => ?_)
     refine hTz MSrw.u 0 ?_; (try go_frame)
     refine hTz MSrw.u 1 ?_; (try go_frame)
     refine hTz MSrw.u 2 ?_; (try go_frame)
     refine hTz MSrw.u 3 ?_; (try go_frame)
     refine hTz MSrw.u 4 ?_; (try go_frame)
     refine hTz MSrw.u 5 ?_; (try go_frame)
     refine hTz MSrw.u 6 ?_; (try go_frame)
     refine hTz MSrw.u 7 ?_; (try go_frame)
     refine hTz MSrw.u 8 ?_; (try go_frame)
     refine hTz MSrw.u 9 ?_; (try go_frame)
     refine hTz MSrw.u 10 ?_; (try go_frame)
     refine hTz MSrw.u 11 ?_; (try go_frame)
     refine hTz MSrw.u 12 ?_; (try go_frame)
     refine wpAnyH_done (by kernel_rfl) ?_ _
     have hx9 := hH.1
     clear hH hM8
     have hb9 := (hx9.blk _ hbl).trans HBR.out
     have hfz := blk_froz hbr
     go_wp2
     have q1 := blk_setCell_same _ _ (k * 3 + 2) _ _ (.int .i64 0) (blk_setCell_same _ _ (k * 3 + 1) _ _ (.int .i64 0) (blk_setCell_same wr bo (k * 3) _ _ (.int .i64 0) HBR.out))
     have q2 := (((HFR.out.set (i := k * 3) (fun _ => rfl) (.int .i64 0)).set (i := k * 3 + 1) (fun _ => rfl) (.int .i64 0)).set (i := k * 3 + 2) (fun _ => rfl) (.int .i64 0)).exts (Ext.refl _).drew
     go_roundw
     case rel => exact ⟨k + 1, rfl, by go_num, by omega, q2, fun _ => ⟨_, q1, fun j u hj hu => by
      rw [Array.getElem?_setIfInBounds, if_neg (by omega), Array.getElem?_setIfInBounds, if_neg (by omega), Array.getElem?_setIfInBounds, if_neg (by omega)]
      exact HCR.out j u (by omega) hu⟩⟩
     case measure => simp [intOf]; omega
    ·obtain rfl : k = ms.length := by omega
     have hTr := hT7.fr hfr (fun j hj e => hb2 (e ▸ hj))
     have hSM9 := hSM _ _ _ _ _ _ _ wr hTr hok5 hEr
     have hA9 := fun W (hx : Ext wr W) => HA.out W (hEr.trans hx)
     clear hT7 hTr hcur hfr hb3 hSM hb2
     go_wp2_with (first
      | (go_at_call 43; (with_reducible refine hSM9.mono ?_); rintro e w8 ⟨rfl, hx8⟩)
      | (go_at_call 39; (with_reducible refine (hA9 _ hx8).mono ?_); rintro e w9 ⟨rfl, hx9⟩))
     go_ret
     exact Ret.mk' rfl (hEr.trans (hx8.trans hx9))
end Go.Proofs.YtdmgimfgoajmjaaGreatDoor
