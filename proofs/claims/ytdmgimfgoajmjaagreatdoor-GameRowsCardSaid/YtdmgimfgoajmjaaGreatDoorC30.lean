/- Whether two positions are the same, by the document's answer. -/
import Derived.Test.YtdmgimfgoajmjaaGreatDoorC28
import Derived.Test.YtdmgimfgoajmjaaGreatDoorC29
import Derived.Test.YtdmgimfgoajmjaaGreatDoorC21
set_option linter.unusedVariables false
set_option linter.unusedSimpArgs false
set_option maxRecDepth 100000
set_option maxHeartbeats 4000000
namespace Go.Proofs.YtdmgimfgoajmjaaGreatDoor
open Go.RowKit
def rSameB (p q : Pos) : Bool := sqB p q && p.turn == q.turn && p.castle == q.castle && overA p == overA q
theorem app_iff {a b c d : List Int} (h : a.length = c.length) : a ++ b = c ++ d ↔ a = c ∧ b = d := ⟨fun e => List.append_inj e h, fun ⟨h1, h2⟩ => by rw [h1, h2]⟩
theorem sqL_eq (p q : Pos) : ∀ k, sqL p k = sqL q k ↔ ∀ i, i < k → p.kind i = q.kind i ∧ p.side i = q.side i
 | 0 => by simp [sqL]
 | k + 1 => by
   rw [sqL_snoc, sqL_snoc, app_iff (by rw [sqL_len, sqL_len]), sqL_eq p q k]
   constructor
   ·rintro ⟨h1, h2⟩ i hi
    by_cases e : i = k
    ·subst e
     simp only [List.cons.injEq, and_true] at h2
     exact h2
    ·exact h1 i (by omega)
   ·intro h
    exact ⟨fun i hi => h i (by omega), by rw [(h k (by omega)).1, (h k (by omega)).2]⟩
theorem same_eq (p q : Pos) : sameB p q = rSameB p q := by
 rw [Bool.eq_iff_iff]
 unfold sameB rSameB keyL sqB
 rw [decide_eq_true_eq, app_iff (by rw [sqL_len, sqL_len]), sqL_eq]
 simp only [List.cons.injEq, and_true, Bool.and_eq_true, List.all_eq_true, List.mem_range, beq_iff_eq, and_assoc]
theorem rSame_any (p q : Pos) (w : World) : Calls Tryz.prog 17 #[.agg (posCells p), .agg (posCells q)] w (Ret (.bool (sameB p q)) w) := by
 have HP : ∀ w, Calls Tryz.prog 15 #[.agg (posCells p)] w (Ret (.int .i64 (overA p)) w) := fun w => rOver12_any p w
 have HQ : ∀ w, Calls Tryz.prog 15 #[.agg (posCells q)] w (Ret (.int .i64 (overA q)) w) := fun w => rOver12_any q w
 have HE := hid (show sameB p q = (sqB p q && p.turn == q.turn && p.castle == q.castle && overA p == overA q) from same_eq p q)
 generalize overA p = x at *
 generalize overA q = y at *
 cases h1 : sqB p q
 ·rw [h1] at HE
  go_enter Tryz.func17, Tryz.ntmps17
  go_wp2
  refine wp_quiet (by kernel_rfl) (by kernel_rfl) ?_; (repeat (first | go_big_quiet_step ((first | (go_at_call 15; with_reducible exact Calls.reg (HP _)) | (go_at_call 15; with_reducible exact Calls.reg (HQ _)))) | quiet_step ((first | (go_at_call 15; with_reducible exact Calls.reg (HP _)) | (go_at_call 15; with_reducible exact Calls.reg (HQ _)))))); refine wpQuiet_nil ?_; intro w1 hx; obtain ⟨hxc, hxf, hxb, hxs⟩ := hx.als; (try have := sW w w1)
  go_wp2
  go_ret
  exact Ret.mk' (vbool (by rw [HE.out]; rfl)) (Ext.auto)
 ·rw [h1] at HE
  cases h2 : (p.turn == q.turn)
  ·rw [h2] at HE
   go_enter Tryz.func17, Tryz.ntmps17
   go_wp2
   refine wp_quiet (by kernel_rfl) (by kernel_rfl) ?_; (repeat (first | go_big_quiet_step ((first | (go_at_call 15; with_reducible exact Calls.reg (HP _)) | (go_at_call 15; with_reducible exact Calls.reg (HQ _)))) | quiet_step ((first | (go_at_call 15; with_reducible exact Calls.reg (HP _)) | (go_at_call 15; with_reducible exact Calls.reg (HQ _)))))); refine wpQuiet_nil ?_; intro w1 hx; obtain ⟨hxc, hxf, hxb, hxs⟩ := hx.als; (try have := sW w w1)
   go_wp2
   go_ret
   exact Ret.mk' (vbool (by rw [HE.out]; rfl)) (Ext.auto)
  ·rw [h2] at HE
   cases h3 : (p.castle == q.castle)
   ·rw [h3] at HE
    go_enter Tryz.func17, Tryz.ntmps17
    go_wp2
    refine wp_quiet (by kernel_rfl) (by kernel_rfl) ?_; (repeat (first | go_big_quiet_step ((first | (go_at_call 15; with_reducible exact Calls.reg (HP _)) | (go_at_call 15; with_reducible exact Calls.reg (HQ _)))) | quiet_step ((first | (go_at_call 15; with_reducible exact Calls.reg (HP _)) | (go_at_call 15; with_reducible exact Calls.reg (HQ _)))))); refine wpQuiet_nil ?_; intro w1 hx; obtain ⟨hxc, hxf, hxb, hxs⟩ := hx.als; (try have := sW w w1)
    go_wp2
    go_ret
    exact Ret.mk' (vbool (by rw [HE.out]; rfl)) (Ext.auto)
   ·rw [h3] at HE
    go_enter Tryz.func17, Tryz.ntmps17
    go_wp2
    refine wp_quiet (by kernel_rfl) (by kernel_rfl) ?_; (repeat (first | go_big_quiet_step ((first | (go_at_call 15; with_reducible exact Calls.reg (HP _)) | (go_at_call 15; with_reducible exact Calls.reg (HQ _)))) | quiet_step ((first | (go_at_call 15; with_reducible exact Calls.reg (HP _)) | (go_at_call 15; with_reducible exact Calls.reg (HQ _)))))); refine wpQuiet_nil ?_; intro w1 hx; obtain ⟨hxc, hxf, hxb, hxs⟩ := hx.als; (try have := sW w w1)
    go_wp2
    go_ret
    exact Ret.mk' (vbool (by rw [HE.out]; rfl)) (Ext.auto)
def SlP (w : World) (v : Value) (Ps : List Pos) : Prop :=
 ((∃ a cap, v = .slice a 0 cap) ∧ Ps = []) ∨ ∃ g o cap cur T fr, v = .slice (some ⟨g, o, none⟩) Ps.length cap ∧ blk w g = some (.cells cur T fr) ∧ ∀ (k : Nat) x, Ps[k]? = some x → o + k * 133 + 133 ≤ cur.size ∧ cur.extract (o + k * 133) (o + k * 133 + 133) = posCells x
theorem SlP.ext {w w' : World} {v : Value} {Ps : List Pos} (h : SlP w v Ps) (hx : Ext w w') : SlP w' v Ps := by
 rcases h with h | ⟨g, o, cap, cur, T, fr, h1, h2, h3⟩
 ·exact .inl h
 ·exact .inr ⟨g, o, cap, cur, T, fr, h1, (hx.blk _ (blk_lt h2)).trans h2, h3⟩
theorem SlP.form {w : World} {v : Value} {Ps : List Pos} (h : SlP w v Ps) : ∃ a cap, v = .slice a Ps.length cap := by
 rcases h with ⟨⟨a, cap, rfl⟩, rfl⟩ | ⟨g, o, cap, cur, T, fr, h1, _⟩
 ·exact ⟨_, _, rfl⟩
 ·exact ⟨_, _, h1⟩
def manyB (Ps : List Pos) (p : Pos) : Nat := Ps.countP fun x => sameB x p
theorem many_snoc {Ps : List Pos} {p x : Pos} {k : Nat} (h : Ps[k]? = some x) : manyB (Ps.take (k + 1)) p = manyB (Ps.take k) p + (if sameB x p = true then 1 else 0) := by
 unfold manyB
 rw [List.take_add_one, h, List.countP_append]; simp
theorem many_le (Ps : List Pos) (p : Pos) : manyB Ps p ≤ Ps.length := List.countP_le_length
abbrev MSbk.T (p : Pos) (b off pb g : Nat) (cur : Array Value) (T : TypeId) (fr : Nat × Nat) (v : Value) (wr W : World) : Prop := Ext wr W ∧ blk W pb = some (.cells (posCells p) 30 (0, 0)) ∧ blk W g = some (.cells cur T fr) ∧ b < wr.heap.size ∧ W.cell? ⟨b, off, none⟩ = some v
def MSbk (p : Pos) (b off pb g : Nat) (cur : Array Value) (T : TypeId) (fr : Nat × Nat) (v : Value) (wr W : World) : Prop := MSbk.T p b off pb g cur T fr v wr W
theorem MSbk.u {p b off pb g cur T fr v wr} (W) (h : MSbk p b off pb g cur T fr v wr W) : MSbk.T p b off pb g cur T fr v wr W := h
theorem MSbk.ext {p : Pos} {b off pb g : Nat} {cur : Array Value} {T : TypeId} {fr : Nat × Nat} {v : Value} {wr W W' : World} (h : MSbk p b off pb g cur T fr v wr W) (hx : Ext W W') : MSbk p b off pb g cur T fr v wr W' := by
 obtain ⟨h1, h2, h3, h4, h5⟩ := h
 exact ⟨h1.trans hx, (hx.blk _ (blk_lt h2)).trans h2, (hx.blk _ (blk_lt h3)).trans h3, h4, by rw [hx.cell _ _ (Nat.lt_of_lt_of_le h4 h1.le)]; exact h5⟩
theorem rMany_at (b off : Nat) (v : Value) (Ps : List Pos) (p : Pos) (w : World) (hlb : b < w.heap.size) (hc0 : w.cell? ⟨b, off, none⟩ = some v) (hS : SlP w v Ps) (hn : Ps.length ≤ 100000) :
 Calls Tryz.prog 24 #[.pointer (some ⟨b, off, none⟩), .agg (posCells p)] w (Ret (.int .i64 (manyB Ps p)) w) := by
 obtain ⟨a, cap, rfl⟩ := hS.form
 go_enter Tryz.func24, Tryz.ntmps24
 have hp0 : blk (w.alloc (.cells (posCells p) 30)) w.heap.size = some (.cells (posCells p) 30 (0, 0)) := by simp [go_sem]
 have hE0 : Ext w (w.alloc (.cells (posCells p) 30)) := Ext.alloc (Ext.refl _) _
 go_upto_block 0 with (fail)
 go_wp2
 go_loopw [5, 6] (fun c i wr => ∃ k : Nat, i = .int .i64 k ∧ k ≤ Ps.length ∧ c = .int .i64 (manyB (Ps.take k) p) ∧ Ext (w.alloc (.cells (posCells p) 30)) wr) (fun _ i _ => Ps.length - (intOf i).toNat)
 case atStart => exact ⟨0, rfl, by omega, rfl, Ext.refl _⟩
 case round =>
  obtain ⟨k, rfl, hk, rfl, hxr⟩ := hrel
  have hp1 := (hxr.blk _ (blk_lt hp0)).trans hp0
  have hE1 := hE0.trans hxr
  have hc1 : wr.cell? ⟨b, off, none⟩ = some (.slice a Ps.length cap) := by rw [hE1.cell _ _ hlb]; exact hc0
  have hlb1 := Nat.lt_of_lt_of_le hlb hE1.le
  by_cases hlt : k < Ps.length
  ·obtain ⟨x, hx⟩ : ∃ x, Ps[k]? = some x := ⟨_, List.getElem?_eq_getElem hlt⟩
   rcases hS.ext hE1 with ⟨-, h0⟩ | ⟨g, o, cap', cur, T, fr, hv, hg, hat⟩
   ·rw [h0] at hlt; simp at hlt
   injection hv with hv1 hv2 hv3
   subst hv1
   obtain ⟨hk1, hk2⟩ := hat k x hx
   have hSM : ∀ w, Calls Tryz.prog 17 #[.agg (posCells x), .agg (posCells p)] w (Ret (.bool (sameB x p)) w) := fun w => rSame_any x p w
   have HMA := hid (many_snoc (p := p) hx)
   have hM : MSbk p b off w.heap.size g cur T fr (.slice (some ⟨g, o, none⟩) Ps.length cap) wr wr := ⟨Ext.refl _, hp1, hg, hlb1, hc1⟩
   have hmk := many_le (Ps.take k) p
   have hlk : (Ps.take k).length ≤ k := by rw [List.length_take]; omega
   have HX := hid hxr
   have HS := hid hS
   clear hx hat hg hS hc0 hxr hp0 hp1
   generalize manyB (Ps.take k) p = M at *
   cases hs : sameB x p
   ·rw [hs] at hSM HMA
    clear hs
    go_wp2
    refine wp_region_held_drew (S := MSbk p b off w.heap.size g cur T fr (.slice (some ⟨g, o, none⟩) Ps.length cap) wr) (by kernel_rfl) (hM.ext (Ext.drew (Ext.refl _))) (fun hH => ?_)
    refine hTz MSbk.u 0 ?_; (try go_frame)
    refine hTz MSbk.u 1 ?_; (try go_frame)
    refine hTz MSbk.u 2 ?_; (try go_frame)
    refine hTz MSbk.u 3 ?_; (try go_frame)
    refine hTz MSbk.u 4 ?_; (try go_frame)
    refine hTz MSbk.u 5 ?_; (try go_frame)
    refine hTz MSbk.u 6 ?_; (try go_frame)
    refine hTz MSbk.u 7 ?_; (try go_frame)
    refine hRy [8] (hCp (fun K hK => ?_) AllReadyH.nil); go_simp
    refine (hSM _).mono ?_
    rintro e w8 ⟨rfl, hx8⟩
    refine hK.out _ _ (hH.ext (by first | assumption | exact Ext.alloc (Ext.refl _) _)) (fun hH => ?_); clear hK; (try go_frame)
    refine wpAnyH_done (by kernel_rfl) ?_ _
    have hx9 := hH.1
    clear hM hH
    go_wp2
    go_roundw
    case rel => exact ⟨k + 1, by go_num, by omega, by rw [HMA.out]; rfl, HX.out.trans hx9⟩
    case measure => simp [intOf]; omega
   ·rw [hs] at hSM HMA
    clear hs
    go_wp2
    refine wp_region_held_drew (S := MSbk p b off w.heap.size g cur T fr (.slice (some ⟨g, o, none⟩) Ps.length cap) wr) (by kernel_rfl) (hM.ext (Ext.drew (Ext.refl _))) (fun hH => ?_)
    refine hTz MSbk.u 0 ?_; (try go_frame)
    refine hTz MSbk.u 1 ?_; (try go_frame)
    refine hTz MSbk.u 2 ?_; (try go_frame)
    refine hTz MSbk.u 3 ?_; (try go_frame)
    refine hTz MSbk.u 4 ?_; (try go_frame)
    refine hTz MSbk.u 5 ?_; (try go_frame)
    refine hTz MSbk.u 6 ?_; (try go_frame)
    refine hTz MSbk.u 7 ?_; (try go_frame)
    refine hRy [8] (hCp (fun K hK => ?_) AllReadyH.nil); go_simp
    refine (hSM _).mono ?_
    rintro e w8 ⟨rfl, hx8⟩
    refine hK.out _ _ (hH.ext (by first | assumption | exact Ext.alloc (Ext.refl _) _)) (fun hH => ?_); clear hK; (try go_frame)
    refine wpAnyH_done (by kernel_rfl) ?_ _
    have hx9 := hH.1
    clear hM hH
    go_wp2
    go_roundw
    case rel => exact ⟨k + 1, by go_num, by omega, by rw [HMA.out]; go_num, HX.out.trans hx9⟩
    case measure => simp [intOf]; omega
  ·obtain rfl : k = Ps.length := by omega
   rw [List.take_length]
   have hE9 := hE1
   go_wp2
   go_ret
   exact Ret.mk' rfl hE9
theorem rMany_any (b : Nat) (v : Value) (Ps : List Pos) (p : Pos) (w : World) (hb : blk w b = some (.cells #[v] 36 (0, 0))) (hS : SlP w v Ps) (hn : Ps.length ≤ 100000) :
 Calls Tryz.prog 24 #[.pointer (some ⟨b, 0, none⟩), .agg (posCells p)] w (Ret (.int .i64 (manyB Ps p)) w) := rMany_at b 0 v Ps p w (blk_lt hb) (blk_cell hb 0) hS hn
def mostUp (Ps : List Pos) (k : Nat) : Nat := (Ps.take k).foldl (fun n x => max n (manyB Ps x)) 0
def mostB (Ps : List Pos) : Nat := mostUp Ps Ps.length
theorem most_snoc {Ps : List Pos} {x : Pos} {k : Nat} (h : Ps[k]? = some x) : mostUp Ps (k + 1) = max (mostUp Ps k) (manyB Ps x) := by
 unfold mostUp
 rw [List.take_add_one, h, List.foldl_append]; rfl
theorem most_le (Ps : List Pos) : ∀ k, mostUp Ps k ≤ Ps.length := by
 intro k
 unfold mostUp
 have : ∀ (l : List Pos) (n : Nat), n ≤ Ps.length → l.foldl (fun n x => max n (manyB Ps x)) n ≤ Ps.length := by
  intro l
  induction l with
  | nil => intro n hn; exact hn
  | cons x r ih => intro n hn; exact ih _ (show max n (manyB Ps x) ≤ Ps.length by have := many_le Ps x; omega)
 exact this _ _ (Nat.zero_le _)
theorem rMost_any (b : Nat) (v : Value) (Ps : List Pos) (w : World) (hb : blk w b = some (.cells #[v] 36 (0, 0))) (hS : SlP w v Ps) (hn : Ps.length ≤ 100000) :
 Calls Tryz.prog 22 #[.pointer (some ⟨b, 0, none⟩)] w (Ret (.int .i64 (mostB Ps)) w) := by
 obtain ⟨a, cap, rfl⟩ := hS.form
 have hlb := blk_lt hb
 go_enter Tryz.func22, Tryz.ntmps22
 go_upto_block 0 with (fail)
 go_wp2
 go_loopw [3, 4] (fun c i wr => ∃ k : Nat, i = .int .i64 k ∧ k ≤ Ps.length ∧ c = .int .i64 (mostUp Ps k) ∧ Ext w wr) (fun _ i _ => Ps.length - (intOf i).toNat)
 case atStart => exact ⟨0, rfl, by omega, rfl, Ext.refl _⟩
 case round =>
  obtain ⟨k, rfl, hk, rfl, hxr⟩ := hrel
  have hb1 := (hxr.blk _ hlb).trans hb
  have hc1 := blk_cell hb1 0
  simp only [List.getElem?_toArray, List.getElem?_cons_zero] at hc1
  by_cases hlt : k < Ps.length
  ·obtain ⟨x, hx⟩ : ∃ x, Ps[k]? = some x := ⟨_, List.getElem?_eq_getElem hlt⟩
   have hMA : ∀ w', Ext wr w' → Calls Tryz.prog 24 #[.pointer (some ⟨b, 0, none⟩), .agg (posCells x)] w' (Ret (.int .i64 (manyB Ps x)) w') := fun w' h' => rMany_any b _ Ps x w' ((h'.blk _ (blk_lt hb1)).trans hb1) ((hS.ext hxr).ext h') hn
   rcases hS.ext hxr with ⟨-, h0⟩ | ⟨g, o, cap', cur, T, fr, hv, hg, hat⟩
   ·rw [h0] at hlt; simp at hlt
   injection hv with hv1 hv2 hv3
   subst hv1
   obtain ⟨hk1, hk2⟩ := hat k x hx
   have HMS := hid (most_snoc hx)
   have hm1 := most_le Ps k
   have hm2 := many_le Ps x
   have HX := hid hxr
   have HS := hid hS
   clear hx hat hS hb hxr hb1
   generalize mostUp Ps k = M at *
   generalize manyB Ps x = M2 at *
   go_wp2_with (go_at_call 24; (with_reducible refine (hMA _ (Ext.refl _)).mono ?_); rintro e w8 ⟨rfl, hx8⟩)
   all_goals
    go_roundw
    case rel => exact ⟨k + 1, by go_num, by omega, by rw [HMS.out]; congr 1; omega, HX.out.trans hx8⟩
    case measure => simp [intOf]; omega
  ·obtain rfl : k = Ps.length := by omega
   go_wp2
   go_ret
   exact Ret.mk' rfl hxr
def posL (Ps : List Pos) : List Value := Ps.flatMap fun p => (posCells p).toList
theorem posL_len (Ps : List Pos) : (posL Ps).length = Ps.length * 133 := by
 induction Ps with
 | nil => rfl
 | cons p r ih => simp only [posL, List.flatMap_cons, List.length_append, List.length_cons, Array.length_toList, posCells_size] at *; omega
theorem posL_append (a b : List Pos) : posL (a ++ b) = posL a ++ posL b := by simp [posL]
theorem posL_at {Ps : List Pos} {k : Nat} {x : Pos} (h : Ps[k]? = some x) : ∀ j, j < 133 → (posL Ps)[k * 133 + j]? = (posCells x)[j]? := by
 intro j hj
 have hk := (List.getElem?_eq_some_iff.1 h).1
 have e : Ps = Ps.take k ++ (x :: Ps.drop (k + 1)) := by
  have := List.drop_eq_getElem_cons hk
  rw [(List.getElem?_eq_some_iff.1 h).2] at this
  rw [← this, List.take_append_drop]
 rw [e, posL_append, List.getElem?_append_right (by rw [posL_len, List.length_take]; omega), posL_len, List.length_take, show k * 133 + j - min k Ps.length * 133 = j by rw [Nat.min_eq_left (by omega)]; omega]
 simp only [posL, List.flatMap_cons]
 rw [List.getElem?_append_left (by rw [Array.length_toList, posCells_size]; omega), Array.getElem?_toList]
theorem SlP.of_own {w : World} {B : Nat} {v : Value} {Ps : List Pos} (h : w.ownsRow B 30 133 v Ps.length (posL Ps)) : SlP w v Ps := by
 rcases h.2 with ⟨rfl, h0⟩ | ⟨g, cap, cur, rfl, h1, h2, h3, h4, h5, h6⟩
 ·exact .inl ⟨⟨_, _, rfl⟩, List.length_eq_zero_iff.1 h0⟩
 ·refine .inr ⟨g, 0, cap, cur, _, _, rfl, h2, fun k x hx => ?_⟩
  have hk := (List.getElem?_eq_some_iff.1 hx).1
  refine ⟨by rw [h5]; omega, ?_⟩
  apply Array.ext_getElem?
  intro j
  rw [Array.getElem?_extract]
  by_cases hj : j < 133
  ·rw [if_pos (by rw [h5]; omega), ← posL_at hx j hj, ← h6, List.getElem?_take_of_lt (by omega), Array.getElem?_toList]
   congr 1
   omega
  ·rw [if_neg (by omega), Array.getElem?_eq_none (by rw [posCells_size]; omega)]
theorem info_pos : (Tryz.prog.info? 30).map (fun i => (i.zero, i.size, i.bytes)) = some (some (.agg (Array.replicate 133 (.int .i64 0))), 133, 1064) := by kernel_rfl
structure WrP (B b : Nat) (w w' : World) : Prop where
 os : w'.os = w.os
 tape : w'.tape = w.tape
 output : w'.output = w.output
 size : w.heap.size ≤ w'.heap.size
 keep : ∀ k, k < w.heap.size → k ≠ b → (k < B ∨ ∀ cs fr, blk w k ≠ some (.cells cs 30 fr)) → blk w' k = blk w k
theorem WrP.refl (B b : Nat) (w : World) : WrP B b w w := ⟨rfl, rfl, rfl, Nat.le_refl _, fun _ _ _ _ => rfl⟩
theorem WrP.trans {B b : Nat} {a c d : World} (h : WrP B b a c) (k : WrP B b c d) : WrP B b a d :=
 ⟨k.os.trans h.os, k.tape.trans h.tape, k.output.trans h.output, Nat.le_trans h.size k.size, fun i hi hb hu => by
  have e := h.keep i hi hb hu
  refine (k.keep i (Nat.lt_of_lt_of_le hi h.size) hb ?_).trans e
  rcases hu with hu | hu
  ·exact .inl hu
  ·exact .inr (fun cs fr => by rw [e]; exact hu cs fr)⟩
theorem WrP.ext {B b : Nat} {a c : World} (h : Ext a c) : WrP B b a c := ⟨h.os, h.tape, h.output, h.size, fun k hk _ _ => h.blk k hk⟩
theorem WrP.set {B b i : Nat} {a c : World} (h : WrP B b a c) (v : Value) : WrP B b a (c.setCell ⟨b, i, none⟩ v) :=
 ⟨h.os, h.tape, h.output, by rw [size_set]; exact h.size, fun k hk hb hu => (blk_setCell_past _ _ _ _ hb).trans (h.keep k hk hb hu)⟩
theorem own_pos {w : World} {B n : Nat} {v : Value} {xs : List Value} (h : w.ownsRow B 30 133 v n xs) : ∀ k, v.ownBlock = some k → B ≤ k ∧ ∃ cs fr, blk w k = some (.cells cs 30 fr) := by
 intro k hk
 rcases h.2 with ⟨rfl, _⟩ | ⟨g, cap, cur, rfl, hg, hw, _⟩
 ·cases hk
 ·simp [Value.ownBlock] at hk
  subst hk
  exact ⟨hg, _, _, hw⟩
theorem WrP.grown {B b n : Nat} {a c d : World} {v : Value} {xs : List Value} (h : WrP B b a c) (hg : c.grownBy d v.ownBlock) (ho : c.ownsRow B 30 133 v n xs) : WrP B b a d :=
 h.trans ⟨hg.os, hg.tape, hg.output, hg.size, fun k hk hb hu => hg.block k hk (fun e => by
  obtain ⟨h1, cs, fr, h2⟩ := own_pos ho k e.symm
  rcases hu with hu | hu
  ·omega
  ·exact hu _ _ h2)⟩
structure Bk (B b : Nat) (Ps : List Pos) (w : World) : Prop where
 hB : B ≤ b
 st : ∃ v, blk w b = some (.cells #[v] 36 (0, 0)) ∧ w.ownsRow B 30 133 v Ps.length (posL Ps)
theorem own_past2 {w : World} {b base e size n : Nat} {v : Value} {xs : List Value} (h : w.ownsRow base e size v n xs) (hne : v.ownBlock ≠ some b) (i : Nat) (u : Value) : (w.setCell ⟨b, i, none⟩ u).ownsRow base e size v n xs :=
 own_blocks h fun k hk => blk_setCell_past _ _ _ _ (by rintro rfl; exact hne hk)
theorem Bk.put {B b : Nat} {v v' : Value} {Ps : List Pos} {w2 : World} (hB : B ≤ b) (hbk : blk w2 b = some (.cells #[v] 36 (0, 0))) (ho : w2.ownsRow B 30 133 v' Ps.length (posL Ps)) :
 Bk B b Ps (w2.setCell ⟨b, 0, none⟩ v') := by
 have hne : v'.ownBlock ≠ some b := fun e => by
  obtain ⟨-, cs, fr, h⟩ := own_pos ho b e
  rw [hbk] at h
  injection h with h
  injection h with _ h
  exact absurd h (by decide)
 exact ⟨hB, v', by rw [blk_setCell_same _ _ _ _ _ _ hbk]; rfl, own_past2 ho hne _ _⟩
end Go.Proofs.YtdmgimfgoajmjaaGreatDoor
