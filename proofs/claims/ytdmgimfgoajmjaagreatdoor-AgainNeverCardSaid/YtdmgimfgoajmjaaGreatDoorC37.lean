/- Castlings without some; rows of a position that are written. -/
import Derived.Test.YtdmgimfgoajmjaaGreatDoorC33
import Derived.Test.YtdmgimfgoajmjaaGreatDoorC32
import Derived.Test.YtdmgimfgoajmjaaGreatDoorC36
import Derived.Test.YtdmgimfgoajmjaaGreatDoorC31
set_option linter.unusedVariables false
set_option linter.unusedSimpArgs false
namespace Go.Proofs.YtdmgimfgoajmjaaGreatDoor
open Go.RowKit
theorem posCells_set (p q : Pos) (j : Nat) (v : Value) (hj : j < 133) (h : ∀ i, i < 133 → posCell q i = if i = j then v else posCell p i) : (posCells p).setIfInBounds j v = posCells q := by
  apply Array.ext_getElem?
  intro i
  rw [Array.getElem?_setIfInBounds]
  by_cases hi : i < 133
  · rw [posCells_get q i hi, h i hi]
    by_cases e : j = i
    · subst e; simp [posCells_size, hj]
    · rw [if_neg e, posCells_get p i hi, if_neg (by omega)]
  · have h1 : (posCells p)[i]? = none := by rw [Array.getElem?_eq_none_iff, posCells_size]; omega
    have h2 : (posCells q)[i]? = none := by rw [Array.getElem?_eq_none_iff, posCells_size]; omega
    rw [if_neg (by omega), h1, h2]
theorem pos_turn (p : Pos) (c : Int) : (posCells p).setIfInBounds 128 (.int .i64 c) = posCells { p with turn := c } :=
  posCells_set _ _ _ _ (by decide) fun i hi => by unfold posCell; (repeat' split) <;> first | rfl | omega
theorem pos_castle (p : Pos) (c : Int) : (posCells p).setIfInBounds 129 (.int .i64 c) = posCells { p with castle := c } :=
  posCells_set _ _ _ _ (by decide) fun i hi => by unfold posCell; (repeat' split) <;> first | rfl | omega
theorem pos_over (p : Pos) (c : Int) : (posCells p).setIfInBounds 130 (.int .i64 c) = posCells { p with over := c } :=
  posCells_set _ _ _ _ (by decide) fun i hi => by unfold posCell; (repeat' split) <;> first | rfl | omega
theorem pos_half (p : Pos) (c : Int) : (posCells p).setIfInBounds 131 (.int .i64 c) = posCells { p with half := c } :=
  posCells_set _ _ _ _ (by decide) fun i hi => by unfold posCell; (repeat' split) <;> first | rfl | omega
theorem pos_full (p : Pos) (c : Int) : (posCells p).setIfInBounds 132 (.int .i64 c) = posCells { p with full := c } :=
  posCells_set _ _ _ _ (by decide) fun i hi => by unfold posCell; (repeat' split) <;> first | rfl | omega
theorem pos_kind (p : Pos) (t c : Int) (h0 : 0 ≤ t) (h1 : t < 64) : (posCells p).setIfInBounds (t.toNat * 2) (.int .i64 c) = posCells { p with kind := fun i => if i = t.toNat then c else p.kind i } :=
  posCells_set _ _ _ _ (by omega) fun i hi => by
    unfold posCell
    by_cases e : i = t.toNat * 2
    · subst e
      simp [show t.toNat * 2 < 128 by omega]
    · by_cases e2 : i < 128
      · by_cases e3 : i % 2 = 0
        · simp [e, e2, e3, show ¬ (i / 2 = t.toNat) by omega]
        · simp [e, e2, e3]
      · simp [e, e2]
theorem pos_put (p : Pos) (t a b : Int) (h0 : 0 ≤ t) (h1 : t < 64) : ((posCells p).setIfInBounds (t.toNat * 2) (.int .i64 a)).setIfInBounds (t.toNat * 2 + 1) (.int .i64 b) = posCells (p.put t a b) := by
  rw [pos_kind p t a h0 h1]
  exact posCells_set _ _ _ _ (by omega) fun i hi => by
    unfold posCell Pos.put
    by_cases e : i = t.toNat * 2 + 1
    · subst e
      simp [show t.toNat * 2 + 1 < 128 by omega, show (t.toNat * 2 + 1) % 2 = 1 by omega, show (t.toNat * 2 + 1) / 2 = t.toNat by omega]
    · by_cases e2 : i < 128
      · by_cases e3 : i % 2 = 0
        · simp [e, e2, e3]
        · simp [e, e2, e3, show ¬ (i / 2 = t.toNat) by omega]
      · simp [e, e2]
theorem put_pos {p : Pos} {x y t : Int} {b : Nat} {w : World} {ty : TypeId} (hb : blk w b = some (.cells (posCells p) ty (0, 0))) (h0 : 0 ≤ t) (h1 : t < 64) :
    blk ((w.setCell ⟨b, t.toNat * 2, none⟩ (.int .i64 x)).setCell ⟨b, t.toNat * 2 + 1, none⟩ (.int .i64 y)) b = some (.cells (posCells (p.put t x y)) ty (0, 0)) := by
  rw [blk_setCell_same _ _ _ _ _ _ (blk_setCell_same _ _ _ _ _ _ hb), pos_put _ _ _ _ h0 h1]
def wUp (c s : Int) : Nat → Int
  | 0 => 0
  | j + 1 => wUp c s j + if c / (2 ^ j : Nat) % 2 = 1 ∧ s / (2 ^ j : Nat) % 2 = 0 then ((2 ^ j : Nat) : Int) else 0
theorem ck_wUp : ((List.range 16).all fun (c : Nat) => (List.range 16).all fun (l : Nat) => wUp c l 4 == notI c l && decide (0 ≤ wUp c l 1 ∧ wUp c l 1 ≤ 15 ∧ 0 ≤ wUp c l 2 ∧ wUp c l 2 ≤ 15 ∧ 0 ≤ wUp c l 3 ∧ wUp c l 3 ≤ 15)) = true := by decide +kernel
theorem wUp_at {c l : Int} (c0 : 0 ≤ c) (c1 : c ≤ 15) (l0 : 0 ≤ l) (l1 : l ≤ 15) : wUp c l 4 = notI c l ∧ 0 ≤ wUp c l 1 ∧ wUp c l 1 ≤ 15 ∧ 0 ≤ wUp c l 2 ∧ wUp c l 2 ≤ 15 ∧ 0 ≤ wUp c l 3 ∧ wUp c l 3 ≤ 15 := by
  have h1 := (List.all_eq_true.1 ck_wUp) c.toNat (List.mem_range.2 (by omega))
  have h2 := (List.all_eq_true.1 h1) l.toNat (List.mem_range.2 (by omega))
  rw [Int.toNat_of_nonneg c0, Int.toNat_of_nonneg l0, Bool.and_eq_true, decide_eq_true_eq, beq_iff_eq] at h2
  exact h2
set_option maxRecDepth 100000 in
set_option maxHeartbeats 2000000 in
theorem rWithout_any (c s : Int) (w : World) (c0 : 0 ≤ c) (c1 : c ≤ 15) (s0 : 0 ≤ s) (s1 : s ≤ 15) : Calls Tryz.prog 120 #[.int .i64 c, .int .i64 s] w (Ret (.int .i64 (notI c s)) w) := by
  obtain ⟨e4, w1, w2, w3, w4, w5, w6⟩ := wUp_at c0 c1 s0 s1
  have HE := hid e4
  have u1 := hid (show wUp c s 1 = (if c % 2 = 1 ∧ s % 2 = 0 then 1 else 0) by simp [wUp])
  have u2 := hid (show wUp c s 2 = wUp c s 1 + (if c / 2 % 2 = 1 ∧ s / 2 % 2 = 0 then 2 else 0) from rfl)
  have u3 := hid (show wUp c s 3 = wUp c s 2 + (if c / 4 % 2 = 1 ∧ s / 4 % 2 = 0 then 4 else 0) from rfl)
  have u4 := hid (show wUp c s 4 = wUp c s 3 + (if c / 8 % 2 = 1 ∧ s / 8 % 2 = 0 then 8 else 0) from rfl)
  generalize wUp c s 1 = x1 at *
  generalize wUp c s 2 = x2 at *
  generalize wUp c s 3 = x3 at *
  generalize wUp c s 4 = x4 at *
  clear e4
  have a1 : c.tdiv 1 = c := Int.tdiv_one c
  have a2 : c.tdiv 2 = c / 2 := Int.tdiv_eq_ediv_of_nonneg c0
  have a4 : c.tdiv 4 = c / 4 := Int.tdiv_eq_ediv_of_nonneg c0
  have a8 : c.tdiv 8 = c / 8 := Int.tdiv_eq_ediv_of_nonneg c0
  have b1 : s.tdiv 1 = s := Int.tdiv_one s
  have b2 : s.tdiv 2 = s / 2 := Int.tdiv_eq_ediv_of_nonneg s0
  have b4 : s.tdiv 4 = s / 4 := Int.tdiv_eq_ediv_of_nonneg s0
  have b8 : s.tdiv 8 = s / 8 := Int.tdiv_eq_ediv_of_nonneg s0
  have m1 : c.tmod 2 = c % 2 := Int.tmod_eq_emod_of_nonneg c0
  have m2 : (c / 2).tmod 2 = c / 2 % 2 := Int.tmod_eq_emod_of_nonneg (by omega)
  have m4 : (c / 4).tmod 2 = c / 4 % 2 := Int.tmod_eq_emod_of_nonneg (by omega)
  have m8 : (c / 8).tmod 2 = c / 8 % 2 := Int.tmod_eq_emod_of_nonneg (by omega)
  have n1 : s.tmod 2 = s % 2 := Int.tmod_eq_emod_of_nonneg s0
  have n2 : (s / 2).tmod 2 = s / 2 % 2 := Int.tmod_eq_emod_of_nonneg (by omega)
  have n4 : (s / 4).tmod 2 = s / 4 % 2 := Int.tmod_eq_emod_of_nonneg (by omega)
  have n8 : (s / 8).tmod 2 = s / 8 % 2 := Int.tmod_eq_emod_of_nonneg (by omega)
  go_enter Tryz.func120, Tryz.ntmps120
  go_wp2
  go_loopw [5, 6] (fun o i wr => ((i = .int .i64 1 ∧ o = .int .i64 0) ∨ (i = .int .i64 2 ∧ o = .int .i64 x1) ∨ (i = .int .i64 4 ∧ o = .int .i64 x2) ∨ (i = .int .i64 8 ∧ o = .int .i64 x3) ∨ (i = .int .i64 16 ∧ o = .int .i64 x4)) ∧ Ext w wr) (fun _ i _ => 16 - (intOf i).toNat)
  case atStart => exact ⟨.inl ⟨rfl, rfl⟩, (Ext.auto)⟩
  case round =>
    obtain ⟨hr, hx⟩ := hrel
    rcases hr with ⟨rfl, rfl⟩ | ⟨rfl, rfl⟩ | ⟨rfl, rfl⟩ | ⟨rfl, rfl⟩ | ⟨rfl, rfl⟩
    · go_wp2
      all_goals
        go_roundw
        case rel => exact ⟨.inr (.inl ⟨by rfl, by rw [u1.out]; go_light; simp_all⟩), hx⟩
        case measure => simp [intOf]
    · go_wp2
      all_goals
        go_roundw
        case rel => exact ⟨.inr (.inr (.inl ⟨by rfl, by rw [u2.out]; go_light; simp_all⟩)), hx⟩
        case measure => simp [intOf]
    · go_wp2
      all_goals
        go_roundw
        case rel => exact ⟨.inr (.inr (.inr (.inl ⟨by rfl, by rw [u3.out]; go_light; simp_all⟩))), hx⟩
        case measure => simp [intOf]
    · go_wp2
      all_goals
        go_roundw
        case rel => exact ⟨.inr (.inr (.inr (.inr ⟨by rfl, by rw [u4.out]; go_light; simp_all⟩))), hx⟩
        case measure => simp [intOf]
    · go_wp2
      go_ret
      exact Ret.mk' (vint HE.out) hx
end Go.Proofs.YtdmgimfgoajmjaaGreatDoor
namespace Go.Proofs.YtdmgimfgoajmjaaGreatDoor
open Go.RowKit
theorem wpListIn_of_list {P : Program} {ops : Array Oper} {Q : Exit → Act → World → Prop} (l n : Nat) (hL : ¬ LetsOut Q) : ∀ (rest : List Oper) (a : Act) (w : World), (∀ o ∈ rest, ∀ c, o.op ≠ .defer c) → wpList P ops Q rest a w → wpListIn (Fence.wide.inRound l) n P ops Q rest a w
  | [], _, _, _, h => h
  | o :: rest, a, w, hd, h => by
    unfold wpList at h
    unfold wpListIn
    split at h
    · rename_i hw
      rw [if_pos hw]
      rcases h with h | h
      · exact operIn_of_plain (hd o List.mem_cons_self) l n hL (fun a w h => wpListIn_of_list l n hL rest a w (fun o ho => hd o (List.mem_cons_of_mem _ ho)) h) h
      · exact absurd h.2 hL
    · rename_i hw
      rw [if_neg hw]
      exact ⟨fun _ _ => trivial, wpListIn_of_list l n hL rest _ _ (fun o ho => hd o (List.mem_cons_of_mem _ ho)) h⟩
theorem wpIn_round_list {P : Program} {id : Nat} {Q : Exit → Act → World → Prop} {a : Act} {w : World} {ls : List Oper} (l m : Nat) (hL : ¬ LetsOut Q) (hD : noDeferB ls = true) (h : wpList P ls.toArray Q ls a w) : (Code.region id ls.toArray false).wpIn (Fence.wide.inRound l) m P Q a w := by
  refine wpIn_region_lit (wpListIn_of_list l m hL ls a w (fun o ho c hc => ?_) h)
  have := List.all_eq_true.1 hD o ho
  rw [hc] at this
  cases this
theorem all_any (p : Pos) (w : World) : Calls Tryz.prog 106 #[.agg (posCells p)] w fun e w' =>
    e = .returned (.func (.func 153) #[] #[.pointer (some ⟨w.heap.size, 0, none⟩)]) ∧ Ext w w' ∧ blk w' w.heap.size = some (.cells (posCells p) 167 (0, 0)) := by
  go_enter Tryz.func106, Tryz.ntmps106
  go_wp2
  go_ret
  exact ⟨rfl, (Ext.auto), by simp [go_sem]⟩
theorem of_yes (p : Pos) (w : World) (hp : positionB p = true) : Calls Tryz.prog 69 #[.agg (posCells p)] w fun e w' =>
    ∃ b, e = .returned (.func (.func 153) #[] #[.pointer (some ⟨b, 0, none⟩)]) ∧ w.heap.size ≤ b ∧ Ext w w' ∧ blk w' b = some (.cells (posCells p) 167 (0, 0)) := by
  have HP : ∀ w, Calls Tryz.prog 28 #[.agg (posCells p)] w (Ret (.bool true) w) := fun w => by rw [← hp]; exact Position_any p w
  clear hp
  go_enter Tryz.func69, Tryz.ntmps69
  go_wp2_with (first | (go_at_call 28; (with_reducible refine (HP _).mono ?_); rintro e w1 ⟨rfl, hx⟩; obtain ⟨hxc, hxf, hxb, hxs⟩ := hx.all; (try simp only [World.size_alloc, size_set, size_drew] at hxc hxf hxb hxs); (first | (have h4 := lt4 w.heap.size w1.heap.size (by omega)); (obtain ⟨_, _, _, _⟩ := h4) | (have h4 := lt3 w.heap.size w1.heap.size (by omega)); (obtain ⟨_, _, _⟩ := h4) | (have h4 := lt2 w.heap.size w1.heap.size (by omega)); (obtain ⟨_, _⟩ := h4) | have := lt1 w.heap.size w1.heap.size (by omega) | skip)) | (go_at_call 106; (with_reducible refine (all_any p _).mono ?_); rintro e w2 ⟨rfl, hx2, hC2⟩))
  go_ret
  exact ⟨_, rfl, by have := hx.le; simp at this; omega, (Ext.auto), hC2⟩
theorem of_no (p : Pos) (w : World) (hp : positionB p = false) : Calls Tryz.prog 69 #[.agg (posCells p)] w (Ret (.func (.func 105) #[] #[]) w) := by
  have HP : ∀ w, Calls Tryz.prog 28 #[.agg (posCells p)] w (Ret (.bool false) w) := fun w => by rw [← hp]; exact Position_any p w
  clear hp
  go_enter Tryz.func69, Tryz.ntmps69
  go_wp2_with (first | (go_at_call 28; (with_reducible refine (HP _).mono ?_); rintro e w1 ⟨rfl, hx⟩; obtain ⟨hxc, hxf, hxb, hxs⟩ := hx.all; (try simp only [World.size_alloc, size_set, size_drew] at hxc hxf hxb hxs); (first | (have h4 := lt4 w.heap.size w1.heap.size (by omega)); (obtain ⟨_, _, _, _⟩ := h4) | (have h4 := lt3 w.heap.size w1.heap.size (by omega)); (obtain ⟨_, _, _⟩ := h4) | (have h4 := lt2 w.heap.size w1.heap.size (by omega)); (obtain ⟨_, _⟩ := h4) | have := lt1 w.heap.size w1.heap.size (by omega) | skip)))
  go_ret
  exact Ret.mk' rfl (Ext.auto)
abbrev MvL (p : Pos) := { m : Mv // m ∈ AllL p ∧ legalB p m = true }
def encL (p : Pos) (x : MvL p) : Array Value := #[.agg (mvC x.1), .agg (posCells (movedP p x.1))]
theorem all_stops (n : Nat) (hn : 1 ≤ n) (p : Pos) (bf : Nat) (Safe : World → Nat → Prop) (Fine : World → Prop) (G : Guards Safe Fine) (w : World) (hC : blk w bf = some (.cells (posCells p) 167 (0, 0))) (hF : Fine w) (hSb : Safe w bf) :
    SeqStopsK Fence.wide n Tryz.prog 153 #[.pointer (some ⟨bf, 0, none⟩)] (encL p) (KpG Safe Fine) (fun xs => xs.map (·.1) = legalL p) (fun _ => True) 900000 w := fun l J Jx W hW hJ _ hY h0 => by
  refine (all_in n hn l p bf Safe Fine G (fun pre W => ∃ q : List (MvL p), q.map (·.1) = pre ∧ J q W) (fun pre W => ∃ q : List (MvL p), q.map (·.1) = pre ∧ Jx q W) ?_ W (fun s A B row ⟨q, e, h⟩ hg hr => ⟨q, e, hJ _ _ _ _ h hg hr⟩) ((hW.block _ (blk_lt hC)).trans hC) (G.s1 _ _ hW hF) (G.s2 _ _ _ hW hF hSb) ⟨[], rfl, h0⟩).mono ?_
  · rintro pre m W1 hx hm ⟨q, e, h⟩ hl
    obtain ⟨fn, tmps, assign, body, hy, hR⟩ := hY q ⟨m, hx, hm⟩ W1 h (by rw [← e] at hl; simpa using hl)
    refine ⟨fn, tmps, assign, body, hy, hR.mono ?_⟩
    rintro e' W' (⟨rfl, hJ3, hk⟩ | ⟨rfl, hJ3⟩)
    · exact .inl ⟨rfl, ⟨_, by simp [e], hJ3⟩, hk⟩
    · exact .inr ⟨rfl, ⟨_, by simp [e], hJ3⟩⟩
  · rintro e W' ⟨hv, ⟨xs, hxs, q, hq, h⟩ | ⟨pre, -, q, hq, h⟩⟩
    · exact ⟨hv, .inl ⟨q, hq.trans hxs, h⟩⟩
    · exact ⟨hv, .inr ⟨q, trivial, h⟩⟩
theorem none_stops (n : Nat) (Kp : World → World → Prop) (w : World) : SeqStopsK Fence.wide n Tryz.prog 105 #[] (fun x : Empty => nomatch x) Kp (fun xs => xs = []) (fun _ => False) 900000 w := fun l J Jx W hW hJ _ hY h0 => by
  refine callsIn_of_wp Tryz.func105 rfl trivial ?_ rfl
  simp only [Tryz.ntmps105, List.size_toArray, List.length_cons, List.length_nil, Nat.reduceAdd, Nat.reduceSub, Array.replicate_succ, Array.replicate_zero, List.push_toArray, List.append_toArray, List.nil_append, List.cons_append]
  gi_wp2
  go_end0
  exact ⟨⟨_, rfl⟩, h0⟩
def FineM (bo : Nat) (A : World) : Prop := ∃ v, blk A bo = some (.cells #[v] 45 (0, 0)) ∧ ∀ k, v.ownBlock = some k → k < A.heap.size
def SafeM (bo : Nat) (A : World) (k : Nat) : Prop := k ≠ bo ∧ (∃ cs t fr, A.heap[k]? = some (.cells cs t fr)) ∧ ∀ v, blk A bo = some (.cells #[v] 45 (0, 0)) → v.ownBlock ≠ some k
theorem guardsM (bo : Nat) : Guards (SafeM bo) (FineM bo) where
  s1 A B hx := by
    rintro ⟨v, h1, h2⟩
    exact ⟨v, (hx.blk _ (blk_lt h1)).trans h1, fun k hk => Nat.lt_of_lt_of_le (h2 k hk) hx.le⟩
  s2 A B k hx := by
    rintro ⟨v, h1, h2⟩ ⟨h3, ⟨cs, t, fr, h4⟩, h5⟩
    refine ⟨h3, ⟨cs, t, fr, (hx.block k (Array.getElem?_eq_some_iff.1 h4).1).trans h4⟩, fun u hu => h5 u ?_⟩
    rw [← hx.blk _ (blk_lt h1)]; exact hu
  s3 A B k cs t fr hx := by
    rintro ⟨v, h1, h2⟩ hk hc
    have hlt := blk_lt h1
    refine ⟨by omega, ⟨cs, t, fr, hc⟩, fun u hu e => ?_⟩
    rw [hx.blk _ hlt, h1] at hu
    cases hu
    have := h2 k e
    omega
theorem kpg_ext {Safe : World → Nat → Prop} {Fine : World → Prop} (G : Guards Safe Fine) {A B : World} (hx : Ext A B) (hF : Fine A) (hs : ∀ k, Safe A k → k < A.heap.size) : KpG Safe Fine A B :=
  ⟨hx.le, fun h => G.s1 _ _ hx h, fun k hk => ⟨hx.block k (hs k hk), G.s2 _ _ _ hx hF hk⟩⟩
theorem safeM_lt {bo : Nat} {A : World} {k : Nat} (h : SafeM bo A k) : k < A.heap.size := by
  obtain ⟨-, ⟨cs, t, fr, h4⟩, -⟩ := h
  exact (Array.getElem?_eq_some_iff.1 h4).1
end Go.Proofs.YtdmgimfgoajmjaaGreatDoor
namespace Go.Proofs.YtdmgimfgoajmjaaGreatDoor
open Go.RowKit
structure InvM (p : Pos) (w : World) (B0 : Nat) (q : List (MvL p)) (v : Value) (W : World) : Prop where
  o : blk W (w.heap.size + 1) = some (.cells #[v] 45 (0, 0))
  r : W.ownsRow B0 51 3 v (q.map (·.1)).length (mvsC (q.map (·.1)))
  x : Below w.heap.size w W
  n : B0 ≤ W.heap.size
theorem InvM.fine {p : Pos} {w : World} {B0 : Nat} {q : List (MvL p)} {v : Value} {W : World} (h : InvM p w B0 q v W) : FineM (w.heap.size + 1) W :=
  ⟨v, h.o, fun k hk => (h.r.lt k hk).2⟩
theorem legalL_len (p : Pos) : (legalL p).length ≤ 300000 := Nat.le_trans (List.length_filter_le _ _) (AllL_len p)
set_option maxRecDepth 100000 in
set_option maxHeartbeats 4000000 in
theorem Moves_yes (p : Pos) (w : World) (hp : positionB p = true) : Calls Tryz.prog 29 #[.agg (posCells p)] w (RetMvs (legalL p) w) := by
  refine (callsIn_wide (n := 5)).1 (callsIn_of_wp_marks Tryz.func29 rfl trivial ?_ rfl)
  simp only [Tryz.ntmps29, List.size_toArray, List.length_cons, List.length_nil, Nat.reduceAdd, Nat.reduceSub, Array.replicate_succ, Array.replicate_zero, List.push_toArray, List.append_toArray, List.nil_append, List.cons_append]
  refine wpIn_wide.2 ?_
  have HP := hid hp
  clear hp
  go_wp2_with (go_at_call 69; (with_reducible refine (of_yes p _ HP.out).mono ?_); rintro e w1 ⟨bf, rfl, hbf, hx1, hC⟩)
  have hlw := hx1.le
  simp only [World.size_alloc] at hlw hbf
  have hbo : blk w1 (w.heap.size + 1) = some (.cells #[.slice none 0 0] 45 (0, 0)) := (hx1.blk _ (by simp)).trans (by simp [go_sem])
  have hEx : Ext w w1 := Ext.trans (Ext.auto) hx1
  have hlC := blk_lt hC
  refine (wpIn_wide (n := 5)).1 ?_
  have hF1 : FineM (w.heap.size + 1) w1 := ⟨_, hbo, fun k hk => by cases hk⟩
  have hS1 : SafeM (w.heap.size + 1) w1 bf := ⟨by omega, ⟨_, _, _, hC⟩, fun v hv e => by rw [hbo] at hv; cases hv; cases e⟩
  try simp only [World.size_alloc] at hC ⊢
  refine wpIn_rangeFunc_ownH rfl (by decide) (gf := 153) (lb := #[.pointer (some ⟨bf, 0, none⟩)]) rfl trivial (enters_of Tryz.func153 (by kernel_rfl) rfl)
    (all_stops 4 (by decide) p _ _ _ (guardsM (w.heap.size + 1)) w1 hC hF1 hS1) (fun h k => h.trans k) ?kb (Below.refl _ _) (fun _ => rfl)
    (fun q W => ∃ v, InvM p w w1.heap.size q v W) (fun _ _ _ => False) ?own (fun _ _ _ _ _ hs _ _ => hs) ⟨_, hbo, World.ownsRow_nil _ _ _ _, hEx, Nat.le_refl _⟩
    (fun x a' W => ∃ b, w1.heap.size ≤ b ∧ blk W b = some (.cells (mvC x.1) 51 (0, 0)) ∧ a' = { tmps := #[.agg (posCells p), .pointer (some ⟨w.heap.size, 0, none⟩), .pointer (some ⟨w.heap.size + 1, 0, none⟩), .pointer (some ⟨b, 0, none⟩), .agg (posCells p), .func (.func 153) #[] #[.pointer (some ⟨bf, 0, none⟩)], .agg (mvC x.1), .agg (posCells (movedP p x.1)), undef, undef, undef, undef, undef], defers := [] })
    ?ownA ?assign ?body ?done ?stop
  case kb =>
    intro W l o o' hl ho hc hw
    have hne : l ≠ w.heap.size + 1 := by have := blk_lt hbo; omega
    have hsz := (grownBy_putObj' W l o').size
    have hbk : blk (W.putObj l o') (w.heap.size + 1) = blk W (w.heap.size + 1) := World.putObj_heap_other (by omega)
    refine ⟨hsz, ?_, ?_⟩
    · rintro ⟨v, h1, h2⟩
      exact ⟨v, hbk.trans h1, fun k hk => Nat.lt_of_lt_of_le (h2 k hk) hsz⟩
    · rintro k ⟨h3, ⟨cs, t, fr, h4⟩, h5⟩
      have hkl : k ≠ l := by rintro rfl; rw [ho] at h4; cases h4; cases hc
      have hk : (W.putObj l o').heap[k]? = W.heap[k]? := World.putObj_heap_other hkl
      exact ⟨hk, h3, ⟨cs, t, fr, hk.trans h4⟩, fun v hv => h5 v (hbk.symm.trans hv)⟩
  case own =>
    rintro q A B row ⟨v, hI⟩ hg hr
    refine ⟨v, (hg.block _ (blk_lt hI.o) (fun e => by have := (hr _ e.symm).1; omega)).trans hI.o, own_grown hI.r hg (fun r e => (hr r e).2), hI.x.grown hg hI.x.size (fun r e => by have := (hr r e).1; omega), Nat.le_trans hI.n hg.size⟩
  case ownA =>
    rintro x a' _ A B row ⟨b, hb, hbb, rfl⟩ hg hr
    refine ⟨b, hb, (hg.block _ (blk_lt hbb) (fun e => ?_)).trans hbb, rfl⟩
    obtain ⟨_, o, ho, hn⟩ := hr b e.symm
    rw [show A.heap[b]? = _ from hbb] at ho; cases ho; cases hn
  case assign =>
    rintro l pre x W K ⟨v, hI⟩ hK
    have hA : Ext W (W.alloc (.cells (mvC x.1) 51 (0, 0))) := Ext.alloc (Ext.refl _) _
    have hle := hI.n
    unfold encL mvC
    gi_wp2_with (rw [Oper.semAt_eq _ _ _ (fun c h => by cases h)]; go_simp)
    exact hK _ _ (hA.keeps _) (kpg_ext (guardsM _) hA hI.fine (fun k hk => safeM_lt hk)) ⟨v, (hA.blk _ (blk_lt hI.o)).trans hI.o, own_ext hI.r hA, Below.trans hI.x (Below.mono hA hI.x.size), by simp; omega⟩ ⟨W.heap.size, hle, blk_alloc_at _ _ _ rfl, rfl⟩
  case body =>
    rintro l q0 x a' W hl ⟨r, hr⟩ ⟨v, hI⟩ ⟨b, hb, hbb, rfl⟩ hlt
    have hown := hI.r
    have hlen9 : (q0.map (·.1)).length ≤ 900000 := by rw [List.length_map]; omega
    obtain ⟨L, hLq⟩ : ∃ L, L = q0.map (·.1) := ⟨_, rfl⟩
    rw [← hLq] at hown hlen9
    obtain ⟨av, capv, rfl⟩ := (Sl.of_own hown).form
    have hc2 := blk_cell hI.o 0
    have d0 := blk_cell hbb 0
    have d1 := blk_cell hbb 1
    have d2 := blk_cell hbb 2
    simp only [mvC, List.getElem?_toArray, List.getElem?_cons_zero, List.getElem?_cons_succ] at hc2 d0 d1 d2
    have hlb := blk_lt hbb
    have hlo := blk_lt hI.o
    have HI := hid hI
    have hbw : w.heap.size + 1 < w1.heap.size := blk_lt hbo
    have hle := hI.n
    have hxW := hI.x
    clear hI
    refine wpIn_block ?_
    refine wpIn_round_list l _ ?hL ?hD ?_
    case hL => rintro ⟨_, _, h⟩; exact h
    case hD => kernel_rfl
    have hA : Ext W (W.alloc (.cells #[.int .i64 x.1.fr, .int .i64 x.1.to_, .int .i64 x.1.be] 51 (0, 0))) := Ext.alloc (Ext.refl _) _
    have hownA := own_ext hown hA
    have hboA : blk (W.alloc (.cells #[.int .i64 x.1.fr, .int .i64 x.1.to_, .int .i64 x.1.be] 51 (0, 0))) (w.heap.size + 1) = _ := (hA.blk _ hlo).trans HI.out.o
    have hsA : (W.alloc (.cells #[.int .i64 x.1.fr, .int .i64 x.1.to_, .int .i64 x.1.be] 51 (0, 0))).heap.size = W.heap.size + 1 := by simp
    have HLT := hid hlt
    have hbase9 : w1.heap.size ≤ (W.alloc (.cells #[.int .i64 x.1.fr, .int .i64 x.1.to_, .int .i64 x.1.be] 51 (0, 0))).heap.size := by rw [hsA]; omega
    have HLq := hid hLq
    clear hLq
    go_wp2_with (at_builtin; refine wpList_append_mv rfl _ _ rfl w1.heap.size _ L rfl hownA W.heap.size x.1 rfl (blk_alloc_at _ _ _ rfl) hlen9 hbase9 (fun v' w2 hown2 hg2 hf2 => ?_); obtain ⟨n', hn'⟩ : ∃ n', n' = (L ++ [x.1]).length := ⟨_, rfl⟩; rw [← hn'] at hown2; (have HN' := hid hn'); clear hn'; obtain ⟨av', cv', rfl⟩ := (Sl.of_own hown2).form; (have hbo2 : blk w2 (w.heap.size + 1) = _ := (hg2.block _ (by rw [hsA]; omega) (fun e => by have := (own_cells hownA e.symm).1; omega)).trans hboA); (have hc3 := blk_cell hbo2 0); (have hf3 := blk_froz hbo2 0); (simp only [List.getElem?_toArray, List.getElem?_cons_zero] at hc3))
    have hbs := blk_setCell_same w2 (w.heap.size + 1) 0 _ _ (.slice av' n' cv') hbo2
    have hsz2 : (W.alloc (.cells #[.int .i64 x.1.fr, .int .i64 x.1.to_, .int .i64 x.1.be] 51 (0, 0))).heap.size ≤ w2.heap.size := hg2.size
    have hst := size_set w2 ⟨w.heap.size + 1, 0, none⟩ (.slice av' n' cv')
    have hm : (q0 ++ [x]).map (·.1) = L ++ [x.1] := by rw [List.map_append, ← HLq.out]; rfl
    have hx2 : Ext w w2 := Ext.grown (Below.trans hxW (Below.mono hA hxW.size)) (own_base hownA (by omega)) hg2
    refine ⟨((hA.keeps _).trans (own_keeps hownA hg2 _)).trans ((KeepsOthers.setCell _ _ _).from _), ⟨by omega, ?_, ?_⟩, .slice av' n' cv', hbs, ?_, Ext.set hx2 (by simp) _, by omega⟩
    · rintro -
      exact ⟨_, hbs, fun k hk => by rw [hst]; exact (hown2.lt k hk).2⟩
    · rintro k ⟨h3, ⟨cs, t, fr, h4⟩, h5⟩
      have hk1 : k < W.heap.size := (Array.getElem?_eq_some_iff.1 h4).1
      have hno := h5 _ HI.out.o
      have e1 : (w2.setCell ⟨w.heap.size + 1, 0, none⟩ (.slice av' n' cv')).heap[k]? = W.heap[k]? := by
        refine (blk_setCell_past w2 ⟨w.heap.size + 1, 0, none⟩ (.slice av' n' cv') k h3).trans ((hg2.block k (by rw [hsA]; omega) (fun e => hno e.symm)).trans ?_)
        exact hA.block k hk1
      refine ⟨e1, h3, ⟨cs, t, fr, e1.trans h4⟩, fun u hu e => ?_⟩
      rw [hbs] at hu
      cases hu
      rcases hf2 k e with h6 | h6
      · exact hno h6
      · rw [hsA] at h6; omega
    · rw [hm, ← HN'.out]
      exact own_set hown2 (by show w.heap.size + 1 < _; omega) _
  case done =>
    rintro D xs W hD hxs ⟨v, hI⟩ hK
    have hr := hI.r
    have ho := hI.o
    have hxx := hI.x
    have hnn := hI.n
    clear hI
    rw [hxs] at hr
    have hLl := legalL_len p
    obtain ⟨L, hLe⟩ : ∃ L, L = legalL p := ⟨_, rfl⟩
    rw [← hLe] at hr hLl
    have HLe := hid hLe
    clear hxs hLe
    have hc2 := blk_cell ho 0
    have hf2 := blk_froz ho 0
    simp only [List.getElem?_toArray, List.getElem?_cons_zero] at hc2
    obtain ⟨av, capv, rfl⟩ := (Sl.of_own hr).form
    have hlo := blk_lt ho
    have hbw : w.heap.size + 1 < w1.heap.size := blk_lt hbo
    have HK := hid hK
    have HO := hid ho
    clear hK ho hbo
    go_wp2
    have hK4 : (W.setCell ⟨w.heap.size + 1, 0, none⟩ (.slice av L.length capv)).heap[D]? = some (.deferred (some [])) := (blk_setCell_past W _ _ D (by simp; omega)).trans HK.out
    have hown4 := own_set hr (a := ⟨w.heap.size + 1, 0, none⟩) (by show w.heap.size + 1 < _; omega) (.slice av L.length capv)
    have hc4 : (W.setCell ⟨w.heap.size + 1, 0, none⟩ (.slice av L.length capv)).cell? ⟨w.heap.size + 1, 0, none⟩ = some (.slice av L.length capv) := World.cell?_setCell_same' _ _ _ (by rw [hc2]; rfl)
    have hx4 : Ext w (W.setCell ⟨w.heap.size + 1, 0, none⟩ (.slice av L.length capv)) := Ext.set hxx (by simp) _
    have hown5 := own_blocks hown4 (w' := (W.setCell ⟨w.heap.size + 1, 0, none⟩ (.slice av L.length capv)).putObj D (.deferred none)) (fun b hb => World.putObj_heap_other (fun e => by
      obtain ⟨_, cur, hc⟩ := own_cells hown4 hb
      rw [e, hK4] at hc; cases hc))
    have hc5 : ((W.setCell ⟨w.heap.size + 1, 0, none⟩ (.slice av L.length capv)).putObj D (.deferred none)).cell? ⟨w.heap.size + 1, 0, none⟩ = some (.slice av L.length capv) := (World.cell?_of_block (World.putObj_heap_other (by show w.heap.size + 1 ≠ D; omega))).trans hc4
    have hx5 : Ext w ((W.setCell ⟨w.heap.size + 1, 0, none⟩ (.slice av L.length capv)).putObj D (.deferred none)) := Below.grown hx4 (grownBy_putObj' _ D _) hx4.size (fun k hk => by have e := Option.some.inj hk; omega)
    refine ⟨by simp, .inl ⟨_, _, rfl, run_takeDeferred hK4, ?_⟩⟩
    refine ⟨.slice av L.length capv, ?_, ?_⟩
    · simp [results, Tryz.f29, go_sem, hc5]
    · refine ⟨_, rfl, ?_, hx5⟩
      rw [← HLe.out]
      exact own_base hown5 (by omega)
  case stop =>
    rintro D c pre W _ _ h _
    exact h.elim
set_option maxRecDepth 100000 in
set_option maxHeartbeats 4000000 in
theorem Moves_no (p : Pos) (w : World) (hp : positionB p = false) : Calls Tryz.prog 29 #[.agg (posCells p)] w (RetMvs [] w) := by
  refine (callsIn_wide (n := 5)).1 (callsIn_of_wp_marks Tryz.func29 rfl trivial ?_ rfl)
  simp only [Tryz.ntmps29, List.size_toArray, List.length_cons, List.length_nil, Nat.reduceAdd, Nat.reduceSub, Array.replicate_succ, Array.replicate_zero, List.push_toArray, List.append_toArray, List.nil_append, List.cons_append]
  refine wpIn_wide.2 ?_
  have HP := hid hp
  clear hp
  go_wp2_with (go_at_call 69; (with_reducible refine (of_no p _ HP.out).mono ?_); rintro e w1 ⟨rfl, hx1⟩)
  have hlw := hx1.le
  simp only [World.size_alloc] at hlw
  have hbo : blk w1 (w.heap.size + 1) = some (.cells #[.slice none 0 0] 45 (0, 0)) := (hx1.blk _ (by simp)).trans (by simp [go_sem])
  have hEx : Ext w w1 := Ext.trans (Ext.auto) hx1
  have hbw : w.heap.size + 1 < w1.heap.size := blk_lt hbo
  refine (wpIn_wide (n := 5)).1 ?_
  refine wpIn_rangeFunc_ownH rfl (by decide) (gf := 105) (lb := #[]) rfl trivial (enters_of Tryz.func105 (by kernel_rfl) rfl)
    (none_stops 4 (fun _ _ => True) w1) (fun _ _ => trivial) (fun _ _ _ _ _ _ _ _ => trivial) (Below.refl _ _) (fun x => nomatch x)
    (fun q W => q = [] ∧ blk W (w.heap.size + 1) = some (.cells #[.slice none 0 0] 45 (0, 0)) ∧ Below w.heap.size w W) (fun _ _ _ => False) ?own (fun _ _ _ _ _ hs _ _ => hs) ⟨rfl, hbo, hEx⟩
    (fun x a' W => False) ?ownA ?assign ?body ?done ?stop
  case own =>
    rintro q A B row ⟨rfl, h1, h2⟩ hg hr
    exact ⟨rfl, (hg.block _ (blk_lt h1) (fun e => by have := (hr _ e.symm).1; omega)).trans h1, h2.grown hg h2.size (fun r e => by have := (hr r e).1; omega)⟩
  case ownA =>
    rintro x a' _ A B row h _ _
    exact h
  case assign =>
    rintro l pre x W K _ hK
    nomatch x
  case body =>
    rintro l q0 x a' W _ _ _ h _
    exact h.elim
  case done =>
    rintro D xs W hD hxs ⟨-, ho, hxx⟩ hK
    have hc2 := blk_cell ho 0
    have hf2 := blk_froz ho 0
    simp only [List.getElem?_toArray, List.getElem?_cons_zero] at hc2
    have hlo := blk_lt ho
    have HK := hid hK
    clear hK hbo
    go_wp2
    have hK4 : (W.setCell ⟨w.heap.size + 1, 0, none⟩ (.slice none 0 0)).heap[D]? = some (.deferred (some [])) := (blk_setCell_past W _ _ D (by simp; omega)).trans HK.out
    have hc4 : (W.setCell ⟨w.heap.size + 1, 0, none⟩ (.slice none 0 0)).cell? ⟨w.heap.size + 1, 0, none⟩ = some (.slice none 0 0) := World.cell?_setCell_same' _ _ _ (by rw [hc2]; rfl)
    have hx4 : Ext w (W.setCell ⟨w.heap.size + 1, 0, none⟩ (.slice none 0 0)) := Ext.set hxx (by simp) _
    have hc5 : ((W.setCell ⟨w.heap.size + 1, 0, none⟩ (.slice none 0 0)).putObj D (.deferred none)).cell? ⟨w.heap.size + 1, 0, none⟩ = some (.slice none 0 0) := (World.cell?_of_block (World.putObj_heap_other (by show w.heap.size + 1 ≠ D; omega))).trans hc4
    have hx5 : Ext w ((W.setCell ⟨w.heap.size + 1, 0, none⟩ (.slice none 0 0)).putObj D (.deferred none)) := Below.grown hx4 (grownBy_putObj' _ D _) hx4.size (fun k hk => by have e := Option.some.inj hk; omega)
    refine ⟨by simp, .inl ⟨_, _, rfl, run_takeDeferred hK4, ?_⟩⟩
    refine ⟨.slice none 0 0, ?_, ?_⟩
    · simp [results, Tryz.f29, go_sem, hc5]
    · exact ⟨_, rfl, World.ownsRow_nil _ _ _ _, hx5⟩
  case stop =>
    rintro D c pre W _ h _ _
    exact h.elim
theorem Moves_any (p : Pos) (w : World) : Calls Tryz.prog 29 #[.agg (posCells p)] w (RetMvs (movesP p) w) := by
  cases hp : positionB p
  · have e : movesP p = [] := by unfold movesP; rw [hp]; rfl
    rw [e]; exact Moves_no p w hp
  · have e : movesP p = legalL p := by unfold movesP; rw [hp]; rfl
    rw [e]; exact Moves_yes p w hp
end Go.Proofs.YtdmgimfgoajmjaaGreatDoor
namespace Go.Proofs.YtdmgimfgoajmjaaGreatDoor
open Go.RowKit
def fromUp (p : Pos) (a : Int) (n : Nat) : List Mv := (((List.range n).map (Nat.cast : Nat → Int)).filter (rGoesB p a)).flatMap (toOne a (p.kind a.toNat) (p.side a.toNat))
theorem fromUp_succ (p : Pos) (a : Int) (n : Nat) : fromUp p a (n + 1) = fromUp p a n ++ if rGoesB p a (n : Int) = true then toOne a (p.kind a.toNat) (p.side a.toNat) (n : Int) else [] := by
  unfold fromUp
  rw [List.range_succ, List.map_append, List.filter_append, List.flatMap_append]
  congr 1
  simp only [List.map_cons, List.map_nil, List.filter_cons, List.filter_nil]
  split <;> simp
theorem fromUp_len (p : Pos) (a : Int) : ∀ n, (fromUp p a n).length ≤ n * 4
  | 0 => by simp [fromUp]
  | n + 1 => by
    have h := fromUp_len p a n
    have h2 := toOne_len a (p.kind a.toNat) (p.side a.toNat) (n : Int)
    rw [fromUp_succ, List.length_append]
    split
    · omega
    · simp; omega
def MSf9 (p : Pos) (w : World) (v : Value) (L : List Mv) (W : World) : Prop := blk W w.heap.size = some (.cells (posCells p) 30 (0, 0)) ∧ Ext w W ∧ W.ownsRow (w.heap.size + 1) 51 3 v L.length (mvsC L)
theorem MSf9.ext {p : Pos} {w : World} {v : Value} {L : List Mv} {W W' : World} (h : MSf9 p w v L W) (hx : Ext W W') : MSf9 p w v L W' := ⟨(hx.blk _ (blk_lt h.1)).trans h.1, h.2.1.trans hx, own_ext h.2.2 hx⟩
theorem MSf9.put {p : Pos} {w : World} {v v' : Value} {L L' : List Mv} {W W' : World} (h : MSf9 p w v L W) (ho : W'.ownsRow (w.heap.size + 1) 51 3 v' L'.length (mvsC L')) (hx : W.grownBy W' v.ownBlock) : MSf9 p w v' L' W' :=
  have hr : ∀ x, v.ownBlock = some x → w.heap.size + 1 ≤ x := fun x hx => (h.2.2.lt x hx).1
  ⟨(hx.block _ (blk_lt h.1) (fun e => by have := hr _ e.symm; omega)).trans h.1, Below.grown h.2.1 hx h.2.1.le (fun x hx' => by have := hr x hx'; omega), ho⟩
theorem blk_alloc2 (w : World) (a o : Obj) : blk ((w.alloc a).alloc o) (w.heap.size + 1) = some o := blk_alloc_at _ _ _ (by simp)
set_option maxRecDepth 100000 in
set_option maxHeartbeats 8000000 in
theorem rFrom_any (p : Pos) (a : Int) (w : World) (a0 : 0 ≤ a) (a1 : a < 64) : Calls Tryz.prog 113 #[.agg (posCells p), .int .i64 a] w (RetMvs (rFromL p a) w) := by
  have a2 : a.toNat < 64 := by omega
  have HE := hid (show rFromL p a = fromUp p a 64 from rfl)
  go_enter Tryz.func113, Tryz.ntmps113
  go_wp2
  go_loopw [5, 6] (fun u i wr => ∃ k : Nat, i = .int .i64 k ∧ k ≤ 64 ∧ MSf9 p w u (fromUp p a k) wr) (fun _ i _ => 64 - (intOf i).toNat)
  case atStart => exact ⟨0, rfl, by omega, by simp [go_sem], (Ext.auto), World.ownsRow_nil _ _ _ _⟩
  case round =>
    obtain ⟨k, rfl, hk, hM⟩ := hrel
    have hmb := hM.1
    have hlb := blk_lt hM.1
    have c0 := cell_of_row wr w.heap.size (a.toNat * 2) _ _ _ hM.1
    have c1 := cell_of_row wr w.heap.size (a.toNat * 2 + 1) _ _ _ hM.1
    have hlen := fromUp_len p a k
    have HM := hid hM
    by_cases hlt : k < 64
    · have HS := hid (fromUp_succ p a k)
      have hq : ((k : Int)).tdiv 8 = (k : Int) / 8 := Int.tdiv_eq_ediv_of_nonneg (by omega)
      have HG : ∀ w, Calls Tryz.prog 163 #[.agg (posCells p), .int .i64 a, .int .i64 k] w (Ret (.bool (rGoesB p a k)) w) := fun w => rGoes_any p a k w a0 a1 (by omega) (by omega)
      clear hM
      cases hg : rGoesB p a (k : Int)
      · have HO := hid (show fromUp p a (k + 1) = fromUp p a k by rw [HS.out, hg]; simp)
        rw [hg] at HG
        clear hg
        go_wp2_with (first | (go_at_call 163; (with_reducible refine (HG _).mono ?_); rintro e w1 ⟨rfl, hx⟩; obtain ⟨hxc, hxf, hxb, hxs⟩ := hx.all; (try simp only [World.size_alloc, size_set, size_drew] at hxc hxf hxb hxs); (first | (have h4 := lt4 w.heap.size w1.heap.size (by omega)); (obtain ⟨_, _, _, _⟩ := h4) | (have h4 := lt3 w.heap.size w1.heap.size (by omega)); (obtain ⟨_, _, _⟩ := h4) | (have h4 := lt2 w.heap.size w1.heap.size (by omega)); (obtain ⟨_, _⟩ := h4) | have := lt1 w.heap.size w1.heap.size (by omega) | skip); (first | (have h4 := lt4 wr.heap.size w1.heap.size (by omega)); (obtain ⟨_, _, _, _⟩ := h4) | (have h4 := lt3 wr.heap.size w1.heap.size (by omega)); (obtain ⟨_, _, _⟩ := h4) | (have h4 := lt2 wr.heap.size w1.heap.size (by omega)); (obtain ⟨_, _⟩ := h4) | have := lt1 wr.heap.size w1.heap.size (by omega) | skip)))
        go_roundw
        case rel => exact ⟨k + 1, by go_num, by omega, by rw [HO.out]; exact HM.out.ext hx⟩
        case measure => simp [intOf]; omega
      · have hmv := (goes_mover hg).1
        have hsd : p.side a.toNat = 0 ∨ p.side a.toNat = 1 := by simp [mayB] at hmv; exact hmv.2.2
        have HO := hid (show fromUp p a (k + 1) = fromUp p a k ++ toOne a (p.kind a.toNat) (p.side a.toNat) (k : Int) by rw [HS.out, hg]; simp)
        have hrk : rankOf (k : Int) = (k : Int) / 8 := if_pos ⟨by omega, by omega⟩
        rw [hg] at HG
        clear hg hmv
        by_cases hp : p.kind a.toNat = 1 ∧ (k : Int) / 8 = 7 * (1 - p.side a.toNat)
        · have HO2 := hid (show toOne a (p.kind a.toNat) (p.side a.toNat) (k : Int) = promos a k by unfold toOne; rw [hrk, if_pos hp])
          have hd : (p.side a.toNat = 0 ∧ ((k : Int) / 8 == 7) = true) ∨ (p.side a.toNat = 1 ∧ ((k : Int) / 8 == 0) = true) := by
            rcases hsd with e | e
            · exact .inl ⟨e, by simp; rw [e] at hp; omega⟩
            · exact .inr ⟨e, by simp; rw [e] at hp; omega⟩
          have g1 := hp.1
          clear hp hsd hrk
          rcases hd with ⟨e, g2⟩ | ⟨e, g2⟩
          all_goals
            go_upto_region 8 with (first | (go_at_call 163; (with_reducible refine (HG _).mono ?_); rintro e w1 ⟨rfl, hx⟩; obtain ⟨hxc, hxf, hxb, hxs⟩ := hx.all; (try simp only [World.size_alloc, size_set, size_drew] at hxc hxf hxb hxs); (first | (have h4 := lt4 w.heap.size w1.heap.size (by omega)); (obtain ⟨_, _, _, _⟩ := h4) | (have h4 := lt3 w.heap.size w1.heap.size (by omega)); (obtain ⟨_, _, _⟩ := h4) | (have h4 := lt2 w.heap.size w1.heap.size (by omega)); (obtain ⟨_, _⟩ := h4) | have := lt1 w.heap.size w1.heap.size (by omega) | skip); (first | (have h4 := lt4 wr.heap.size w1.heap.size (by omega)); (obtain ⟨_, _, _, _⟩ := h4) | (have h4 := lt3 wr.heap.size w1.heap.size (by omega)); (obtain ⟨_, _, _⟩ := h4) | (have h4 := lt2 wr.heap.size w1.heap.size (by omega)); (obtain ⟨_, _⟩ := h4) | have := lt1 wr.heap.size w1.heap.size (by omega) | skip)))
            have hM1 := HM.out.ext (Ext.alloc hx (.cells #[.int .i64 (p.kind a.toNat), .int .i64 (p.side a.toNat)] 26 (0, 0)))
            rw [g1, e] at hM1
            clear hx hxc hxf hxb hxs hlb c0 c1 HM hmb
            generalize hpre : fromUp p a k = pre at *
            have HPre := hid hpre
            clear hpre
            generalize hwo : w1.alloc _ = wo at *
            clear hwo
            go_wp2
            go_loopw [5, 8] (fun u i wq => ∃ κ : Nat, i = .int .i64 κ ∧ 2 ≤ κ ∧ κ ≤ 6 ∧ MSf9 p w u (pre ++ (promos a k).take (κ - 2)) wq) (fun _ i _ => 6 - (intOf i).toNat)
            case atStart => exact ⟨2, rfl, by omega, by omega, by simpa using hM1⟩
            case round =>
              obtain ⟨κ, rfl, hκ0, hκ, hM2⟩ := hrel
              have hlb2 := blk_lt hM2.1
              have hpl : (pre ++ (promos a k).take (κ - 2)).length ≤ 5000 := by
                rw [List.length_append, List.length_take]; omega
              have HM2 := hid hM2
              clear hM2 hM1
              by_cases hk5 : κ ≤ 5
              · have hP := hid (show pre ++ (promos a k).take (κ + 1 - 2) = (pre ++ (promos a k).take (κ - 2)) ++ [⟨a, k, κ⟩] by
                  rcases (by omega : κ = 2 ∨ κ = 3 ∨ κ = 4 ∨ κ = 5) with rfl | rfl | rfl | rfl <;> simp [promos])
                go_wp2_with (at_builtin; refine wpList_append_mv rfl _ _ rfl (w.heap.size + 1) _ (pre ++ (promos a k).take (κ - 2)) rfl (own_ext HM2.out.2.2 (Ext.alloc (Ext.refl _) _)) _ ⟨a, k, κ⟩ rfl (blk_alloc_at _ _ _ rfl) (by omega) (by simp; omega) (fun v' w2 hown2 hg2 hf2 => ?_))
                go_roundw
                case rel => exact ⟨κ + 1, by go_num, by omega, by omega, by rw [hP.out]; exact (HM2.out.ext (Ext.alloc (Ext.refl _) _)).put hown2 hg2⟩
                case measure => simp [intOf]; omega
              · obtain rfl : κ = 6 := by omega
                have hP := hid (show fromUp p a (k + 1) = pre ++ (promos a k).take (6 - 2) by rw [HO.out, HO2.out]; rfl)
                go_wp2
                go_roundw
                case rel => exact ⟨k + 1, by go_num, by omega, by rw [hP.out]; exact HM2.out⟩
                case measure => simp [intOf]; omega
        · have HO2 := hid (show toOne a (p.kind a.toNat) (p.side a.toNat) (k : Int) = [⟨a, k, 0⟩] by unfold toOne; rw [hrk, if_neg hp])
          have hd : ((p.kind a.toNat == 1) = false) ∨ (p.kind a.toNat = 1 ∧ p.side a.toNat = 0 ∧ ((k : Int) / 8 == 7) = false) ∨ (p.kind a.toNat = 1 ∧ p.side a.toNat = 1 ∧ ((k : Int) / 8 == 0) = false) := by
            by_cases h : p.kind a.toNat = 1
            · rcases hsd with e | e
              · exact .inr (.inl ⟨h, e, by simp; intro h'; exact hp ⟨h, by rw [e]; omega⟩⟩)
              · exact .inr (.inr ⟨h, e, by simp; intro h'; exact hp ⟨h, by rw [e]; omega⟩⟩)
            · exact .inl (by simpa using h)
          clear hp hsd hrk
          rcases hd with g1 | ⟨g1, g2, g3⟩ | ⟨g1, g2, g3⟩
          all_goals
            go_wp2_with (first | (go_at_call 163; (with_reducible refine (HG _).mono ?_); rintro e w1 ⟨rfl, hx⟩; obtain ⟨hxc, hxf, hxb, hxs⟩ := hx.all; (try simp only [World.size_alloc, size_set, size_drew] at hxc hxf hxb hxs); (first | (have h4 := lt4 w.heap.size w1.heap.size (by omega)); (obtain ⟨_, _, _, _⟩ := h4) | (have h4 := lt3 w.heap.size w1.heap.size (by omega)); (obtain ⟨_, _, _⟩ := h4) | (have h4 := lt2 w.heap.size w1.heap.size (by omega)); (obtain ⟨_, _⟩ := h4) | have := lt1 w.heap.size w1.heap.size (by omega) | skip); (first | (have h4 := lt4 wr.heap.size w1.heap.size (by omega)); (obtain ⟨_, _, _, _⟩ := h4) | (have h4 := lt3 wr.heap.size w1.heap.size (by omega)); (obtain ⟨_, _, _⟩ := h4) | (have h4 := lt2 wr.heap.size w1.heap.size (by omega)); (obtain ⟨_, _⟩ := h4) | have := lt1 wr.heap.size w1.heap.size (by omega) | skip)) | (at_builtin; refine wpList_append_mv rfl _ _ rfl (w.heap.size + 1) u5 (fromUp p a k) rfl (own_ext HM.out.2.2 (Ext.trans (Ext.alloc hx _) (Ext.alloc (Ext.refl _) _))) (w1.heap.size + 1) ⟨a, k, 0⟩ rfl (blk_alloc2 _ _ _) (by omega) (by simp; omega) (fun v' w2 hown2 hg2 hf2 => ?_)))
            go_roundw
            case rel => exact ⟨k + 1, by go_num, by omega, by rw [HO.out, HO2.out]; exact (HM.out.ext (Ext.trans (Ext.alloc hx _) (Ext.alloc (Ext.refl _) _))).put hown2 hg2⟩
            case measure => simp [intOf]; omega
    · obtain rfl : k = 64 := by omega
      clear hM hmb
      go_wp2
      go_ret
      exact RetMvs.mk' HM.out.2.2 (by rw [HE.out]) (by rw [HE.out]) (by omega) HM.out.2.1
end Go.Proofs.YtdmgimfgoajmjaaGreatDoor
namespace Go.Proofs.YtdmgimfgoajmjaaGreatDoor
open Go.RowKit
def allUp (p : Pos) (n : Nat) : List Mv := (List.range n).flatMap fun (a : Nat) => rFromL p (a : Int)
theorem allUp_succ (p : Pos) (n : Nat) : allUp p (n + 1) = allUp p n ++ rFromL p (n : Int) := by simp [allUp, List.range_succ]
theorem rFrom_len (p : Pos) (a : Int) : (rFromL p a).length ≤ 256 := fromUp_len p a 64
theorem allUp_len (p : Pos) : ∀ n, (allUp p n).length ≤ n * 256
  | 0 => by simp [allUp]
  | n + 1 => by
    have h := allUp_len p n
    have h2 := rFrom_len p (n : Int)
    rw [allUp_succ, List.length_append]; omega
set_option maxRecDepth 100000 in
set_option maxHeartbeats 8000000 in
theorem rAll_any (p : Pos) (w : World) : Calls Tryz.prog 74 #[.agg (posCells p)] w (RetMvs (AllL p) w) := by
  have HE := hid (show AllL p = allUp p 64 from All_eq p)
  go_enter Tryz.func74, Tryz.ntmps74
  go_wp2
  go_loopw [3, 4] (fun u i wr => ∃ k : Nat, i = .int .i64 k ∧ k ≤ 64 ∧ MSf9 p w u (allUp p k) wr) (fun _ i _ => 64 - (intOf i).toNat)
  case atStart => exact ⟨0, rfl, by omega, by simp [go_sem], (Ext.auto), World.ownsRow_nil _ _ _ _⟩
  case round =>
    obtain ⟨k, rfl, hk, hM⟩ := hrel
    have hmb := hM.1
    have hlb := blk_lt hM.1
    have hlen := allUp_len p k
    have HM := hid hM
    by_cases hlt : k < 64
    · have HS := hid (allUp_succ p k)
      have hl2 := rFrom_len p (k : Int)
      have hrow := hM.2.2
      generalize hA : allUp p k = A at *
      generalize hB : rFromL p (k : Int) = B at *
      have HB := hid hB
      obtain ⟨av, cv, rfl⟩ := (Sl.of_own hrow).form
      clear hM hA hB
      have HF : ∀ w, Calls Tryz.prog 113 #[.agg (posCells p), .int .i64 k] w (RetMvs B w) := fun w => by rw [← HB.out]; exact rFrom_any p k w (by omega) (by omega)
      have hAB : A.length + B.length ≤ 1000000 := by omega
      go_wp2_with (first | (go_at_call 113; (with_reducible refine (HF _).mono ?_); rintro e w1 ⟨v1, rfl, hown1, hx⟩; (have hown1' := hown1); obtain ⟨a1', c1', rfl⟩ := (Sl.of_own hown1).form; (have hxs := Ext.le hx)) | (at_builtin; refine wpList_append_sl Tryz.underlying45 info_mv rfl (by decide) (by decide) rfl _ _ rfl (w.heap.size + 1) _ A.length (mvsC A) rfl (own_ext hrow hx) _ B.length (mvsC B) rfl (Sl.of_own hown1') (mvs_one _) hAB (Nat.le_trans (Nat.succ_le_of_lt hlb) hxs) (fun v' w2 hown2 hg2 hf2 => ?_)))
      go_roundw
      case rel => exact ⟨k + 1, by go_num, by omega, by rw [HS.out]; exact (HM.out.ext hx).put (by rw [List.length_append, mvsC_append]; exact hown2) hg2⟩
      case measure => simp [intOf]; omega
    · obtain rfl : k = 64 := by omega
      clear hM hmb
      go_wp2
      go_ret
      exact RetMvs.mk' HM.out.2.2 (by rw [HE.out]) (by rw [HE.out]) (by omega) HM.out.2.1
end Go.Proofs.YtdmgimfgoajmjaaGreatDoor
namespace Go.Proofs.YtdmgimfgoajmjaaGreatDoor
open Go.RowKit
set_option maxRecDepth 100000 in
set_option maxHeartbeats 4000000 in
theorem rRight_any (p : Pos) (w : World) : Calls Tryz.prog 110 #[.agg (posCells p)] w (Ret (.bool (rightB p)) w) := by
  have HPc : ∀ w, Calls Tryz.prog 159 #[.agg (posCells p)] w (Ret (.bool (piecesB p)) w) := fun w => rPieces_any p w
  have HCs : ∀ w, Calls Tryz.prog 160 #[.agg (posCells p)] w (Ret (.bool (castlesB p)) w) := fun w => rCastles_any p w
  have HE := hid (show rightB p = (piecesB p && castlesB p && overB p && decide (0 ≤ p.half ∧ p.half ≤ 1024 ∧ 1 ≤ p.full ∧ p.full ≤ 16384)) from rfl)
  cases h1 : piecesB p
  · rw [h1] at HPc HE
    go_enter Tryz.func110, Tryz.ntmps110
    go_wp2_with (first | (go_at_call 159; (with_reducible refine (HPc _).mono ?_); rintro e w1 ⟨rfl, hx⟩; obtain ⟨hxc, hxf, hxb, hxs⟩ := hx.all; (try simp only [World.size_alloc, size_set, size_drew] at hxc hxf hxb hxs); (first | (have h4 := lt4 w.heap.size w1.heap.size (by omega)); (obtain ⟨_, _, _, _⟩ := h4) | (have h4 := lt3 w.heap.size w1.heap.size (by omega)); (obtain ⟨_, _, _⟩ := h4) | (have h4 := lt2 w.heap.size w1.heap.size (by omega)); (obtain ⟨_, _⟩ := h4) | have := lt1 w.heap.size w1.heap.size (by omega) | skip)))
    all_goals (go_ret; exact Ret.mk' (vbool (by rw [HE.out]; simp)) (Ext.auto))
  · have ht := (pieces_iff.1 h1).2.2.2
    have HOv : ∀ w, Calls Tryz.prog 161 #[.agg (posCells p)] w (Ret (.bool (overB p)) w) := fun w => rOver_any p w ht
    clear ht
    rw [h1] at HPc HE
    cases h2 : castlesB p
    · rw [h2] at HCs HE
      go_enter Tryz.func110, Tryz.ntmps110
      go_wp2_with (first | (go_at_call 159; (with_reducible refine (HPc _).mono ?_); rintro e w1 ⟨rfl, hx⟩; obtain ⟨hxc, hxf, hxb, hxs⟩ := hx.all; (try simp only [World.size_alloc, size_set, size_drew] at hxc hxf hxb hxs); (first | (have h4 := lt4 w.heap.size w1.heap.size (by omega)); (obtain ⟨_, _, _, _⟩ := h4) | (have h4 := lt3 w.heap.size w1.heap.size (by omega)); (obtain ⟨_, _, _⟩ := h4) | (have h4 := lt2 w.heap.size w1.heap.size (by omega)); (obtain ⟨_, _⟩ := h4) | have := lt1 w.heap.size w1.heap.size (by omega) | skip)) | (go_at_call 160; (with_reducible refine (HCs _).mono ?_); rintro e w1 ⟨rfl, hx⟩; obtain ⟨hxc, hxf, hxb, hxs⟩ := hx.all; (try simp only [World.size_alloc, size_set, size_drew] at hxc hxf hxb hxs); (first | (have h4 := lt4 w.heap.size w1.heap.size (by omega)); (obtain ⟨_, _, _, _⟩ := h4) | (have h4 := lt3 w.heap.size w1.heap.size (by omega)); (obtain ⟨_, _, _⟩ := h4) | (have h4 := lt2 w.heap.size w1.heap.size (by omega)); (obtain ⟨_, _⟩ := h4) | have := lt1 w.heap.size w1.heap.size (by omega) | skip)))
      all_goals (go_ret; exact Ret.mk' (vbool (by rw [HE.out]; simp)) (Ext.auto))
    · rw [h2] at HCs HE
      cases h3 : overB p
      · rw [h3] at HOv HE
        go_enter Tryz.func110, Tryz.ntmps110
        go_wp2_with (first | (go_at_call 159; (with_reducible refine (HPc _).mono ?_); rintro e w1 ⟨rfl, hx⟩; obtain ⟨hxc, hxf, hxb, hxs⟩ := hx.all; (try simp only [World.size_alloc, size_set, size_drew] at hxc hxf hxb hxs); (first | (have h4 := lt4 w.heap.size w1.heap.size (by omega)); (obtain ⟨_, _, _, _⟩ := h4) | (have h4 := lt3 w.heap.size w1.heap.size (by omega)); (obtain ⟨_, _, _⟩ := h4) | (have h4 := lt2 w.heap.size w1.heap.size (by omega)); (obtain ⟨_, _⟩ := h4) | have := lt1 w.heap.size w1.heap.size (by omega) | skip)) | (go_at_call 160; (with_reducible refine (HCs _).mono ?_); rintro e w1 ⟨rfl, hx⟩; obtain ⟨hxc, hxf, hxb, hxs⟩ := hx.all; (try simp only [World.size_alloc, size_set, size_drew] at hxc hxf hxb hxs); (first | (have h4 := lt4 w.heap.size w1.heap.size (by omega)); (obtain ⟨_, _, _, _⟩ := h4) | (have h4 := lt3 w.heap.size w1.heap.size (by omega)); (obtain ⟨_, _, _⟩ := h4) | (have h4 := lt2 w.heap.size w1.heap.size (by omega)); (obtain ⟨_, _⟩ := h4) | have := lt1 w.heap.size w1.heap.size (by omega) | skip)) | (go_at_call 161; (with_reducible refine (HOv _).mono ?_); rintro e w1 ⟨rfl, hx⟩; obtain ⟨hxc, hxf, hxb, hxs⟩ := hx.all; (try simp only [World.size_alloc, size_set, size_drew] at hxc hxf hxb hxs); (first | (have h4 := lt4 w.heap.size w1.heap.size (by omega)); (obtain ⟨_, _, _, _⟩ := h4) | (have h4 := lt3 w.heap.size w1.heap.size (by omega)); (obtain ⟨_, _, _⟩ := h4) | (have h4 := lt2 w.heap.size w1.heap.size (by omega)); (obtain ⟨_, _⟩ := h4) | have := lt1 w.heap.size w1.heap.size (by omega) | skip)))
        all_goals (go_ret; exact Ret.mk' (vbool (by rw [HE.out]; simp)) (Ext.auto))
      · rw [h3] at HOv HE
        go_enter Tryz.func110, Tryz.ntmps110
        go_wp2_with (first | (go_at_call 159; (with_reducible refine (HPc _).mono ?_); rintro e w1 ⟨rfl, hx⟩; obtain ⟨hxc, hxf, hxb, hxs⟩ := hx.all; (try simp only [World.size_alloc, size_set, size_drew] at hxc hxf hxb hxs); (first | (have h4 := lt4 w.heap.size w1.heap.size (by omega)); (obtain ⟨_, _, _, _⟩ := h4) | (have h4 := lt3 w.heap.size w1.heap.size (by omega)); (obtain ⟨_, _, _⟩ := h4) | (have h4 := lt2 w.heap.size w1.heap.size (by omega)); (obtain ⟨_, _⟩ := h4) | have := lt1 w.heap.size w1.heap.size (by omega) | skip)) | (go_at_call 160; (with_reducible refine (HCs _).mono ?_); rintro e w1 ⟨rfl, hx⟩; obtain ⟨hxc, hxf, hxb, hxs⟩ := hx.all; (try simp only [World.size_alloc, size_set, size_drew] at hxc hxf hxb hxs); (first | (have h4 := lt4 w.heap.size w1.heap.size (by omega)); (obtain ⟨_, _, _, _⟩ := h4) | (have h4 := lt3 w.heap.size w1.heap.size (by omega)); (obtain ⟨_, _, _⟩ := h4) | (have h4 := lt2 w.heap.size w1.heap.size (by omega)); (obtain ⟨_, _⟩ := h4) | have := lt1 w.heap.size w1.heap.size (by omega) | skip)) | (go_at_call 161; (with_reducible refine (HOv _).mono ?_); rintro e w1 ⟨rfl, hx⟩; obtain ⟨hxc, hxf, hxb, hxs⟩ := hx.all; (try simp only [World.size_alloc, size_set, size_drew] at hxc hxf hxb hxs); (first | (have h4 := lt4 w.heap.size w1.heap.size (by omega)); (obtain ⟨_, _, _, _⟩ := h4) | (have h4 := lt3 w.heap.size w1.heap.size (by omega)); (obtain ⟨_, _, _⟩ := h4) | (have h4 := lt2 w.heap.size w1.heap.size (by omega)); (obtain ⟨_, _⟩ := h4) | have := lt1 w.heap.size w1.heap.size (by omega) | skip)))
        all_goals (go_ret; exact Ret.mk' (vbool (by rw [HE.out]; rw [Bool.eq_iff_iff]; simp [*]; try omega)) (Ext.auto))
theorem rPosition_any (p : Pos) (w : World) : Calls Tryz.prog 73 #[.agg (posCells p)] w (Ret (.bool (positionB p)) w) := by
  have HR : ∀ w, Calls Tryz.prog 110 #[.agg (posCells p)] w (Ret (.bool (rightB p)) w) := fun w => rRight_any p w
  have HC : ∀ s w, Calls Tryz.prog 111 #[.agg (posCells p), .int .i64 s] w (Ret (.bool (checkB p s)) w) := fun s w => rCheck_any p s w
  have HO : ∀ s w, Calls Tryz.prog 112 #[.int .i64 s] w (Ret (.int .i64 (otherOf s)) w) := fun s w => rOther_any s w
  cases h1 : rightB p
  · have HE := hid (show positionB p = false by unfold positionB; rw [h1]; rfl)
    rw [h1] at HR
    go_enter Tryz.func73, Tryz.ntmps73
    go_wp2
    refine wp_quiet (by kernel_rfl) (by kernel_rfl) ?_; (repeat (first | go_big_quiet_step ((first | (go_at_call 110; with_reducible exact Calls.reg (HR _)) | (go_at_call 112; with_reducible exact Calls.reg (HO _ _)) | (go_at_call 111; with_reducible exact Calls.reg (HC _ _)))) | quiet_step ((first | (go_at_call 110; with_reducible exact Calls.reg (HR _)) | (go_at_call 112; with_reducible exact Calls.reg (HO _ _)) | (go_at_call 111; with_reducible exact Calls.reg (HC _ _)))))); refine wpQuiet_nil ?_; intro w1 hx; obtain ⟨hxc, hxf, hxb, hxs⟩ := hx.all; (try simp only [World.size_alloc, size_set, size_drew] at hxc hxf hxb hxs); (first | (have h4 := lt4 w.heap.size w1.heap.size (by omega)); (obtain ⟨_, _, _, _⟩ := h4) | (have h4 := lt3 w.heap.size w1.heap.size (by omega)); (obtain ⟨_, _, _⟩ := h4) | (have h4 := lt2 w.heap.size w1.heap.size (by omega)); (obtain ⟨_, _⟩ := h4) | have := lt1 w.heap.size w1.heap.size (by omega) | skip)
    go_wp2
    go_ret
    exact Ret.mk' (vbool HE.out.symm) (Ext.auto)
  · have HE := hid (show positionB p = !checkB p (otherOf p.turn) by unfold positionB; rw [h1]; rfl)
    rw [h1] at HR
    go_enter Tryz.func73, Tryz.ntmps73
    go_wp2
    refine wp_quiet (by kernel_rfl) (by kernel_rfl) ?_; (repeat (first | go_big_quiet_step ((first | (go_at_call 110; with_reducible exact Calls.reg (HR _)) | (go_at_call 112; with_reducible exact Calls.reg (HO _ _)) | (go_at_call 111; with_reducible exact Calls.reg (HC _ _)))) | quiet_step ((first | (go_at_call 110; with_reducible exact Calls.reg (HR _)) | (go_at_call 112; with_reducible exact Calls.reg (HO _ _)) | (go_at_call 111; with_reducible exact Calls.reg (HC _ _)))))); refine wpQuiet_nil ?_; intro w1 hx; obtain ⟨hxc, hxf, hxb, hxs⟩ := hx.all; (try simp only [World.size_alloc, size_set, size_drew] at hxc hxf hxb hxs); (first | (have h4 := lt4 w.heap.size w1.heap.size (by omega)); (obtain ⟨_, _, _, _⟩ := h4) | (have h4 := lt3 w.heap.size w1.heap.size (by omega)); (obtain ⟨_, _, _⟩ := h4) | (have h4 := lt2 w.heap.size w1.heap.size (by omega)); (obtain ⟨_, _⟩ := h4) | have := lt1 w.heap.size w1.heap.size (by omega) | skip)
    go_wp2
    go_ret
    exact Ret.mk' (vbool HE.out.symm) (Ext.auto)
end Go.Proofs.YtdmgimfgoajmjaaGreatDoor
