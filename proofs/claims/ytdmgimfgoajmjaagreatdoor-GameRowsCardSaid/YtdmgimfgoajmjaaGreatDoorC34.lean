/- A map of counts that tells of a list of positions. -/
import Derived.Test.YtdmgimfgoajmjaaGreatDoorC31
import Derived.Test.YtdmgimfgoajmjaaGreatDoorC30
import Derived.Maps.RangeWalk
set_option linter.unusedVariables false
set_option linter.unusedSimpArgs false
set_option maxRecDepth 100000
set_option maxHeartbeats 2000000
namespace Go.Proofs.YtdmgimfgoajmjaaGreatDoor
open Go.RowKit Go.Maps
structure Good (D : DataW Unit) (Ps : List Pos) : Prop where
 map : IsMap D
 at_ : ∀ p, D.atKey (.string (keyT p)) (.lit (.int .i64 0)) = .lit (.int .i64 (manyB Ps p))
 keys : ∀ kl, has D kl = true → ∃ p ∈ Ps, kl = .string (keyT p)
theorem same_key {p q : Pos} : sameB p q = true ↔ keyT p = keyT q := by unfold sameB; rw [decide_eq_true_eq, keyT_inj]
theorem many_same {Ps : List Pos} {p q : Pos} (h : keyT p = keyT q) : manyB Ps p = manyB Ps q := by
 unfold manyB
 congr 1
 funext x
 rw [Bool.eq_iff_iff, same_key, same_key, h]
theorem many_add (Ps : List Pos) (p q : Pos) : manyB (Ps ++ [p]) q = manyB Ps q + (if keyT p = keyT q then 1 else 0) := by
 unfold manyB
 rw [List.countP_append, List.countP_singleton]
 congr 1
 by_cases h : keyT p = keyT q
 ·rw [if_pos h, if_pos (same_key.2 h)]
 ·rw [if_neg h, if_neg (fun e => h (same_key.1 e))]
theorem Good.put {D : DataW Unit} {Ps : List Pos} (h : Good D Ps) (p : Pos) : Good (D.put (.string (keyT p)) (.lit (.int .i64 ((manyB Ps p : Int) + 1)))) (Ps ++ [p]) := by
 refine ⟨h.map.put _ _, fun q => ?_, fun kl hk => ?_⟩
 ·rw [many_add]
  by_cases e : keyT p = keyT q
  ·rw [← e, atKey_put_same h.map (by trivial), if_pos rfl, many_same e.symm]; rfl
  ·rw [atKey_put_other (by intro he; injection he with he; exact e he.symm), h.at_ q, if_neg e]; rfl
 ·by_cases e : kl = .string (keyT p)
  ·exact ⟨p, by simp, e⟩
  ·rw [has_put_other e] at hk
   obtain ⟨q, hq, e2⟩ := h.keys kl hk
   exact ⟨q, by simp [hq], e2⟩
theorem Good.start : Good (.map [] : DataW Unit) [] := ⟨isMap_empty, fun _ => rfl, fun _ h => by cases h⟩
theorem many_self {Ps : List Pos} {p : Pos} (h : p ∈ Ps) : 0 < manyB Ps p := by
 unfold manyB
 rw [List.countP_pos_iff]
 exact ⟨p, h, same_key.2 rfl⟩
theorem foldl_max (f : Pos → Nat) : ∀ (l : List Pos) (n : Nat), n ≤ l.foldl (fun n x => max n (f x)) n ∧ ∀ x ∈ l, f x ≤ l.foldl (fun n x => max n (f x)) n := by
 intro l
 induction l with
 | nil => intro n; exact ⟨Nat.le_refl _, fun x hx => by cases hx⟩
 | cons y r ih =>
   intro n
   obtain ⟨h1, h2⟩ := ih (max n (f y))
   refine ⟨Nat.le_trans (Nat.le_max_left _ _) h1, fun x hx => ?_⟩
   rcases List.mem_cons.1 hx with rfl | hx
   ·exact Nat.le_trans (Nat.le_max_right _ _) h1
   ·exact h2 x hx
theorem foldl_max_le (f : Pos → Nat) (m : Nat) : ∀ (l : List Pos) (n : Nat), n ≤ m → (∀ x ∈ l, f x ≤ m) → l.foldl (fun n x => max n (f x)) n ≤ m := by
 intro l
 induction l with
 | nil => intro n h _; exact h
 | cons y r ih => intro n h hm; exact ih _ (Nat.max_le.2 ⟨h, hm y (by simp)⟩) (fun x hx => hm x (by simp [hx]))
theorem many_le_most {Ps : List Pos} {p : Pos} (h : p ∈ Ps) : manyB Ps p ≤ mostB Ps := by
 unfold mostB mostUp
 rw [List.take_length]
 exact (foldl_max (manyB Ps) Ps 0).2 p h
theorem most_le_of {Ps : List Pos} {m : Nat} (h : ∀ p ∈ Ps, manyB Ps p ≤ m) : mostB Ps ≤ m := by
 unfold mostB mostUp
 rw [List.take_length]
 exact foldl_max_le (manyB Ps) m Ps 0 (Nat.zero_le _) h
theorem Good.val {D : DataW Unit} {Ps : List Pos} (h : Good D Ps) {kl : Lit} {c : Int} (hk : has D kl = true) (hc : ∀ z, D.atKey kl z = .lit (.int .i64 c)) : ∃ p ∈ Ps, kl = .string (keyT p) ∧ c = manyB Ps p := by
 obtain ⟨p, hp, rfl⟩ := h.keys kl hk
 refine ⟨p, hp, rfl, ?_⟩
 have := (hc _).symm.trans (h.at_ p)
 injection this with this
 injection this
theorem Good.has {D : DataW Unit} {Ps : List Pos} (h : Good D Ps) {p : Pos} (hp : p ∈ Ps) : Maps.has D (.string (keyT p)) = true := by
 cases hh : Maps.has D (.string (keyT p))
 ·have h1 := h.at_ p
  rw [atKey_of_not_has hh] at h1
  injection h1 with h1
  injection h1 with _ h1
  have := many_self hp
  omega
 ·rfl
theorem New_any (v : Value) (Ps : List Pos) (w : World) (hS : SlP w v Ps) (hn : Ps.length ≤ 1000) (hr : ∀ p ∈ Ps, Rng p) (ht : Tab10 w.heap.size w) :
 Calls Tryz.prog 13 #[v] w (fun e w' => ∃ b m D, e = .returned (.pointer (some ⟨b, 0, none⟩)) ∧ w.heap.size ≤ b ∧ w.heap.size ≤ m ∧ b ≠ m ∧ blk w' b = some (.cells #[.map (some m)] 101 (0, 0)) ∧ Cnt w' m Ps.length D ∧ Good D Ps ∧ Ext w w') := by
 obtain ⟨a, cap, rfl⟩ := hS.form
 have hmm := @run_makeMap Tryz.prog
 go_enter Tryz.func13, Tryz.ntmps13
 go_upto_block 0 with (fail)
 have hE1 : Ext w ((w.alloc (.map #[] 0)).alloc (.cells #[.map (some w.heap.size)] 101)) := (Ext.alloc (Ext.refl _) _).alloc _
 have hb1 : blk ((w.alloc (.map #[] 0)).alloc (.cells #[.map (some w.heap.size)] 101)) (w.heap.size + 1) = some (.cells #[.map (some w.heap.size)] 101 (0, 0)) := blk_alloc_at _ _ _ (by simp)
 have hm1 : Cnt ((w.alloc (.map #[] 0)).alloc (.cells #[.map (some w.heap.size)] 101)) w.heap.size 0 (.map []) := Cnt.ext (World.ownsMap_made _ _ _ _) (Ext.alloc (Ext.refl _) _)
 generalize hw1 : (w.alloc (.map #[] 0)).alloc (.cells #[.map (some w.heap.size)] 101) = w1 at *
 clear hw1
 go_wp2
 go_loopw [12] (fun i wr => ∃ (k : Nat) (D : DataW Unit), i = .int .i64 k ∧ k ≤ Ps.length ∧ blk wr (w.heap.size + 1) = some (.cells #[.map (some w.heap.size)] 101 (0, 0)) ∧ Cnt wr w.heap.size k D ∧ Good D (Ps.take k) ∧ Ext w wr) (fun i _ => Ps.length - (intOf i).toNat)
 case atStart => exact ⟨0, _, rfl, by omega, hb1, hm1, Good.start, hE1⟩
 case round =>
  obtain ⟨k, D, rfl, hk, hbr, hmr, hgd, hxr⟩ := hrel
  by_cases hlt : k < Ps.length
  ·obtain ⟨x, hx⟩ : ∃ x, Ps[k]? = some x := ⟨_, List.getElem?_eq_getElem hlt⟩
   rcases hS.ext hxr with ⟨-, h0⟩ | ⟨g, o, cap', cur, T, fr, hv, hg, hat⟩
   ·rw [h0] at hlt; simp at hlt
   injection hv with hv1 hv2 hv3
   subst hv1
   subst hv3
   obtain ⟨hk1, hk2⟩ := hat k x hx
   have hrx := hr x (List.mem_of_getElem? hx)
   have hml := many_le (Ps.take k) x
   rw [List.length_take] at hml
   have hPC := fun w' (h' : Ext wr w') => Put_any (w.heap.size + 1) w.heap.size k D x (manyB (Ps.take k) x) w' ((h'.blk _ (blk_lt hbr)).trans hbr) (hmr.ext h') (by omega) hrx (ht.up (hxr.trans h')) (hgd.at_ x) (by omega) (by omega)
   have hGP := hgd.put x
   have htk : Ps.take (k + 1) = Ps.take k ++ [x] := by rw [List.take_add_one, hx]; rfl
   rw [← htk] at hGP
   have hxA : Ext w (wr.alloc (.cells (posCells x) 30)) := Ext.alloc hxr _
   have hbA := ((Ext.alloc (Ext.refl wr) (.cells (posCells x) 30)).blk _ (blk_lt hbr)).trans hbr
   have HG := hid hGP
   have HXA := hid hxA
   have HB := hid hbA
   have hP1 := hPC _ (Ext.alloc (Ext.refl wr) (.cells (posCells x) 30))
   have HXS := hid hS
   clear hPC hGP hxA hbA hS hx hat hgd hmr hbr hm1 hb1
   generalize manyB (Ps.take k) x = M at *
   go_wp2_with (go_at_call 19; (with_reducible refine hP1.mono ?_); rintro e w9 ⟨rfl, hc9, hg9⟩)
   have hx9 : Ext w w9 := ⟨hg9.os.trans HXA.out.os, hg9.tape.trans HXA.out.tape, hg9.output.trans HXA.out.output, Nat.le_trans HXA.out.le hg9.size, fun j hj => (hg9.block j (Nat.lt_of_lt_of_le hj HXA.out.le) (by simp; omega)).trans (HXA.out.blk j hj)⟩
   have hb9 := (hg9.block (w.heap.size + 1) (blk_lt HB.out) (by simp)).trans HB.out
   go_roundw
   case rel => exact ⟨k + 1, _, by go_num, by omega, hb9, hc9, HG.out, hx9⟩
   case measure => simp [intOf]; omega
  ·obtain rfl : k = Ps.length := by omega
   rw [List.take_length] at hgd
   go_wp2
   go_ret
   exact ⟨_, _, D, rfl, by omega, by omega, by omega, hbr, hmr, hgd, hxr⟩
theorem grown_ext2 {a c d : World} (h : Ext a c) (g : c.grownBy d (some c.heap.size)) : Ext a d :=
 ⟨g.os.trans h.os, g.tape.trans h.tape, g.output.trans h.output, Nat.le_trans h.le g.size, fun k hk => (g.block k (Nat.lt_of_lt_of_le hk h.le) (by have := h.le; simp; omega)).trans (h.blk k hk)⟩
theorem Most_any (b m n : Nat) (D : DataW Unit) (Ps : List Pos) (w : World) (hb : blk w b = some (.cells #[.map (some m)] 101 (0, 0))) (hown : Cnt w m n D) (hg : Good D Ps) (hn : Ps.length ≤ 1000) :
 Calls Tryz.prog 21 #[.pointer (some ⟨b, 0, none⟩)] w (Ret (.int .i64 (mostB Ps)) w) := by
 have hlb := blk_lt hb
 have hTH := there_any b m _ hb
 go_enter Tryz.func21, Tryz.ntmps21
 go_wp2_with (first
  | (go_at_call 64; (with_reducible refine hTH.mono ?_); rintro e w1 ⟨rfl, hx1⟩; (have hb1 := (hx1.blk _ hlb).trans hb); (have hc1 := blk_cell hb1 0); (simp only [List.getElem?_toArray, List.getElem?_cons_zero] at hc1); (have hown1 := hown.ext hx1))
  | (at_range; refine wpList_range_own _ rfl _ 97 rfl 9 3 lawS Tryz.underlying97 _ m n D rfl hown1 ?_; intro w0 hrg0 hg0 hs0)
  | go_in)
 go_frame
 go_loopw [2] (fun c wr => ∃ (left : Lit → Bool) (cnt M : Nat), c = .int .i64 M ∧ wr.ranges Tryz.prog 9 (plainElem Tryz.prog 3) m w1.heap.size n D left cnt ∧ (∀ kl, left kl = true → has D kl = true) ∧ M ≤ mostB Ps ∧ (∀ p ∈ Ps, left (.string (keyT p)) = false → manyB Ps p ≤ M) ∧ w1.grownBy wr (some w1.heap.size)) (fun _ wr => wr.rangeLeft m w1.heap.size)
 case atStart =>
  exact ⟨_, _, 0, rfl, hrg0, fun _ h => h, Nat.zero_le _, fun p hp h => absurd (hg.has hp) (by rw [h]; simp), hg0.but _⟩
 case round =>
  obtain ⟨left, cnt, M, rfl, hrg, hsub, hM, hall, hgw⟩ := hrel
  have HS := hid hsub
  have HA := hid hall
  have HG := hid hg
  clear hsub hall hg
  go_wp2_with (first
   | (at_next; go_loud (refine wpList_next_ranges _ rfl _ rfl 9 lawS (plainElem Tryz.prog 3) Value.string (Value.int .i64) (fun key kl hkey => by obtain ⟨s, rfl, _⟩ := WideMaps.string_of_keyOf Tryz.underlying9 hkey; exact ⟨s, rfl⟩) (fun v y hv => by obtain ⟨c, rfl, _⟩ := plainElem_int_inv Tryz.underlying3 hv; exact ⟨c, rfl⟩) m w1.heap.size n _ _ _ rfl hrg ?_ ?_))
   | go_in)
  ·intro _ hl0
   have hE : M = mostB Ps := Nat.le_antisymm hM (most_le_of fun p hp => HA.out p hp (hl0 _))
   have hX : Ext w wr := grown_ext2 hx1 hgw
   clear hM hl0
   go_wp2
   go_ret
   exact Ret.mk' (show Value.int .i64 (M : Int) = _ by rw [hE]) hX
  ·intro x c kl d q w2 cnt2 hkey hlk hRv hat hrg2 hlt hg2 hs2 hen
   obtain ⟨c', hc', hd', -⟩ := plainElem_int_inv Tryz.underlying3 hRv
   injection hd' with hd' _
   subst hd'
   injection hc' with _ hc'
   subst hc'
   obtain ⟨p, hp, rfl, rfl⟩ := HG.out.val (HS.out _ hlk) hat
   have hle := many_le_most hp
   have hgw1 := hgw.andThen hg2 (fun j hj => by cases hj; exact Or.inl (Nat.le_refl _))
   have H2 := hid hat
   clear hat
   cases hMle : decide ((M : Int) < (manyB Ps p : Int))
   ·have hMle' : manyB Ps p ≤ M := by have := of_decide_eq_false hMle; omega
    go_wp2
    go_roundw
    case rel => exact ⟨_, cnt2, M, by go_num, hrg2, fun kl h => HS.out kl (by simp at h; exact h.1), hM, fun p' hp' h => (by
     by_cases e : keyT p' = keyT p
     ·rw [many_same e.symm] at hMle'; exact hMle'
     ·exact HA.out p' hp' (by rw [sameKey_ne (fun h => e (by injection h))] at h; simpa using h)), hgw1⟩
    case measure => rw [hrg2.left_eq, hrg.left_eq]; exact hlt
   ·have hMle' : M < manyB Ps p := by have := of_decide_eq_true hMle; omega
    go_wp2
    go_roundw
    case rel => exact ⟨_, cnt2, manyB Ps p, by go_num, hrg2, fun kl h => HS.out kl (by simp at h; exact h.1), hle, fun p' hp' h => (by
     by_cases e : keyT p' = keyT p
     ·rw [many_same e.symm]; exact Nat.le_refl _
     ·exact Nat.le_of_lt (Nat.lt_of_le_of_lt (HA.out p' hp' (by rw [sameKey_ne (fun h => e (by injection h))] at h; simpa using h)) hMle')), hgw1⟩
    case measure => rw [hrg2.left_eq, hrg.left_eq]; exact hlt
end Go.Proofs.YtdmgimfgoajmjaaGreatDoor
