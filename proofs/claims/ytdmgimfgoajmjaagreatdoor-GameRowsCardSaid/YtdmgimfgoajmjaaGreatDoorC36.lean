/- A law's arguments, opened: positions, slices of positions. -/
import Derived.Test.YtdmgimfgoajmjaaGreatDoorC30
import Derived.Test.YtdmgimfgoajmjaaGreatDoorC28
import Derived.OpenShut
import Derived.Deep.Slices
import Derived.Test.YtdmgimfgoajmjaaGreatDoorRows
import Derived.Test.YtdmgimfgoajmjaaGreatDoorCards
import Derived.Test.YtdmgimfgoajmjaaGreatDoorTie
import Derived.ProofKit
import Derived.LaidMore
import Derived.ChangeOld
import Derived.Below
import Derived.SizedLaws
import Derived.SevenTiedAt
import Derived.Stop.Joined
import Derived.Lib.LaidTab
import Derived.LaidSub
import Derived.Test.YtdmgimfgoajmjaaGreatDoorC07
set_option linter.unusedVariables false
set_option linter.unusedSimpArgs false
namespace Go.Proofs.YtdmgimfgoajmjaaGreatDoor
open Go.RowKit Go.Deep Go.ChangeShapes
section
variable {H : Type} {enc : TypeId × Value → H} {w : World} {base : Nat} {sp : Nat → Bool} {held : Bool}
theorem wf_inI {z : Int} (h : (Lit.int .i64 z).wf = true) : inI z := by
 simp [Lit.wf, IntKind.min, IntKind.max, IntKind.signed, IntKind.bits] at h
 unfold inI
 omega
theorem int_at {cs : List Value} {o t n : Nat} {x : DataW H × List MemPlace} (ht : Tryz.prog.underlying t = some (.int .i64)) (hc : Tryz.prog.cellsOf t = 1) (h : DataW.trod enc Tryz.prog w base sp held n t ((cs.drop o).take (Tryz.prog.cellsOf t)) = some x) :
 ∃ z, cs[o]? = some (.int .i64 z) ∧ inI z := by
 obtain ⟨z, h1, -, h2⟩ := DataW.trod_int ht h
 refine ⟨z, ?_, wf_inI h2⟩
 rw [hc] at h1
 have := congrArg (fun l : List Value => l[0]?) h1
 simpa [List.getElem?_take, List.getElem?_drop] using this
def posOf (f : Nat → Int) : Pos := { kind := fun i => f (i * 2), side := fun i => f (i * 2 + 1), turn := f 128, castle := f 129, over := f 130, half := f 131, full := f 132 }
theorem posCell_of (f : Nat → Int) {i : Nat} (h : i < 133) : posCell (posOf f) i = .int .i64 (f i) := by
 unfold posCell posOf
 dsimp only
 split
 ·split
  ·rw [show i / 2 * 2 = i by omega]
  ·rw [show i / 2 * 2 + 1 = i by omega]
 ·split
  ·subst_vars; rfl
  split
  ·subst_vars; rfl
  split
  ·subst_vars; rfl
  split
  ·subst_vars; rfl
  ·rw [show i = 132 by omega]
theorem pos_of_cells {cs : List Value} (hl : cs.length = 133) (h : ∀ i, i < 133 → ∃ z, cs[i]? = some (.int .i64 z) ∧ inI z) : ∃ p, Rng p ∧ cs.toArray = posCells p := by
 have hf : ∀ i, i < 133 → cs[i]? = some (.int .i64 (intOf (cs.getD i (.int .i64 0)))) ∧ inI (intOf (cs.getD i (.int .i64 0))) := by
  intro i hi
  obtain ⟨z, h1, h2⟩ := h i hi
  simp only [List.getD, h1, Option.getD_some, intOf]
  exact ⟨trivial, h2⟩
 refine ⟨posOf fun i => intOf (cs.getD i (.int .i64 0)), ⟨fun i hi => (hf _ (by omega)).2, fun i hi => (hf _ (by omega)).2, (hf 128 (by omega)).2, (hf 129 (by omega)).2, (hf 130 (by omega)).2⟩, ?_⟩
 apply Array.ext_getElem?
 intro i
 by_cases hi : i < 133
 ·rw [posCells_get _ _ hi, posCell_of _ hi, List.getElem?_toArray]
  exact (hf i hi).1
 ·rw [Array.getElem?_eq_none (by simp; omega), Array.getElem?_eq_none (by rw [posCells_size]; omega)]
theorem some_at {α : Type} {l : List α} {i n : Nat} (h : l.length = n) (hi : i < n) : ∃ x, l[i]? = some x := ⟨_, List.getElem?_eq_getElem (by omega)⟩
theorem pos_of_trod {cs : List Value} {fuel : Nat} {x : DataW H × List MemPlace} (h : DataW.trod enc Tryz.prog w base sp held fuel 30 cs = some x) : ∃ p, Rng p ∧ cs.toArray = posCells p := by
 obtain ⟨xs, n, -, -, hl, hxl, hf⟩ := DataW.trod_struct Tryz.underlying30 h
 have c3 : Tryz.prog.cellsOf 3 = 1 := by kernel_rfl
 have c24 : Tryz.prog.cellsOf 24 = 1 := by kernel_rfl
 have c28 : Tryz.prog.cellsOf 28 = 1 := by kernel_rfl
 have c23 : Tryz.prog.cellsOf 23 = 1 := by kernel_rfl
 have c26 : Tryz.prog.cellsOf 26 = 2 := by kernel_rfl
 have c27 : Tryz.prog.cellsOf 27 = 128 := by kernel_rfl
 have c30 : Tryz.prog.cellsOf 30 = 133 := by kernel_rfl
 rw [c30] at hl
 have hxl' : xs.length = 6 := hxl
 refine pos_of_cells hl fun i hi => ?_
 by_cases h1 : i < 128
 ·have g := hf 0 { name := "Squares", type := 27, offset := 0, embedded := false, tag := "", pkgPath := "", byteOffset := 0 } rfl
  obtain ⟨y, hy⟩ := some_at hxl' (i := 0) (by omega)
  rw [hy] at g
  obtain ⟨ys, m, -, -, -, hyl, hg⟩ := DataW.trod_array Tryz.underlying27 g
  have e := hg (i / 2) (by omega)
  obtain ⟨z, hz⟩ := some_at hyl (i := i / 2) (by omega)
  rw [hz] at e
  obtain ⟨zs, k, -, -, -, hzl, he⟩ := DataW.trod_struct Tryz.underlying26 e
  have hzl' : zs.length = 2 := hzl
  by_cases h2 : i % 2 = 0
  ·have q := he 0 { name := "Kind", type := 23, offset := 0, embedded := false, tag := "", pkgPath := "", byteOffset := 0 } rfl
   obtain ⟨u, hu⟩ := some_at hzl' (i := 0) (by omega)
   rw [hu] at q
   obtain ⟨z, q1, q2⟩ := int_at Tryz.underlying23 c23 q
   refine ⟨z, ?_, q2⟩
   rw [← q1]
   simp only [c26, c27, List.getElem?_take, List.getElem?_drop]
   rw [if_pos (by omega), if_pos (by omega), show 0 + (i / 2 * 2 + 0) = i by omega]
  ·have q := he 1 { name := "Side", type := 24, offset := 1, embedded := false, tag := "", pkgPath := "", byteOffset := 8 } rfl
   obtain ⟨u, hu⟩ := some_at hzl' (i := 1) (by omega)
   rw [hu] at q
   obtain ⟨z, q1, q2⟩ := int_at Tryz.underlying24 c24 q
   refine ⟨z, ?_, q2⟩
   rw [← q1]
   simp only [c26, c27, List.getElem?_take, List.getElem?_drop]
   rw [if_pos (by omega), if_pos (by omega), show 0 + (i / 2 * 2 + 1) = i by omega]
 ·have go : ∀ (j o t : Nat) (f : Field), j < 6 → (#[{ name := "Squares", type := 27, offset := 0, embedded := false, tag := "", pkgPath := "", byteOffset := 0 }, { name := "Side", type := 24, offset := 128, embedded := false, tag := "", pkgPath := "", byteOffset := 1024 }, { name := "Castle", type := 28, offset := 129, embedded := false, tag := "", pkgPath := "", byteOffset := 1032 }, { name := "Over", type := 3, offset := 130, embedded := false, tag := "", pkgPath := "", byteOffset := 1040 }, { name := "Half", type := 3, offset := 131, embedded := false, tag := "", pkgPath := "", byteOffset := 1048 }, { name := "Full", type := 3, offset := 132, embedded := false, tag := "", pkgPath := "", byteOffset := 1056 }] : Array Field)[j]? = some f → f.type = t → f.offset = o → Tryz.prog.underlying t = some (.int .i64) → Tryz.prog.cellsOf t = 1 → ∃ z, cs[o]? = some (.int .i64 z) ∧ inI z := by
   intro j o t f hj hfj e1 e2 ht hc
   have g := hf j f hfj
   obtain ⟨y, hy⟩ := some_at hxl' hj
   rw [hy] at g
   subst e1 e2
   exact int_at ht hc g
  rcases (by omega : i = 128 ∨ i = 129 ∨ i = 130 ∨ i = 131 ∨ i = 132) with rfl | rfl | rfl | rfl | rfl
  ·exact go 1 _ _ _ (by omega) rfl rfl rfl Tryz.underlying24 c24
  ·exact go 2 _ _ _ (by omega) rfl rfl rfl Tryz.underlying28 c28
  ·exact go 3 _ _ _ (by omega) rfl rfl rfl Tryz.underlying3 c3
  ·exact go 4 _ _ _ (by omega) rfl rfl rfl Tryz.underlying3 c3
  ·exact go 5 _ _ _ (by omega) rfl rfl rfl Tryz.underlying3 c3
theorem pos_of_arg {v d : _} {ps : List MemPlace} (h : DataW.Trod enc Tryz.prog w base sp held 30 v d ps) : ∃ p, Rng p ∧ v = .agg (posCells p) := by
 obtain ⟨fuel, hf⟩ := h
 obtain ⟨p, h1, h2⟩ := pos_of_trod hf
 refine ⟨p, h1, ?_⟩
 have hs := congrArg Array.size h2
 rw [posCells_size] at hs
 cases v with
 | agg cs => simp [Value.cells] at h2; rw [h2]
 | _ => simp [Value.cells] at hs
theorem list_of {α : Type} {R : Nat → α → Prop} : ∀ n, (∀ k, k < n → ∃ x, R k x) → ∃ L : List α, L.length = n ∧ ∀ (k : Nat) x, L[k]? = some x → R k x := by
 intro n
 induction n with
 | zero => intro _; exact ⟨[], rfl, fun k x h => by simp at h⟩
 | succ n ih =>
   intro h
   obtain ⟨L, h1, h2⟩ := ih fun k hk => h k (by omega)
   obtain ⟨y, hy⟩ := h n (by omega)
   refine ⟨L ++ [y], by simp [h1], fun k x hx => ?_⟩
   by_cases hk : k < L.length
   ·rw [List.getElem?_append_left hk] at hx; exact h2 k x hx
   ·rw [List.getElem?_append_right (by omega)] at hx
    have hk2 : k - L.length = 0 := by
     have := (List.getElem?_eq_some_iff.1 hx).1
     simp at this; omega
    rw [hk2] at hx
    simp at hx
    rw [show k = n by omega, ← hx]; exact hy
theorem row_of_slice {a : Addr} {len c : Nat} (hc : 0 < c) (h : ∀ i, i < len → ∃ cs, w.cells? base (a.add (i * c)) c = some cs) (hl : 0 < len) :
 ∃ g o cur T fr, a = ⟨g, o, none⟩ ∧ blk w g = some (.cells cur T fr) ∧ ∀ i cs, w.cells? base (a.add (i * c)) c = some cs → cs.length = c ∧ o + i * c + c ≤ cur.size ∧ ∀ j, j < c → cur[o + i * c + j]? = cs[j]? := by
 obtain ⟨cs0, h0⟩ := h 0 hl
 obtain ⟨-, hl0, hc0⟩ := World.cells?_some h0
 have e0 := hc0 0 hc
 rw [add_add, show 0 * c + 0 = 0 by omega] at e0
 obtain ⟨y, hy⟩ := some_at hl0 (i := 0) hc
 rw [hy] at e0
 have e1 : a.add 0 = a := by simp [Addr.add]
 rw [e1] at e0
 obtain ⟨g, o, s⟩ := a
 unfold World.cell? at e0
 split at e0
 ·rename_i cur T fr hb
  cases s with
  | some s => simp at e0
  | none =>
    refine ⟨g, o, cur, T, fr, rfl, hb, fun i cs hi => ?_⟩
    obtain ⟨-, hli, hci⟩ := World.cells?_some hi
    have hat : ∀ j, j < c → cur[o + i * c + j]? = cs[j]? := by
     intro j hj
     have e := hci j hj
     rw [add_add] at e
     have e2 : (⟨g, o, none⟩ : Addr).add (i * c + j) = ⟨g, o + (i * c + j), none⟩ := by
      unfold Addr.add
      split
      ·rename_i hz; rw [hz]; rfl
      ·rfl
     rw [e2, cell_of_row w g _ cur T fr hb, ← Nat.add_assoc] at e
     exact e
    refine ⟨hli, ?_, hat⟩
    have e := hat (c - 1) (by omega)
    obtain ⟨y, hy⟩ := some_at hli (i := c - 1) (by omega)
    rw [hy] at e
    have := (Array.getElem?_eq_some_iff.1 e).1
    omega
 ·cases e0
theorem slp_of_arg {a : Option Addr} {l c : Nat} {d : DataW H} {ps : List MemPlace} (h : DataW.Trod enc Tryz.prog w base sp held 22 (.slice a l c) d ps) : ∃ Ps, SlP w (.slice a l c) Ps ∧ (∀ p ∈ Ps, Rng p) := by
 obtain ⟨fuel, hf⟩ := h
 have c30 : Tryz.prog.cellsOf 30 = 133 := by kernel_rfl
 rcases open_slice Tryz.underlying22 hf with ⟨hv, -⟩ | ⟨a, len, cap, m, n, D, Pl, hv, -, hlc, -, hm, -, hx⟩
 ·simp [Value.cells] at hv
  obtain ⟨rfl, rfl, rfl⟩ := hv
  exact ⟨[], .inl ⟨⟨_, _, rfl⟩, rfl⟩, fun _ h => by cases h⟩
 ·simp [Value.cells] at hv
  obtain ⟨rfl, rfl, rfl⟩ := hv
  rw [c30] at hx
  by_cases h0 : l = 0
  ·subst h0
   exact ⟨[], .inl ⟨⟨_, _, rfl⟩, rfl⟩, fun _ h => by cases h⟩
  ·have hml : l ≤ m := by rw [hm]; split <;> omega
   obtain ⟨g, o, cur, T, fr, rfl, hb, hrow⟩ := row_of_slice (len := l) (c := 133) (by omega) (fun i hi => by obtain ⟨cs, h1, -⟩ := hx i (by omega); exact ⟨cs, h1⟩) (by omega)
   obtain ⟨L, hL, hR⟩ := list_of (R := fun k x => Rng x ∧ o + k * 133 + 133 ≤ cur.size ∧ cur.extract (o + k * 133) (o + k * 133 + 133) = posCells x) l (fun k hk => by
    obtain ⟨cs, h1, h2⟩ := hx k (by omega)
    obtain ⟨p, hp, hpc⟩ := pos_of_trod h2
    obtain ⟨e1, e2, e3⟩ := hrow k cs h1
    refine ⟨p, hp, e2, ?_⟩
    rw [← hpc]
    apply Array.ext_getElem?
    intro j
    have e4 : cs.toArray[j]? = cs[j]? := by simp
    rw [e4, Array.getElem?_extract]
    by_cases hj : j < 133
    ·rw [if_pos (by omega)]; exact e3 j hj
    ·rw [if_neg (by omega), List.getElem?_eq_none (by omega)])
   exact ⟨L, .inr ⟨g, o, c, cur, T, fr, by rw [hL], hb, fun k x hk => (hR k x hk).2⟩, fun p hp => by
    obtain ⟨k, hk⟩ := List.getElem?_of_mem hp
    exact (hR k p hk).1⟩
end
end Go.Proofs.YtdmgimfgoajmjaaGreatDoor
namespace Go.Proofs.YtdmgimfgoajmjaaGreatDoor
open Go.ChangeShapes Go.WideShapes Go.ChangeAt Go.RowKit
set_option maxRecDepth 100000
theorem and_mk {a b : Bool} (h : a = true) (k : b = true) : (a && b) = true := by rw [h, k]; rfl
theorem own : ownKnob Tryz.prog.godebug = none := by kernel_rfl
theorem laidOut : laidOutB Tryz.prog = true := by kernel_rfl
def tabs {H : Type} : List (String × DataW H) := [("math/bits.deBruijn32tab", Rows.laid_math_bits_deBruijn32tab), ("math/bits.deBruijn64tab", Rows.laid_math_bits_deBruijn64tab), ("internal/strconv.uint64pow10", Rows.laid_internal_strconv_uint64pow10)]
theorem door_met (os : Os) (args : Array Value) : laidMetH Tryz.prog tabs ((World.doorLaid Tryz.prog 400 os).forCall (fun _ _ => 0) ⟨#[], args, []⟩).memory :=
 laidMetH_of_parts3 (fuel := 8) (laidMet_of_run' 8 (by kernel_rfl) (by kernel_rfl)) (by kernel_rfl) (by kernel_rfl)
theorem tab10_of {W : World} (h : laidMetH Tryz.prog tabs W) : Tab10 W.heap.size W := by
 rw [MakeChecks.laidMetH_plain _ _ _ (by kernel_rfl)] at h
 have h1 : laidMet Tryz.prog [("internal/strconv.uint64pow10", Lib.tabData .u64 Lib.pow10Tab)] W := h.filter fun x => x.1 == "internal/strconv.uint64pow10"
 have hg : Tryz.prog.globalNamed "internal/strconv.uint64pow10" = some 0 := by kernel_rfl
 refine Lib.tabBelow_of_tabIs ?_
 exact Lib.tabIs_of_head (n := 20) hg (by kernel_rfl) (t := 255) (e := 226) (by kernel_rfl) (by kernel_rfl) (by kernel_rfl) (by kernel_rfl) h1
end Go.Proofs.YtdmgimfgoajmjaaGreatDoor
namespace Go.Proofs.YtdmgimfgoajmjaaGreatDoor
open Go.ChangeShapes Go.RowKit Go.Deep
def SlI (w : World) (v : Value) (zs : List Int) : Prop := (∃ a cap, v = .slice a zs.length cap) ∧ (0 < zs.length → Sl w 1 v zs.length (ints zs))
section
variable {H : Type} {enc : TypeId × Value → H} {w : World} {base : Nat} {sp : Nat → Bool} {held : Bool}
theorem sli_of_arg {a : Option Addr} {l c : Nat} {d : DataW H} {ps : List MemPlace} (h : DataW.Trod enc Tryz.prog w base sp held 43 (.slice a l c) d ps) : ∃ zs, SlI w (.slice a l c) zs ∧ ∀ z ∈ zs, inI z := by
 obtain ⟨fuel, hf⟩ := h
 have c3 : Tryz.prog.cellsOf 3 = 1 := by kernel_rfl
 rcases open_slice Tryz.underlying43 hf with ⟨hv, -⟩ | ⟨a, len, cap, m, n, D, Pl, hv, -, hlc, -, hm, -, hx⟩
 ·simp [Value.cells] at hv
  obtain ⟨rfl, rfl, rfl⟩ := hv
  exact ⟨[], ⟨⟨_, _, rfl⟩, fun h => by simp at h⟩, fun _ h => by cases h⟩
 ·simp [Value.cells] at hv
  obtain ⟨rfl, rfl, rfl⟩ := hv
  rw [c3] at hx
  by_cases h0 : l = 0
  ·subst h0
   exact ⟨[], ⟨⟨_, _, rfl⟩, fun h => by simp at h⟩, fun _ h => by cases h⟩
  ·have hml : l ≤ m := by rw [hm]; split <;> omega
   obtain ⟨g, o, cur, T, fr, rfl, hb, hrow⟩ := row_of_slice (len := l) (c := 1) (by omega) (fun i hi => by obtain ⟨cs, h1, -⟩ := hx i (by omega); exact ⟨cs, h1⟩) (by omega)
   obtain ⟨L, hL, hR⟩ := list_of (R := fun k z => inI z ∧ cur[o + k]? = some (.int .i64 z)) l (fun k hk => by
    obtain ⟨cs, h1, h2⟩ := hx k (by omega)
    obtain ⟨z, e1, -, e2⟩ := DataW.trod_int Tryz.underlying3 h2
    obtain ⟨f1, f2, f3⟩ := hrow k cs h1
    have f4 := f3 0 (by omega)
    refine ⟨z, wf_inI e2, ?_⟩
    rw [e1] at f4
    simpa using f4)
   subst hL
   exact ⟨L, ⟨⟨_, _, rfl⟩, fun _ => ⟨by simp [ints], .inr ⟨g, o, c, rfl, blk_lt hb, fun j u hu => by
    rw [blk_cell hb]
    simp only [ints, List.getElem?_map, Option.map_eq_some_iff] at hu
    obtain ⟨z, hz, rfl⟩ := hu
    exact (hR j z hz).2⟩⟩⟩, fun z hz => by
    obtain ⟨k, hk⟩ := List.getElem?_of_mem hz
    exact (hR k z hk).1⟩
end
end Go.Proofs.YtdmgimfgoajmjaaGreatDoor
