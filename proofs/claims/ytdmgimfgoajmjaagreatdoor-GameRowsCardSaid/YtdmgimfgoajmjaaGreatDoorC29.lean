/- Whether two boards are the same. -/
import Derived.Test.YtdmgimfgoajmjaaGreatDoorC03
set_option linter.unusedVariables false
set_option linter.unusedSimpArgs false
namespace Go.Proofs.YtdmgimfgoajmjaaGreatDoor
open Go.RowKit
theorem run_forIn_all {P : Program} {w : World} (F : Nat → Option Bool × Unit → Sem (ForInStep (Option Bool × Unit))) (c : Nat → Bool) : ∀ (n s : Nat),
 (∀ i, s ≤ i → i < s + n → (F i (none, ())).run P w = .ok (if c i = true then .yield (none, ()) else .done (some false, ())) w) →
 (forIn (List.range' s n) ((none, ()) : Option Bool × Unit) F).run P w = .ok (if (List.range' s n).all c = true then (none, ()) else (some false, ())) w
 | 0, s, _ => by simp [Sem.run_pure]
 | n + 1, s, h => by
   rw [List.range'_succ, List.forIn_cons, Sem.run_bind, h s (Nat.le_refl _) (by omega)]
   simp only [Result.andThen_ok]
   cases hc : c s
   ·simp [hc]
   ·simp only [if_true, List.all_cons, hc, Bool.true_and]
    exact run_forIn_all F c n (s + 1) (fun i h1 h2 => h i (by omega) (by omega))
theorem equalIn_piece (a b c d : Int) (w : World) : (Op.equalIn 9999 26 (.agg #[.int .i64 a, .int .i64 b]) (.agg #[.int .i64 c, .int .i64 d])).run Tryz.prog w = .ok (a == c && b == d) w := by
 by_cases h1 : a = c
 ·by_cases h2 : b = d
  ·subst h1; subst h2; go_simp
  ·subst h1; go_simp
 ·go_simp
theorem part_sq (p : Pos) (n : Nat) (hn : n < 64) (w : World) : (part 26 (sqCells p) (n * 2)).run Tryz.prog w = .ok (.agg #[.int .i64 (p.kind n), .int .i64 (p.side n)]) w := by
 have hs := size_piece
 cases hq : Tryz.prog.info? 26 with
 | none => simp [hq] at hs
 | some j =>
   have hs2 : j.size = 2 := by simpa [hq] using hs
   have hagg : ∀ w, (isAgg 26).run Tryz.prog w = .ok true w := by
    intro w
    unfold isAgg
    rw [Sem.run_bind, run_underlying Tryz.underlying26 w]
    rfl
   have e : (sqCells p).extract (n * 2) (n * 2 + 2) = #[.int .i64 (p.kind n), .int .i64 (p.side n)] := by
    apply Array.ext_getElem?
    intro k
    simp only [Array.getElem?_extract, sqCells_size]
    by_cases hk : k < 2
    ·rw [if_pos (by omega), sqCells_get p _ (by omega)]
     rcases (by omega : k = 0 ∨ k = 1) with rfl | rfl
     ·simp [posCell]; omega
     ·simp [posCell, show n * 2 + 1 < 128 by omega, show (n*2+1)/2 = n by omega]
    ·rw [if_neg (by omega)]; simp; omega
   simp [part, hagg, sizeOf, typeInfo, hq, hs2, e]
def sqB (p q : Pos) : Bool := (List.range 64).all fun i => p.kind i == q.kind i && p.side i == q.side i
theorem equalIn_sq (p q : Pos) (w : World) : (Op.equalIn (9999 + 1) 27 (.agg (sqCells p)) (.agg (sqCells q))).run Tryz.prog w = .ok (sqB p q) w := by
 have hs := size_piece
 cases hq : Tryz.prog.info? 26 with
 | none => simp [hq] at hs
 | some j =>
   have hs2 : j.size = 2 := by simpa [hq] using hs
   rw [Op.equalIn]
   simp only [Sem.run_bind, run_underlying Tryz.underlying27 w, Result.andThen_ok, Std.Legacy.Range.forIn_eq_forIn_range']
   have hz : (sizeOf 26).run Tryz.prog w = .ok 2 w := by simp [sizeOf, typeInfo, hq, hs2]
   rw [hz]
   simp only [Result.andThen_ok]
   have hF := run_forIn_all (P := Tryz.prog) (w := w) (fun i _ => do
    let a ← part 26 (sqCells p) (i * 2)
    let b ← part 26 (sqCells q) (i * 2)
    let c ← Op.equalIn 9999 26 a b
    if (!c) = true then pure (ForInStep.done (some false, ())) else pure (ForInStep.yield (none, ()))) (fun i => p.kind i == q.kind i && p.side i == q.side i) 64 0 (fun i _ hi => by
     simp only [Sem.run_bind, part_sq p i (by omega), part_sq q i (by omega), Result.andThen_ok, equalIn_piece]
     cases (p.kind i == q.kind i && p.side i == q.side i) <;> simp)
   refine (congrArg (fun r => Result.andThen r _) (show _ = _ from hF)).trans ?_
   have e : (List.range' 0 64) = List.range 64 := by rw [List.range_eq_range']
   rw [e]
   simp only [Result.andThen_ok]
   show _ = Result.ok (sqB p q) w
   unfold sqB
   cases ((List.range 64).all fun i => p.kind i == q.kind i && p.side i == q.side i) <;> simp
@[go_sem high] theorem eql_sq (p q : Pos) (w : World) : (binOp .eql 27 (.agg (sqCells p)) (.agg (sqCells q))).run Tryz.prog w = .ok (.bool (sqB p q)) w := by
  rw [run_eql_struct, equalIn_sq]; rfl
end Go.Proofs.YtdmgimfgoajmjaaGreatDoor
