/- Numbers as a text, a blank behind each: no two lists have one text. -/
import Derived.Test.YtdmgimfgoajmjaaGreatDoorC01
import Derived.Lib.ItoaNum
set_option linter.unusedVariables false
set_option linter.unusedSimpArgs false
namespace Go.Proofs.YtdmgimfgoajmjaaGreatDoor
open Go.RowKit Lib
def digVal (l : List UInt8) : Nat := l.foldl (fun a d => a * 10 + (d.toNat - 48)) 0
theorem digVal_snoc (l : List UInt8) (d : UInt8) : digVal (l ++ [d]) = digVal l * 10 + (d.toNat - 48) := by simp [digVal]
theorem dig_nat {k : Nat} (h : k < 10) : (UInt8.ofNat (48 + k)).toNat = 48 + k := by
 rw [UInt8.toNat_ofNat']; omega
theorem digVal_dec (u : Nat) : digVal (decDigits u) = u := by
 induction u using Nat.strongRecOn with
 | ind u ih =>
   rw [decDigits]
   split
   ·rename_i h
    show 0 * 10 + ((UInt8.ofNat (48 + u)).toNat - 48) = u
    rw [dig_nat h]; omega
   ·rename_i h
    rw [digVal_snoc, ih (u / 10) (by omega), dig_nat (by omega)]; omega
theorem dec_digits (u : Nat) : ∀ d ∈ decDigits u, 48 ≤ d.toNat ∧ d.toNat ≤ 57 := by
 induction u using Nat.strongRecOn with
 | ind u ih =>
   rw [decDigits]
   split
   ·rename_i h
    intro d hd
    rw [List.mem_singleton] at hd
    subst hd
    rw [dig_nat h]; omega
   ·rename_i h
    intro d hd
    rw [List.mem_append, List.mem_singleton] at hd
    rcases hd with hd | rfl
    ·exact ih (u / 10) (by omega) d hd
    ·rw [dig_nat (by omega)]; omega
theorem dec_inj {u v : Nat} (h : decDigits u = decDigits v) : u = v := by rw [← digVal_dec u, ← digVal_dec v, h]
theorem itoa_inj {m n : Int} (h : itoa m = itoa n) : m = n := by
 unfold itoa at h
 split at h <;> split at h
 ·have := dec_inj (List.cons.inj h).2; omega
 ·have : (45 : UInt8) ∈ decDigits n.toNat := by rw [← h]; exact List.mem_cons_self
  have := dec_digits _ _ this
  simp at this
 ·have : (45 : UInt8) ∈ decDigits m.toNat := by rw [h]; exact List.mem_cons_self
  have := dec_digits _ _ this
  simp at this
 ·have := dec_inj h; omega
theorem itoa_no (n : Int) : ∀ d ∈ itoa n, d ≠ 32 := by
 intro d hd e
 subst e
 unfold itoa at hd
 split at hd
 ·rw [List.mem_cons] at hd
  rcases hd with hd | hd
  ·cases hd
  ·have := dec_digits _ _ hd; simp at this
 ·have := dec_digits _ _ hd; simp at this
def numsT (l : List Int) : List UInt8 := l.flatMap fun n => itoa n ++ [32]
theorem app_sep {a b c d : List UInt8} (ha : ∀ x ∈ a, x ≠ 32) (hb : ∀ x ∈ b, x ≠ 32) (h : a ++ 32 :: c = b ++ 32 :: d) : a = b ∧ c = d := by
 induction a generalizing b with
 | nil =>
   cases b with
   | nil => exact ⟨rfl, (List.cons.inj h).2⟩
   | cons y b => exact absurd (List.cons.inj h).1.symm (hb y List.mem_cons_self)
 | cons x a ih =>
   cases b with
   | nil => exact absurd (List.cons.inj h).1 (ha x List.mem_cons_self)
   | cons y b =>
     obtain ⟨h1, h2⟩ := List.cons.inj h
     obtain ⟨h3, h4⟩ := ih (fun z hz => ha z (List.mem_cons_of_mem _ hz)) (fun z hz => hb z (List.mem_cons_of_mem _ hz)) h2
     exact ⟨by rw [h1, h3], h4⟩
theorem numsT_inj : ∀ {l m : List Int}, numsT l = numsT m → l = m
 | [], [], _ => rfl
 | [], n :: m, h => by simp [numsT] at h
 | n :: l, [], h => by simp [numsT] at h
 | n :: l, k :: m, h => by
   simp only [numsT, List.flatMap_cons, List.append_assoc, List.cons_append, List.nil_append] at h
   obtain ⟨h1, h2⟩ := app_sep (itoa_no n) (itoa_no k) h
   rw [itoa_inj h1, numsT_inj h2]
end Go.Proofs.YtdmgimfgoajmjaaGreatDoor
