/- Keys in their order. -/
import Derived.Lib.Bytealg
namespace Go.Proofs.Ytlfanphdnjoofaa
theorem cmpB_neg : ∀ (a b : List UInt8), Lib.compareBytes a b < 0 ↔ a < b
  | [], [] => by simp [Lib.compareBytes]
  | [], _ :: _ => by simp [Lib.compareBytes]
  | _ :: _, [] => by simp [Lib.compareBytes]
  | a :: x, b :: y => by
    simp only [Lib.compareBytes, List.cons_lt_cons_iff]
    by_cases h1 : a = b
    · subst h1; simp [cmpB_neg x y]
    · by_cases h2 : a < b
      · simp [h1, h2]
      · have h3 : b < a := UInt8.lt_of_le_of_ne (UInt8.not_lt.1 h2) (Ne.symm h1)
        simp [h1, h2, h3]
theorem cmpB_eq : ∀ (a b : List UInt8), Lib.compareBytes a b = 0 ↔ a = b
  | [], [] => by simp [Lib.compareBytes]
  | [], _ :: _ => by simp [Lib.compareBytes]
  | _ :: _, [] => by simp [Lib.compareBytes]
  | a :: x, b :: y => by
    simp only [Lib.compareBytes]
    by_cases h1 : a = b
    · subst h1; simp [cmpB_eq x y]
    · by_cases h2 : a < b
      · simp [h1, h2]
      · have h3 : b < a := UInt8.lt_of_le_of_ne (UInt8.not_lt.1 h2) (Ne.symm h1)
        simp [h1, h2, h3]
/-- A key's bytes. -/
abbrev kb (s : ByteArray) : List UInt8 := s.data.toList
theorem kb_inj {a b : ByteArray} (h : kb a = kb b) : a = b := by
  cases a; cases b
  simp only [kb] at h
  congr 1
  exact Array.toList_inj.1 h
theorem cmp_neg (a b : ByteArray) : Extern.BytealgCompare.cmp a b < 0 ↔ kb a < kb b := by rw [Lib.cmp_eq]; exact cmpB_neg _ _
theorem toList_kb (a : ByteArray) : a.toList = kb a := ByteArray.toList_eq a
theorem ltl_le {a b c : List UInt8} (h : ¬ b < a) (h2 : ¬ c < b) : ¬ c < a := fun h3 => by
  have := List.le_trans (α := UInt8) (l₁ := a) (l₂ := b) (l₃ := c) (by simpa using h) (by simpa using h2)
  exact (List.not_lt.2 this) h3
theorem ltl_anti {a b : List UInt8} (h : ¬ b < a) (h2 : ¬ a < b) : a = b := List.le_antisymm (by simpa using h) (by simpa using h2)
theorem bytesLess_lt : ∀ (x y : List UInt8), Op.bytesLess x y = decide (x < y)
  | [], [] => by simp [Op.bytesLess]
  | _ :: _, [] => by simp [Op.bytesLess]
  | [], _ :: _ => by simp [Op.bytesLess]
  | a :: x, b :: y => by
    rw [Op.bytesLess, bytesLess_lt x y]
    simp only [List.cons_lt_cons_iff]
    by_cases h1 : a < b <;> by_cases h2 : a = b <;> by_cases h3 : x < y <;> simp [h1, h2, h3]
end Go.Proofs.Ytlfanphdnjoofaa
