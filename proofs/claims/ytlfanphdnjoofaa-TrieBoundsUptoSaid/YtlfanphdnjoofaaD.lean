/- The data as it lies in memory: items, edits, nodes; slices that nobody writes any more. -/
import Derived.Test.YtlfanphdnjoofaaW
namespace Go.Proofs.Ytlfanphdnjoofaa
open Go.RowKit

/-- One cell of a block with the tag t. -/
def Cl (t : Nat) (w : World) (g : Tg) (b i : Nat) (v : Value) : Prop := w.cell? ⟨b, i, none⟩ = some v ∧ g b = t
theorem Cl.mv {t : Nat} {U : Nat → Prop} {w w' : World} {g g' : Tg} {b i : Nat} {v : Value} (h : Cl t w g b i v) (m : Mv U w g w' g') (hn : ¬ U t) : Cl t w' g' b i v := by
  have hb : b < w.heap.size := World.block_lt_of_cell? (a := ⟨b, i, none⟩) _ h.1
  exact ⟨(m.cell (p := ⟨b, i, none⟩) hb (by rw [h.2]; exact hn)).trans h.1, (m.tag b hb (by rw [h.2]; exact hn)).trans h.2⟩
/-- A block, known whole, with the tag t. -/
def Bt (t : Nat) (w : World) (g : Tg) (b : Nat) (E : TypeId) (cs : List Value) : Prop := Blk w b E cs ∧ g b = t
theorem Bt.mv {t : Nat} {U : Nat → Prop} {w w' : World} {g g' : Tg} {b : Nat} {E : TypeId} {cs : List Value} (h : Bt t w g b E cs) (m : Mv U w g w' g') (hn : ¬ U t) : Bt t w' g' b E cs :=
  ⟨h.1.mv m (by rw [h.2]; exact hn), (m.tag b h.1.lt (by rw [h.2]; exact hn)).trans h.2⟩

/-- From offset o on block b, which nobody writes any more, has the cells cs. -/
def Rd (w : World) (g : Tg) (b o : Nat) (cs : List Value) : Prop := b < w.heap.size ∧ g b = 0 ∧ ∀ j, j < cs.length → w.cell? ⟨b, o + j, none⟩ = cs[j]?
theorem Rd.mv {U : Nat → Prop} {w w' : World} {g g' : Tg} {b o : Nat} {cs : List Value} (h : Rd w g b o cs) (m : Mv U w g w' g') (hn : ¬ U 0) : Rd w' g' b o cs :=
  ⟨Nat.lt_of_lt_of_le h.1 m.size, (m.tag b h.1 (by rw [h.2.1]; exact hn)).trans h.2.1, fun j hj => (m.cell (p := ⟨b, o + j, none⟩) h.1 (by rw [h.2.1]; exact hn)).trans (h.2.2 j hj)⟩

/-- A slice value's parts. -/
structure Sli where
  a : Option Addr
  n : Nat
  c : Nat
abbrev Sli.v (s : Sli) : Value := .slice s.a s.n s.c

/-- The slice s, of elements of z cells each, reads as the list xs, each of whose elements has the cells f x. -/
structure Ls {α : Type} (z : Nat) (f : α → List Value) (w : World) (g : Tg) (s : Sli) (xs : List α) : Prop where
  len : s.n = xs.length
  cap : s.n ≤ s.c
  nil : s.a = none → s.c = 0
  mem : xs ≠ [] → ∃ b o, s.a = some ⟨b, o, none⟩ ∧ Rd w g b o (xs.flatMap f)
  size : ∀ x, (f x).length = z
theorem Ls.mv {α : Type} {z : Nat} {f : α → List Value} {U : Nat → Prop} {w w' : World} {g g' : Tg} {s : Sli} {xs : List α} (h : Ls z f w g s xs) (m : Mv U w g w' g') (hn : ¬ U 0) : Ls z f w' g' s xs :=
  ⟨h.len, h.cap, h.nil, fun hx => let ⟨b, o, e, r⟩ := h.mem hx; ⟨b, o, e, r.mv m hn⟩, h.size⟩
theorem Ls.void {α : Type} {z : Nat} {f : α → List Value} (w : World) (g : Tg) (hf : ∀ x, (f x).length = z) : Ls z f w g ⟨.none, 0, 0⟩ ([] : List α) := ⟨rfl, Nat.le_refl _, fun _ => rfl, fun h => absurd rfl h, hf⟩
theorem flat_get {α : Type} {z : Nat} {f : α → List Value} (hz : ∀ x, (f x).length = z) : ∀ (xs : List α) (i : Nat) (h : i < xs.length) (j : Nat), j < z → (xs.flatMap f)[i * z + j]? = (f xs[i])[j]?
  | x :: r, 0, _, j, hj => by
    rw [List.flatMap_cons, Nat.zero_mul, Nat.zero_add, List.getElem?_append_left (by rw [hz]; exact hj)]
    rfl
  | x :: r, i + 1, h, j, hj => by
    have e : (i + 1) * z + j = z + (i * z + j) := by rw [Nat.add_mul]; omega
    rw [List.flatMap_cons, e, List.getElem?_append_right (by rw [hz]; omega), hz, Nat.add_sub_cancel_left]
    exact flat_get hz r i (by simpa using h) j hj
theorem flat_len {α : Type} {z : Nat} {f : α → List Value} (hz : ∀ x, (f x).length = z) : ∀ xs : List α, (xs.flatMap f).length = xs.length * z
  | [] => by simp
  | x :: r => by rw [List.flatMap_cons, List.length_append, hz, flat_len hz r, List.length_cons, Nat.add_mul]; omega
/-- Where the slice's element i lies. -/
theorem Ls.at {α : Type} {z : Nat} {f : α → List Value} {w : World} {g : Tg} {s : Sli} {xs : List α} (h : Ls z f w g s xs) (i : Nat) (hi : i < xs.length) :
    ∃ b o, s.a = some ⟨b, o, none⟩ ∧ b < w.heap.size ∧ g b = 0 ∧ ∀ j, j < z → w.cell? ⟨b, o + i * z + j, none⟩ = (f xs[i])[j]? := by
  obtain ⟨b, o, e, h1, h2, h3⟩ := h.mem (by intro e; simp [e] at hi)
  refine ⟨b, o, e, h1, h2, fun j hj => ?_⟩
  have hl : i * z + j < (xs.flatMap f).length := by
    rw [flat_len h.size]
    have : (i + 1) * z ≤ xs.length * z := Nat.mul_le_mul_right z hi
    rw [Nat.add_mul] at this; omega
  rw [Nat.add_assoc, h3 _ hl, flat_get h.size xs i hi j hj]

structure Item where
  key : ByteArray
  ver : Int
  knd : Int
  int : Int
  txt : ByteArray
  nms : Sli
  its : Sli
abbrev Item.cells (x : Item) : List Value := [.string x.key, .int .i64 x.ver, .int .i64 x.knd, .int .i64 x.int, .string x.txt, .slice x.nms.a x.nms.n x.nms.c, .slice x.its.a x.its.n x.its.c]
theorem Item.size (x : Item) : x.cells.length = 7 := rfl
structure Edit where
  it : Item
  gone : Bool
abbrev Edit.cells (x : Edit) : List Value := [.string x.it.key, .int .i64 x.it.ver, .int .i64 x.it.knd, .int .i64 x.it.int, .string x.it.txt, .slice x.it.nms.a x.it.nms.n x.it.nms.c, .slice x.it.its.a x.it.its.n x.it.its.c, .bool x.gone]
theorem Edit.size (x : Edit) : x.cells.length = 8 := rfl
structure Ref where
  num : Int
  gen : Int
abbrev Ref.cells (x : Ref) : List Value := [.int .i64 x.num, .int .i64 x.gen]
structure Rtd where
  num : Int
  gen : Int
  got : Int
abbrev Rtd.cells (x : Rtd) : List Value := [.int .i64 x.num, .int .i64 x.gen, .int .i64 x.got]
/-- How two numbers compare. -/
def cmpI (x y : Int) : Int := if x < y then -1 else if y < x then 1 else 0

/-! ### Sums and digits -/
def hstep (h : Nat) (c : UInt8) : Nat := ((h ^^^ c.toNat) * 1099511628211) % 18446744073709551616
def hashL (h : Nat) (l : List UInt8) : Nat := l.foldl hstep h
def hashOf (s : ByteArray) : Nat := hashL 14695981039346656037 s.data.toList
theorem hstep_lt (h : Nat) (c : UInt8) : hstep h c < 18446744073709551616 := by unfold hstep; exact Nat.mod_lt _ (by omega)
theorem hashL_lt (h : Nat) (l : List UInt8) (hh : h < 18446744073709551616) : hashL h l < 18446744073709551616 := by
  unfold hashL
  induction l generalizing h with
  | nil => exact hh
  | cons c r ih => rw [List.foldl_cons]; exact ih _ (hstep_lt h c)
theorem hashOf_lt (s : ByteArray) : hashOf s < 18446744073709551616 := by
  unfold hashOf
  exact hashL_lt _ _ (by omega)
theorem hashL_snoc (h : Nat) (l : List UInt8) (c : UInt8) : hashL h (l ++ [c]) = hstep (hashL h l) c := by
  unfold hashL
  rw [List.foldl_append, List.foldl_cons, List.foldl_nil]
theorem hash_take (h : Nat) (s : ByteArray) (k : Nat) (hk : k < s.size) : hashL h (s.data.toList.take (k + 1)) = ((hashL h (s.data.toList.take k) ^^^ byt s k) * 1099511628211) % 18446744073709551616 := by
  have hl : k < s.data.toList.length := by simpa using hk
  have e : (s.data.toList[k]'hl).toNat = byt s k := by
    unfold byt
    rw [List.getD_eq_getElem?_getD, List.getElem?_eq_getElem hl]; rfl
  rw [List.take_succ_eq_append_getElem hl, hashL_snoc, hstep, e]
theorem wrap_u64 (n : Int) : IntKind.u64.wrap n = n % 18446744073709551616 := by
  simp [IntKind.wrap, IntKind.bits, IntKind.signed]
theorem xor_v {a b : Nat} (ha : a < 18446744073709551616) (hb : b < 18446744073709551616) :
    Value.int .u64 (IntKind.u64.wrap ((BitVec.ofInt IntKind.u64.bits (a : Int) ^^^ BitVec.ofInt IntKind.u64.bits (b : Int)).toNat : Nat)) = .int .u64 ((a ^^^ b : Nat) : Int) := by
  rw [wrap_u64]
  have h1 : (BitVec.ofInt IntKind.u64.bits (a : Int) ^^^ BitVec.ofInt IntKind.u64.bits (b : Int)).toNat = a ^^^ b := by
    show (BitVec.ofInt 64 (a : Int) ^^^ BitVec.ofInt 64 (b : Int)).toNat = a ^^^ b
    rw [BitVec.toNat_xor, BitVec.ofInt_natCast, BitVec.ofInt_natCast, BitVec.toNat_ofNat, BitVec.toNat_ofNat, Nat.mod_eq_of_lt ha, Nat.mod_eq_of_lt hb]
  have h2 : a ^^^ b < 2 ^ 64 := Nat.xor_lt_two_pow ha hb
  rw [h1]
  congr 1
  omega
theorem mul_v {a b : Nat} : Value.int .u64 (IntKind.u64.wrap ((a : Int) * (b : Int))) = .int .u64 ((a * b % 18446744073709551616 : Nat) : Int) := by
  rw [wrap_u64]; congr 1
theorem up_v {a : Nat} (h : a < 256) : Value.int .u64 (IntKind.u64.wrap (a : Int)) = .int .u64 ((a : Nat) : Int) := by
  rw [wrap_u64]; congr 1; omega
def digN (h l : Nat) : Nat := h / 16 ^ l % 16
theorem digN_lt (h l : Nat) : digN h l < 16 := Nat.mod_lt _ (by decide)
def digitOf (s : ByteArray) (l : Nat) : Nat := if l < 16 then digN (hashOf s) l else 0
theorem digitOf_lt (s : ByteArray) (l : Nat) : digitOf s l < 16 := by unfold digitOf; split; exact digN_lt _ _; decide
theorem shr_and {h l : Nat} (hh : h < 18446744073709551616) :
    Value.int .u64 (IntKind.u64.wrap ((BitVec.ofInt IntKind.u64.bits ((h / 16 ^ l : Nat) : Int) &&& BitVec.ofInt IntKind.u64.bits (15 : Int)).toNat : Nat)) = .int .u64 ((digN h l : Nat) : Int) := by
  rw [wrap_u64]
  have hlt : h / 16 ^ l < 18446744073709551616 := Nat.lt_of_le_of_lt (Nat.div_le_self _ _) hh
  have h1 : (BitVec.ofInt IntKind.u64.bits ((h / 16 ^ l : Nat) : Int) &&& BitVec.ofInt IntKind.u64.bits (15 : Int)).toNat = digN h l := by
    show (BitVec.ofInt 64 ((h / 16 ^ l : Nat) : Int) &&& BitVec.ofInt 64 ((15 : Nat) : Int)).toNat = _
    rw [BitVec.toNat_and, BitVec.ofInt_natCast, BitVec.ofInt_natCast, BitVec.toNat_ofNat, BitVec.toNat_ofNat, Nat.mod_eq_of_lt hlt]
    exact Nat.and_two_pow_sub_one_eq_mod _ 4
  have := digN_lt h l
  rw [h1]
  congr 1
  omega
theorem shr_v {h l : Nat} : Value.int .u64 ((h : Int).fdiv (2 ^ (min ((4 * l : Nat) : Int).toNat 64))) = .int .u64 ((h / 2 ^ min (4 * l) 64 : Nat) : Int) := by
  congr 1
  rw [Int.fdiv_eq_ediv_of_nonneg _ (Int.pow_nonneg (by decide)), Int.toNat_natCast]
  simp
theorem shr_16 {h l : Nat} (hl : l < 16) : h / 2 ^ min (4 * l) 64 = h / 16 ^ l := by
  rw [Nat.min_eq_left (by omega), Nat.pow_mul]
theorem to_i64 {a : Nat} (h : a < 9223372036854775808) : Value.int .i64 (IntKind.i64.wrap (a : Int)) = .int .i64 ((a : Nat) : Int) := by
  rw [wrap_in (by omega) (by omega)]
theorem div_v {h k : Nat} (hh : h / 16 ^ k < 18446744073709551616) : Value.int .u64 (IntKind.u64.wrap (((h / 16 ^ k : Nat) : Int).tdiv 16)) = .int .u64 ((h / 16 ^ (k + 1) : Nat) : Int) := by
  rw [wrap_u64, Nat.pow_succ, ← Nat.div_div_eq_div_mul]
  generalize h / 16 ^ k = x at *
  congr 1
  rw [Int.tdiv_eq_ediv_of_nonneg (by omega)]
  omega
theorem rem_v {h l : Nat} : Value.int .u64 (((h / 16 ^ l : Nat) : Int).tmod 16) = .int .u64 ((digN h l : Nat) : Int) := by
  unfold digN
  generalize h / 16 ^ l = x
  congr 1
end Go.Proofs.Ytlfanphdnjoofaa
