/- A story, opened; the row of TrieBounds. -/
import Derived.Deep.Slices
import Derived.WideKeyArgs
import Derived.JoinedCond
import Derived.Test.YtlfanphdnjoofaaT23
import Derived.Test.YtlfanphdnjoofaaJ
import Derived.Test.YtlfanphdnjoofaaRows
namespace Go.Proofs.Ytlfanphdnjoofaa
open Go.RowKit
set_option linter.unusedSimpArgs false
set_option linter.unusedVariables false
attribute [local irreducible] wpList Code.wp Calls OpS wpG

set_option linter.constructorNameAsVariable false
set_option linter.unusedVariables false
open Go.ChangeShapes Go.WideShapes Go.ChangeAt
theorem cell_spot {w : World} {a : Addr} {v : Value} (h : w.cell? a = some v) : a.spot = none := by
  unfold World.cell? at h
  split at h
  · split at h
    · cases h
    · rename_i hs
      cases hh : a.spot with
      | none => rfl
      | some q => rw [hh] at hs; exact absurd rfl hs
  · cases h
instance : Inhabited Sli := ⟨nilS⟩
instance : Inhabited Edit := ⟨⟨Item.zero, false⟩⟩
instance : Inhabited Item := ⟨Item.zero⟩
/-- A slice opened at every index. -/
theorem openLs {α : Type} [Inhabited α] {z : Nat} {f : α → List Value} {w : World} {a : Addr} {len cap : Nat} {R : Nat → α → Prop} (hz0 : 0 < z) (hz : ∀ x, (f x).length = z) (hc : len ≤ cap)
    (h : ∀ i, i < len → ∃ x, w.cells? 0 (a.add (i * z)) z = some (f x) ∧ R i x) :
    ∃ xs : List α, xs.length = len ∧ Ls z f w (fun _ => 0) ⟨some a, len, cap⟩ xs ∧ ∀ i x, xs[i]? = some x → R i x := by
  obtain ⟨X, hX⟩ := Go.Deep.choose_lt h
  have hlen : ((List.range len).map X).length = len := by simp
  refine ⟨(List.range len).map X, hlen, ⟨hlen.symm, hc, fun h => (by cases h), fun hne => ?_, hz⟩, fun i x hi => ?_⟩
  · have hl : 0 < len := Nat.pos_of_ne_zero fun h0 => hne (by rw [h0]; rfl)
    obtain ⟨_, _, h1⟩ := World.cells?_some (hX 0 hl).1
    have h2 := h1 0 hz0
    have h3 : (a.add (0 * z)).add 0 = a := by rw [Nat.zero_mul]; rfl
    rw [h3, List.getElem?_eq_getElem (by rw [hz]; exact hz0)] at h2
    obtain ⟨b, off, sp⟩ := a
    have hsp : sp = none := cell_spot h2
    subst hsp
    refine ⟨b, off, rfl, World.block_lt_of_cell? _ _ h2, rfl, fun j hj => ?_⟩
    rw [flat_len hz, hlen] at hj
    have hi : j / z < len := Nat.div_lt_of_lt_mul (by rw [Nat.mul_comm]; exact hj)
    have hr : j % z < z := Nat.mod_lt _ hz0
    obtain ⟨_, _, h4⟩ := World.cells?_some (hX (j / z) hi).1
    have h5 := h4 (j % z) hr
    have e : j / z * z + j % z = j := by rw [Nat.mul_comm]; exact Nat.div_add_mod j z
    rw [add_plain, add_plain, Nat.add_assoc, e] at h5
    have h6 := flat_get (f := f) hz ((List.range len).map X) (j / z) (by rw [hlen]; exact hi) (j % z) hr
    rw [e] at h6
    rw [h5, h6]
    simp
  · have hl : i < len := by have := (List.getElem?_eq_some_iff.1 hi).1; rw [hlen] at this; exact this
    rw [List.getElem?_map, List.getElem?_range hl] at hi
    injection hi with hi
    subst hi
    exact (hX i hl).2
section
variable {H : Type}
theorem bulk_pos (d : DataW H) : 1 ≤ Rows.uptoBulk d := by
  cases d with
  | lit l => cases l <;> simp [Rows.uptoBulk]
  | _ => simp [Rows.uptoBulk]
theorem bulk_mem {d : DataW H} : ∀ {l : List (DataW H)}, d ∈ l → Rows.uptoBulk d ≤ Rows.uptoBulkAll l
  | x :: r, h => by
    unfold Rows.uptoBulkAll
    rcases List.mem_cons.1 h with h | h
    · subst h; omega
    · have := bulk_mem h; omega
theorem bulk_sum (D : Nat → DataW H) (c : Nat → Nat) : ∀ n, (∀ i, i < n → c i ≤ Rows.uptoBulk (D i)) → sumF c n 0 ≤ Rows.uptoBulkAll ((List.range n).map D) := by
  have happ : ∀ a b : List (DataW H), Rows.uptoBulkAll (a ++ b) = Rows.uptoBulkAll a + Rows.uptoBulkAll b := by
    intro a b
    induction a with
    | nil => simp [Rows.uptoBulkAll]
    | cons x r ih => simp [Rows.uptoBulkAll, ih]; omega
  intro n
  induction n with
  | zero => intro _; exact Nat.zero_le _
  | succ n ih =>
    intro h
    rw [sumF_snoc, List.range_succ, List.map_append, happ]
    have h1 := ih fun i hi => h i (by omega)
    have h2 := h n (by omega)
    simp only [List.map_cons, List.map_nil, Rows.uptoBulkAll, Nat.zero_add]
    omega
end
section
variable {H : Type} {enc : TypeId × Value → H} {P : Program} {w : World} {spare : Nat → Bool}
abbrev Tro (enc : TypeId × Value → H) (P : Program) (w : World) (spare : Nat → Bool) (n : Nat) (t : TypeId) (cs : List Value) := DataW.trod enc P w 0 spare true n t cs
theorem open_field {t : TypeId} {fs : Array Field} {n : Nat} {cs : List Value} {x : DataW H × List MemPlace} (hu : P.underlying t = some (.struct fs)) (h : Tro enc P w spare n t cs = some x) {i : Nat} {ty : TypeId} {off z : Nat}
    (hf : fs[i]?.map (fun f => (f.type, f.offset)) = some (ty, off)) (hz : P.cellsOf ty = z) : ∃ m y, Tro enc P w spare m ty ((cs.drop off).take z) = some y ∧ Rows.uptoBulk y.1 ≤ Rows.uptoBulk x.1 := by
  obtain ⟨xs, m, rfl, rfl, hl, hxs, hall⟩ := DataW.trod_struct hu h
  cases hfi : fs[i]? with
  | none => rw [hfi] at hf; cases hf
  | some f =>
    rw [hfi] at hf
    injection hf with hf
    injection hf with e1 e2
    subst e1 e2 hz
    have h1 := hall i f hfi
    have hi : i < xs.length := by rw [hxs]; exact (Array.getElem?_eq_some_iff.1 hfi).1
    rw [List.getElem?_eq_getElem hi] at h1
    refine ⟨m, _, h1, ?_⟩
    have h2 := bulk_mem (H := H) (List.mem_map_of_mem (f := fun x : DataW H × List MemPlace => x.1) (List.getElem_mem hi))
    show _ ≤ Rows.uptoBulkAll _ + 1
    omega
theorem open_sli {t e : TypeId} {n : Nat} {cs : List Value} {x : DataW H × List MemPlace} (ht : P.underlying t = some (.slice e)) (h : Tro enc P w spare n t cs = some x) : ∃ s : Sli, cs = s.cells := by
  rcases Go.Deep.open_slice ht h with ⟨rfl, _⟩ | ⟨a, len, cap, _, _, _, _, rfl, _⟩
  · exact ⟨nilS, rfl⟩
  · exact ⟨⟨some a, len, cap⟩, rfl⟩
end
def fieldsOf (P : Program) (t : TypeId) : Array Field := match P.underlying t with
  | some (.struct fs) => fs
  | _ => #[]
section
variable {H : Type} {enc : TypeId × Value → H} {w : World} {spare : Nat → Bool}
theorem und50 : Try.prog.underlying 50 = some (.struct (fieldsOf Try.prog 50)) := by kernel_rfl
theorem und48 : Try.prog.underlying 48 = some (.struct (fieldsOf Try.prog 48)) := by kernel_rfl
theorem und55 : Try.prog.underlying 55 = some (.struct (fieldsOf Try.prog 55)) := by kernel_rfl
theorem und27 : Try.prog.underlying 27 = some (.struct (fieldsOf Try.prog 27)) := by kernel_rfl
theorem open_edit {n : Nat} {cs : List Value} {x : DataW H × List MemPlace} (hl : cs.length = 8) (h : Tro enc Try.prog w spare n 55 cs = some x) : ∃ e : Edit, cs = e.cells ∧ e.it.key.size ≤ Rows.uptoBulk x.1 := by
  match cs, hl with
  | [c0, c1, c2, c3, c4, c5, c6, c7], _ =>
    obtain ⟨m, y, hi, hb1⟩ := open_field und55 h (i := 0) (ty := 50) (off := 0) (z := 7) (by kernel_rfl) (by kernel_rfl)
    obtain ⟨m1, y1, hg, _⟩ := open_field und55 h (i := 1) (ty := 4) (off := 7) (z := 1) (by kernel_rfl) (by kernel_rfl)
    have hi : Tro enc Try.prog w spare m 50 [c0, c1, c2, c3, c4, c5, c6] = some y := hi
    have hg : Tro enc Try.prog w spare m1 4 [c7] = some y1 := hg
    obtain ⟨m2, y2, hk, hb2⟩ := open_field und50 hi (i := 0) (ty := 9) (off := 0) (z := 1) (by kernel_rfl) (by kernel_rfl)
    obtain ⟨m3, y3, hv, _⟩ := open_field und50 hi (i := 1) (ty := 2) (off := 1) (z := 1) (by kernel_rfl) (by kernel_rfl)
    obtain ⟨m4, y4, hw, _⟩ := open_field und50 hi (i := 2) (ty := 48) (off := 2) (z := 5) (by kernel_rfl) (by kernel_rfl)
    have hk : Tro enc Try.prog w spare m2 9 [c0] = some y2 := hk
    have hv : Tro enc Try.prog w spare m3 2 [c1] = some y3 := hv
    have hw : Tro enc Try.prog w spare m4 48 [c2, c3, c4, c5, c6] = some y4 := hw
    obtain ⟨a0, z0, q0, _⟩ := open_field und48 hw (i := 0) (ty := 3) (off := 0) (z := 1) (by kernel_rfl) (by kernel_rfl)
    obtain ⟨a1, z1, q1, _⟩ := open_field und48 hw (i := 1) (ty := 2) (off := 1) (z := 1) (by kernel_rfl) (by kernel_rfl)
    obtain ⟨a2, z2, q2, _⟩ := open_field und48 hw (i := 2) (ty := 9) (off := 2) (z := 1) (by kernel_rfl) (by kernel_rfl)
    obtain ⟨a3, z3, q3, _⟩ := open_field und48 hw (i := 3) (ty := 45) (off := 3) (z := 1) (by kernel_rfl) (by kernel_rfl)
    obtain ⟨a4, z4, q4, _⟩ := open_field und48 hw (i := 4) (ty := 46) (off := 4) (z := 1) (by kernel_rfl) (by kernel_rfl)
    obtain ⟨key, e0, ek, _⟩ := DataW.trod_string (by kernel_rfl) hk
    obtain ⟨ver, e1, _, _⟩ := DataW.trod_int (k := .i64) (by kernel_rfl) hv
    obtain ⟨gone, e7, _⟩ := DataW.trod_bool (by kernel_rfl) hg
    obtain ⟨knd, e2, _, _⟩ := DataW.trod_int (k := .i64) (cs := [c2]) (by kernel_rfl) q0
    obtain ⟨int, e3, _, _⟩ := DataW.trod_int (k := .i64) (cs := [c3]) (by kernel_rfl) q1
    obtain ⟨txt, e4, _, _⟩ := DataW.trod_string (cs := [c4]) (by kernel_rfl) q2
    obtain ⟨s5, e5⟩ := open_sli (cs := [c5]) (e := 9) (by kernel_rfl) q3
    obtain ⟨s6, e6⟩ := open_sli (cs := [c6]) (e := 48) (by kernel_rfl) q4
    refine ⟨⟨⟨key, ver, knd, int, txt, s5, s6⟩, gone⟩, ?_, ?_⟩
    · injection e0 with e0; injection e1 with e1; injection e2 with e2; injection e3 with e3; injection e4 with e4; injection e5 with e5; injection e6 with e6; injection e7 with e7
      rw [e0, e1, e2, e3, e4, e5, e6, e7]
    · have h1 : Rows.uptoBulk y2.1 = key.data.toList.length + 1 := by rw [ek]; rfl
      have h2 : key.data.toList.length = key.size := Array.length_toList
      show key.size ≤ _
      omega
theorem open_batch {n : Nat} {cs : List Value} {x : DataW H × List MemPlace} (h : Tro enc Try.prog w spare n 63 cs = some x) : ∃ (s : Sli) (es : List Edit), cs = s.cells ∧ Ls 8 Edit.cells w (fun _ => 0) s es ∧ es.length + 1 ≤ Rows.uptoBulk x.1 ∧ ∀ e ∈ es, e.it.key.size ≤ Rows.uptoBulk x.1 := by
  rcases Go.Deep.open_slice (e := 55) (by kernel_rfl) h with ⟨rfl, rfl⟩ | ⟨a, len, cap, m, k, D, Pl, rfl, _, hc, _, hm, rfl, hall⟩
  · exact ⟨nilS, [], rfl, Ls.void _ _ Edit.size, Nat.le_refl _, fun _ h => nomatch h⟩
  · have hlm : len ≤ m := by rw [hm]; split <;> omega
    have hb : sumF (fun i => Rows.uptoBulk (D i)) len 0 ≤ Rows.uptoBulkAll ((List.range len).map D) := bulk_sum D _ len fun i _ => Nat.le_refl _
    have hb1 : sumF (fun _ => 1) len 0 ≤ sumF (fun i => Rows.uptoBulk (D i)) len 0 := sumF_le len 0 fun i _ _ => bulk_pos _
    rw [sumF_const] at hb1
    have hb2 : Rows.uptoBulk (DataW.slice ((List.range len).map D) ((List.range (m - len)).map fun j => D (len + j))) = Rows.uptoBulkAll ((List.range len).map D) + Rows.uptoBulkAll ((List.range (m - len)).map fun j => D (len + j)) + 1 := rfl
    obtain ⟨xs, hx1, hx2, hx3⟩ := openLs (α := Edit) (z := 8) (f := Edit.cells) (w := w) (a := a) (len := len) (cap := cap) (R := fun i e => e.it.key.size ≤ Rows.uptoBulk (D i)) (by decide) Edit.size hc fun i hi => by
      obtain ⟨cs', h1, h2⟩ := hall i (by omega)
      rw [show Try.prog.cellsOf 55 = 8 from by kernel_rfl] at h1
      obtain ⟨_, hl, _⟩ := World.cells?_some h1
      obtain ⟨e, he, hk⟩ := open_edit hl h2
      exact ⟨e, by rw [h1, he], hk⟩
    refine ⟨⟨some a, len, cap⟩, xs, rfl, hx2, ?_, fun e he => ?_⟩
    · show xs.length + 1 ≤ Rows.uptoBulk _
      rw [hb2, hx1]; omega
    · obtain ⟨i, hi⟩ := List.getElem?_of_mem he
      have h3 := hx3 i e hi
      have hil : i < len := by rw [← hx1]; exact (List.getElem?_eq_some_iff.1 hi).1
      have h4 := bulk_mem (H := H) (List.mem_map_of_mem (f := D) (List.mem_range.2 hil))
      show _ ≤ Rows.uptoBulk _
      rw [hb2]; omega
theorem open_batches {n : Nat} {cs : List Value} {x : DataW H × List MemPlace} (h : Tro enc Try.prog w spare n 25 cs = some x) : ∃ (sb : Sli) (bs : List Sli) (ess : List (List Edit)), cs = sb.cells ∧ Ls 1 Sli.cells w (fun _ => 0) sb bs ∧ Bs w (fun _ => 0) bs ess ∧
    ess.length + ess.flatten.length ≤ Rows.uptoBulk x.1 ∧ ∀ es ∈ ess, ∀ e ∈ es, e.it.key.size ≤ Rows.uptoBulk x.1 := by
  rcases Go.Deep.open_slice (e := 63) (by kernel_rfl) h with ⟨rfl, rfl⟩ | ⟨a, len, cap, m, k, D, Pl, rfl, _, hc, _, hm, rfl, hall⟩
  · exact ⟨nilS, [], [], rfl, Ls.void _ _ Sli.size1, ⟨rfl, fun i b es h => by simp at h⟩, Nat.zero_le _, fun _ h => nomatch h⟩
  · have hlm : len ≤ m := by rw [hm]; split <;> omega
    have hb2 : Rows.uptoBulk (DataW.slice ((List.range len).map D) ((List.range (m - len)).map fun j => D (len + j))) = Rows.uptoBulkAll ((List.range len).map D) + Rows.uptoBulkAll ((List.range (m - len)).map fun j => D (len + j)) + 1 := rfl
    have hone : ∀ i, i < len → ∃ q : Sli × List Edit, w.cells? 0 (a.add (i * 1)) 1 = some q.1.cells ∧ Ls 8 Edit.cells w (fun _ => 0) q.1 q.2 ∧ q.2.length + 1 ≤ Rows.uptoBulk (D i) ∧ ∀ e ∈ q.2, e.it.key.size ≤ Rows.uptoBulk (D i) := fun i hi => by
      obtain ⟨cs', h1, h2⟩ := hall i (by omega)
      rw [show Try.prog.cellsOf 63 = 1 from by kernel_rfl] at h1
      obtain ⟨s, es, q1, q2, q3, q4⟩ := open_batch h2
      exact ⟨(s, es), by rw [h1, q1], q2, q3, q4⟩
    obtain ⟨X, hX⟩ := Go.Deep.choose_lt (α := Sli × List Edit) hone
    obtain ⟨bs, hx1, hx2, hx3⟩ := openLs (α := Sli) (z := 1) (f := Sli.cells) (w := w) (a := a) (len := len) (cap := cap) (R := fun i s => s = (X i).1) (by decide) Sli.size1 hc fun i hi => ⟨(X i).1, (hX i hi).1, rfl⟩
    have hE : ∀ i, i < len → ((List.range len).map fun i => (X i).2)[i]? = some (X i).2 := fun i hi => by rw [List.getElem?_map, List.getElem?_range hi]; rfl
    have hsum : sumF (fun i => (X i).2.length + 1) len 0 ≤ Rows.uptoBulkAll ((List.range len).map D) := bulk_sum D _ len fun i hi => (hX i hi).2.2.1
    rw [sumF_add, sumF_const] at hsum
    have hfl : ((List.range len).map fun i => (X i).2).flatten.length = sumF (fun i => (X i).2.length) len 0 := by rw [← List.flatMap_def, flat_sum]
    refine ⟨⟨some a, len, cap⟩, bs, (List.range len).map fun i => (X i).2, rfl, hx2, ⟨by simp [hx1], fun i b es hb he => ?_⟩, ?_, fun es hes e he => ?_⟩
    · have hil : i < len := by rw [← hx1]; exact (List.getElem?_eq_some_iff.1 hb).1
      rw [hE i hil] at he
      injection he with he
      rw [hx3 i b hb, ← he]; exact (hX i hil).2.1
    · show _ ≤ Rows.uptoBulk _
      rw [hb2, hfl, List.length_map, List.length_range]; omega
    · obtain ⟨i, hi, rfl⟩ := List.mem_map.1 hes
      have hil := List.mem_range.1 hi
      have h3 := (hX i hil).2.2.2 e he
      have h4 := bulk_mem (H := H) (List.mem_map_of_mem (f := D) hi)
      show _ ≤ Rows.uptoBulk _
      rw [hb2]; omega
/-- A story, opened. -/
theorem open_story {base : Nat} {v : Value} {d : DataW H} {ps : List MemPlace} (hv : Value.okWide Try.prog w .any base 27 v) (h : DataW.Trod enc Try.prog w 0 spare true 27 v d ps) : ∃ (sb : Sli) (bs : List Sli) (ess : List (List Edit)) (most lost : Int), v = .agg #[.slice sb.a sb.n sb.c, .int .i64 most, .int .i64 lost] ∧
    Ls 1 Sli.cells w (fun _ => 0) sb bs ∧ Bs w (fun _ => 0) bs ess ∧ ess.length + ess.flatten.length ≤ Rows.uptoBulk d ∧ ∀ es ∈ ess, ∀ e ∈ es, e.it.key.size ≤ Rows.uptoBulk d := by
  unfold Value.okWide at hv
  rw [und27] at hv
  obtain ⟨cs, rfl, hs, _⟩ := hv
  obtain ⟨n, hn⟩ := h
  rw [show Try.prog.cellsOf 27 = 3 from by kernel_rfl] at hs
  have hn : Tro enc Try.prog w spare n 27 cs.toList = some (d, ps) := hn
  match hcs : cs.toList, (by rw [Array.length_toList]; exact hs : cs.toList.length = 3) with
  | [c0, c1, c2], _ =>
    rw [hcs] at hn
    obtain ⟨m, y, hi, hb⟩ := open_field und27 hn (i := 0) (ty := 25) (off := 0) (z := 1) (by kernel_rfl) (by kernel_rfl)
    obtain ⟨m1, y1, h1, _⟩ := open_field und27 hn (i := 1) (ty := 3) (off := 1) (z := 1) (by kernel_rfl) (by kernel_rfl)
    obtain ⟨m2, y2, h2, _⟩ := open_field und27 hn (i := 2) (ty := 3) (off := 2) (z := 1) (by kernel_rfl) (by kernel_rfl)
    obtain ⟨sb, bs, ess, e0, q1, q2, q3, q4⟩ := open_batches (cs := [c0]) hi
    obtain ⟨most, e1, _, _⟩ := DataW.trod_int (k := .i64) (cs := [c1]) (by kernel_rfl) h1
    obtain ⟨lost, e2, _, _⟩ := DataW.trod_int (k := .i64) (cs := [c2]) (by kernel_rfl) h2
    injection e0 with e0; injection e1 with e1; injection e2 with e2
    have hb : Rows.uptoBulk y.1 ≤ Rows.uptoBulk d := hb
    refine ⟨sb, bs, ess, most, lost, ?_, q1, q2, by omega, fun es hes e he => Nat.le_trans (q4 es hes e he) hb⟩
    have : cs = #[c0, c1, c2] := by rw [← Array.toList_inj]; exact hcs
    rw [this, e0, e1, e2]
/-- An edit, opened. -/
theorem open_editV {base : Nat} {v : Value} {d : DataW H} {ps : List MemPlace} (hv : Value.okWide Try.prog w .any base 55 v) (h : DataW.Trod enc Try.prog w 0 spare true 55 v d ps) : ∃ e : Edit, v = .agg e.cells.toArray ∧ e.it.key.size ≤ Rows.uptoBulk d := by
  unfold Value.okWide at hv
  rw [und55] at hv
  obtain ⟨cs, rfl, hs, _⟩ := hv
  obtain ⟨n, hn⟩ := h
  rw [show Try.prog.cellsOf 55 = 8 from by kernel_rfl] at hs
  obtain ⟨e, he, hk⟩ := open_edit (by rw [← hs]; exact Array.length_toList) (show Tro enc Try.prog w spare n 55 cs.toList = some (d, ps) from hn)
  exact ⟨e, by rw [← he], hk⟩
end

namespace bounds
theorem own : ownKnob Try.prog.godebug = none := by kernel_rfl
set_option maxRecDepth 100000 in
theorem contract (H : Type) (enc : TypeId × Value → H) (W : World) (base : Nat) (args : Array Value) (ds gs : List (DataW H)) (before : List MemPlace)
    (hval : ∀ (j : Nat) t v, Try.f6.params[j]? = some t → args[j]? = some v → Value.okWide Try.prog W .any base t v)
    (hW : DataW.Whole enc Try.prog Try.f6.params.toList Rows.trieBoundsSpec.vars false W args.toList ds gs before) (hk : Rows.uptoSmall H (ds ++ gs) = true) :
    Calls Try.prog 6 args W fun e W' => ∃ v, e = .returned v ∧ Rows.trieBoundsSpec.post enc Try.prog Try.f6 false true false false W args v W' := by
  have hW' := hW
  obtain ⟨p, q, hA, hV, rfl, hfz, hnd⟩ := hW
  have hA0 : DataW.TrodAll enc Try.prog W 0 (fun _ => true) true Try.f6.params.toList args.toList ds p := hA
  rw [Try.params6] at hA0 hval
  obtain ⟨v0, v1, d0, d1, p0, p1, rfl, rfl, rfl, h0, h1⟩ := trodAll_two hA0
  obtain ⟨rfl, rfl⟩ := trodVars_none hV
  have hk0 := of_decide_eq_true hk
  simp only [List.append_nil, Rows.uptoBulkAll] at hk0
  obtain ⟨sb, bs, ess, most, lost, rfl, q1, q2, q3, q4⟩ := open_story (hval 0 27 v0 rfl rfl) h0
  obtain ⟨e, rfl, e1⟩ := open_editV (hval 1 55 v1 rfl rfl) h1
  refine (trieBounds_c sb bs ess most lost e W (fun _ => 0) q1 q2 (by omega) (fun es hes x hx => by have := q4 es hes x hx; omega) (by omega)).mono fun ε W' ⟨g', he, hg⟩ => ?_
  subst he
  have hlt : ∀ x ∈ p0 ++ p1 ++ [], x.block < W.heap.size := fun x hx => hW'.lt x hx
  have st0 : ∀ sp : Nat → Bool, (∀ x ∈ p0 ++ p1 ++ [], sp x.block = true) → DataW.Trod enc Try.prog W' 0 sp true 27 _ d0 p0 := fun sp hs => WideElems.Trod_stays (by kernel_rfl) (by kernel_rfl) (by decide +kernel) h0 (fun x hx => hg.below.same (hlt x (by simp [hx]))) (fun x hx => hs x (by simp [hx]))
  have st1 : ∀ sp : Nat → Bool, (∀ x ∈ p0 ++ p1 ++ [], sp x.block = true) → DataW.Trod enc Try.prog W' 0 sp true 55 _ d1 p1 := fun sp hs => WideElems.Trod_stays (by kernel_rfl) (by kernel_rfl) (by decide +kernel) h1 (fun x hx => hg.below.same (hlt x (by simp [hx]))) (fun x hx => hs x (by simp [hx]))
  exact ⟨_, rfl, post_mv (pa := p0 ++ p1) (pv := []) hW' hg (fun _ _ _ => (trodAll_cons_mk (shut_bool Try.underlying4 _) trodAll_mk0)) (fun sp hs => by rw [Try.params6]; exact trodAll_mk2 (st0 sp hs) (st1 sp hs)) (fun _ _ => rfl) rfl (ok_one (by kernel_rfl) rfl (okWide_bool_mk Try.underlying4 _))⟩
set_option maxRecDepth 100000 in
theorem lifted (os : Os) (started : os.Started) (H : Type) (enc : TypeId × Value → H) (F : Stop.Interp) :
    ReturnsInHanded {} Try.checked os 6 .any ((Rows.OpenSpec.upto Rows.trieBoundsSpec).pre6 enc Try.prog Try.f6 Rows.trieBoundsUptoRow.domain false) (((Rows.OpenSpec.upto Rows.trieBoundsSpec).at F).post enc Try.prog Try.f6 false true false false) := by
  refine returnsInHanded_of_cond (C := Try.checked) (s := Rows.OpenSpec.upto Rows.trieBoundsSpec) (k := Rows.uptoSmall) rfl own started (by kernel_rfl) Try.func6
    (OpenSpec.witness (enc := enc) (C := Try.checked) (s := Rows.OpenSpec.upto Rows.trieBoundsSpec) (k := Rows.uptoSmall) rfl false ⟨#[], #[.agg #[.slice none 0 0, .int .i64 0, .int .i64 0], .agg #[.string ByteArray.empty, .int .i64 0, .int .i64 0, .int .i64 0, .string ByteArray.empty, .slice none 0 0, .slice none 0 0, .bool false]], []⟩ 8 (by kernel_rfl) (by kernel_rfl) (by kernel_rfl)
      (x := ([.agg [.nil, .lit (.int .i64 0), .lit (.int .i64 0)], .agg [.agg [.lit (.string []), .lit (.int .i64 0), .agg [.lit (.int .i64 0), .lit (.int .i64 0), .lit (.string []), .nil, .nil]], .lit (.bool false)]], [], [])) (by kernel_rfl) rfl (by kernel_rfl)) ?_
  intro W base args ds gs before hval hW _ hk _
  exact contract H enc W base args ds gs before hval hW hk
end bounds
set_option maxRecDepth 100000 in
/-- The theorem. -/
theorem trieBounds_holds : Rows.TrieBoundsUptoSaid :=
  OpenClaim.holds_of_cond 6 Try.f6 rfl rfl rfl rfl rfl rfl rfl ⟨rfl, rfl, rfl, rfl, rfl⟩ rfl rfl rfl rfl rfl (by kernel_rfl) Try.func6 (by kernel_rfl)
    (of_decide_eq_true (by kernel_rfl)) (by unfold Func.isWrapper; first | (rw [if_pos (by decide +kernel)]; kernel_rfl) | (rw [if_neg (by decide +kernel)]; exact ⟨rfl, rfl⟩))
    (fun os started H enc _ F => bounds.lifted os started H enc F)

end Go.Proofs.Ytlfanphdnjoofaa
