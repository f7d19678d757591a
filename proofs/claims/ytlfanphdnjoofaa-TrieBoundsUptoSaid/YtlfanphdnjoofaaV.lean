/- The words and rules by which the other texts walk: frames told by their writes, tags of blocks, what is known of memory, one rule an operation. -/
import Derived.Test.YtlfanphdnjoofaaG
import Derived.Laws.Cells
import Derived.Laws.IdiomCopy
import Derived.Deep.MidRow
import Derived.Scope
namespace Go.Proofs.Ytlfanphdnjoofaa
open Go.RowKit

/-! ### Frames -/
def look : List (Nat × Value) → Nat → Value
  | [], _ => undef
  | (d, v) :: r, t => bif Nat.beq d t then v else look r t

theorem beq_false {a b : Nat} (h : a ≠ b) : Nat.beq a b = false := by
  cases hb : Nat.beq a b with
  | false => rfl
  | true => exact absurd (Nat.eq_of_beq_eq_true hb) h
theorem blt_false {a b : Nat} (h : ¬ a < b) : Nat.blt a b = false := by
  cases hb : Nat.blt a b with
  | false => rfl
  | true => exact absurd (Nat.le_of_ble_eq_true hb) h

/-- A frame of n temporaries, by the writes into it, the newest first. -/
def fr (n : Nat) (ws : List (Nat × Value)) : Act := { tmps := ws.foldr (fun x t => t.setIfInBounds x.1 x.2) (Array.replicate n undef), defers := [] }

def opv (n : Nat) (ws : List (Nat × Value)) : Operand → Value
  | .tmp t => bif Nat.blt t n then look ws t else undef
  | .const v => v
  | .global g => .pointer (some ⟨g, 0, none⟩)
  | .func f => .func (.func f) #[] #[]

theorem fr_size (n : Nat) (ws : List (Nat × Value)) : (fr n ws).tmps.size = n := by
  unfold fr
  induction ws with
  | nil => simp
  | cons x r ih => simpa using ih

theorem look_get (n : Nat) (ws : List (Nat × Value)) (t : Nat) (h : t < n) : (fr n ws).tmps[t]? = some (look ws t) := by
  induction ws with
  | nil => simp [fr, look, h]
  | cons x r ih =>
    obtain ⟨d, v⟩ := x
    have hs := fr_size n r
    show ((fr n r).tmps.setIfInBounds d v)[t]? = _
    rw [Array.getElem?_setIfInBounds]
    by_cases hd : d = t
    · subst hd
      simp [look, hs, h]
    · have : Nat.beq d t = false := beq_false hd
      simp [look, this, hd, ih]

theorem eval_fr (n : Nat) (ws : List (Nat × Value)) : (fr n ws).eval = opv n ws := by
  funext x
  cases x with
  | tmp t =>
    show (fr n ws).tmps.getD t undef = bif Nat.blt t n then look ws t else undef
    by_cases h : t < n
    · have : Nat.blt t n = true := by simpa [Nat.blt_eq] using h
      simp [this, look_get n ws t h]
    · have : Nat.blt t n = false := blt_false h
      have hs := fr_size n ws
      have hge : (fr n ws).tmps.size ≤ t := by rw [hs]; exact Nat.le_of_not_lt h
      simp [this, Array.getElem?_eq_none hge]
  | _ => rfl

/-- The frame behind a write. -/
def wr (ws : List (Nat × Value)) : Option Tmp → Value → List (Nat × Value)
  | some d, v => (d, v) :: ws
  | none, _ => ws

theorem put_fr (n : Nat) (ws : List (Nat × Value)) (d : Option Tmp) (v : Value) : (fr n ws).put d v = fr n (wr ws d v) := by
  cases d <;> rfl

/-! ### Tags: each block has one; 0: nobody writes into it any more; 1: a call's own -/
abbrev Tg := Nat → Nat

/-- A step of the world: of what was there only blocks with the tags T may have changed. -/
structure Mv (T : Nat → Prop) (w : World) (g : Tg) (w' : World) (g' : Tg) : Prop where
  os : w'.os = w.os
  tape : w'.tape = w.tape
  output : w'.output = w.output
  size : w.heap.size ≤ w'.heap.size
  tag : ∀ b, b < w.heap.size → ¬ T (g b) → g' b = g b
  keep : ∀ b, b < w.heap.size → ¬ T (g b) → w'.heap[b]? = w.heap[b]?

theorem Mv.refl (T : Nat → Prop) (w : World) (g : Tg) : Mv T w g w g := ⟨rfl, rfl, rfl, Nat.le_refl _, fun _ _ _ => rfl, fun _ _ _ => rfl⟩
theorem Mv.trans {T : Nat → Prop} {a b c : World} {ga gb gc : Tg} (h : Mv T a ga b gb) (k : Mv T b gb c gc) : Mv T a ga c gc :=
  ⟨k.os.trans h.os, k.tape.trans h.tape, k.output.trans h.output, Nat.le_trans h.size k.size,
    fun i hi hn => (k.tag i (Nat.lt_of_lt_of_le hi h.size) (by rw [h.tag i hi hn]; exact hn)).trans (h.tag i hi hn),
    fun i hi hn => (k.keep i (Nat.lt_of_lt_of_le hi h.size) (by rw [h.tag i hi hn]; exact hn)).trans (h.keep i hi hn)⟩
theorem Mv.mono {T U : Nat → Prop} {a b : World} {ga gb : Tg} (h : Mv T a ga b gb) (hTU : ∀ t, T t → U t) : Mv U a ga b gb :=
  ⟨h.os, h.tape, h.output, h.size, fun i hi hn => h.tag i hi fun ht => hn (hTU _ ht), fun i hi hn => h.keep i hi fun ht => hn (hTU _ ht)⟩
theorem Mv.drew {T : Nat → Prop} {a b : World} {ga gb : Tg} (h : Mv T a ga b gb) : Mv T a ga b.drew gb := ⟨h.os, h.tape, h.output, h.size, h.tag, h.keep⟩
theorem Mv.cell {T : Nat → Prop} {a b : World} {ga gb : Tg} (h : Mv T a ga b gb) {p : Addr} (hp : p.block < a.heap.size) (hn : ¬ T (ga p.block)) : b.cell? p = a.cell? p :=
  World.cell?_of_block (w := a) (h.keep p.block hp hn)
/-- Anything but what nobody writes. -/
abbrev Up := Mv (fun t => t ≠ 0)

/-- Block b is known whole: its cells; it may be written. -/
def Blk (w : World) (b : Nat) (T : TypeId) (cs : List Value) : Prop := w.heap[b]? = some (.cells cs.toArray T (0, 0))
theorem Blk.cell {w : World} {b : Nat} {T : TypeId} {cs : List Value} (h : Blk w b T cs) (i : Nat) : w.cell? ⟨b, i, none⟩ = cs[i]? := by
  rw [cell_of_row w b i cs.toArray T (0, 0) h]; simp
theorem Blk.frozen {w : World} {b : Nat} {T : TypeId} {cs : List Value} (h : Blk w b T cs) (i : Nat) : w.frozen? ⟨b, i, none⟩ = false := frozen_of_row w b i cs.toArray T h
theorem Blk.lt {w : World} {b : Nat} {T : TypeId} {cs : List Value} (h : Blk w b T cs) : b < w.heap.size := by
  rcases Nat.lt_or_ge b w.heap.size with h' | h'
  · exact h'
  · unfold Blk at h; rw [Array.getElem?_eq_none h'] at h; cases h
theorem Blk.mv {T : Nat → Prop} {w w' : World} {g g' : Tg} {b : Nat} {E : TypeId} {cs : List Value} (h : Blk w b E cs) (m : Mv T w g w' g') (hn : ¬ T (g b)) : Blk w' b E cs := (m.keep b h.lt hn).trans h
theorem Blk.drew {w : World} {b : Nat} {T : TypeId} {cs : List Value} (h : Blk w b T cs) : Blk w.drew b T cs := h

theorem setCells_heap (b : Nat) : ∀ (vs : List Value) (o : Nat) (w : World) (T : TypeId) (cs : List Value), Blk w b T cs → o + vs.length ≤ cs.length →
    Blk (w.setCells b o vs) b T (cs.take o ++ vs ++ cs.drop (o + vs.length))
  | [], o, w, T, cs, h, _ => by simpa [World.setCells] using h
  | v :: r, o, w, T, cs, h, hl => by
    simp only [List.length_cons] at hl
    have h1 : Blk (w.setCell ⟨b, o, none⟩ v) b T (cs.set o v) := by
      have := heap_setCell_same w b o cs.toArray T v h
      unfold Blk; rw [this]; simp
    have h2 := setCells_heap b r (o + 1) _ T _ h1 (by simp; omega)
    rw [World.setCells]
    have e : (cs.set o v).take (o + 1) ++ r ++ (cs.set o v).drop (o + 1 + r.length) = cs.take o ++ (v :: r) ++ cs.drop (o + (r.length + 1)) := by
      have e1 : (cs.set o v).take (o + 1) = cs.take o ++ [v] := by
        rw [List.take_succ_eq_append_getElem (by simp; omega)]
        simp [List.take_set_of_le]
      have e2 : (cs.set o v).drop (o + 1 + r.length) = cs.drop (o + (r.length + 1)) := by
        rw [List.drop_set_of_lt (by omega)]
        congr 1; omega
      rw [e1, e2]; simp
    rw [e] at h2
    exact h2
theorem setCells_other (b : Nat) : ∀ (vs : List Value) (o : Nat) (w : World) (k : Nat), k ≠ b → (w.setCells b o vs).heap[k]? = w.heap[k]?
  | [], _, _, _, _ => rfl
  | v :: r, o, w, k, h => by
    rw [World.setCells, setCells_other b r (o + 1) _ k h]
    exact Below.heap_setCell _ _ _ _ h
theorem setCells_size (b : Nat) : ∀ (vs : List Value) (o : Nat) (w : World), (w.setCells b o vs).heap.size = w.heap.size
  | [], _, _ => rfl
  | v :: r, o, w => by rw [World.setCells, setCells_size b r]; simp
theorem setCells_rest (b : Nat) : ∀ (vs : List Value) (o : Nat) (w : World), (w.setCells b o vs).os = w.os ∧ (w.setCells b o vs).tape = w.tape ∧ (w.setCells b o vs).output = w.output
  | [], _, _ => ⟨rfl, rfl, rfl⟩
  | v :: r, o, w => by rw [World.setCells]; exact setCells_rest b r (o + 1) _

theorem Mv.setCells (w : World) (g : Tg) (b o : Nat) (vs : List Value) : Mv (fun t => t = g b) w g (w.setCells b o vs) g := by
  obtain ⟨h1, h2, h3⟩ := setCells_rest b vs o w
  exact ⟨h1, h2, h3, by rw [setCells_size]; exact Nat.le_refl _, fun _ _ _ => rfl, fun k _ hk => setCells_other b vs o w k fun e => hk (by rw [e])⟩

/-- The tags behind a new block. -/
def tagged (g : Tg) (b t : Nat) : Tg := fun i => bif Nat.beq i b then t else g i
theorem tagged_same (g : Tg) (b t : Nat) : tagged g b t b = t := by simp [tagged]
theorem tagged_ne (g : Tg) (b t i : Nat) (h : i ≠ b) : tagged g b t i = g i := by
  have : Nat.beq i b = false := beq_false h
  simp [tagged, this]
theorem Mv.alloc (T : Nat → Prop) (w : World) (g : Tg) (o : Obj) (t : Nat) : Mv T w g (w.alloc o) (tagged g w.heap.size t) :=
  ⟨rfl, rfl, rfl, by simp, fun b hb _ => tagged_ne _ _ _ _ (by omega), fun k hk _ => Below.heap_alloc _ _ _ hk⟩

/-! ### What is known in the midst of a call -/
abbrev KB := Nat × TypeId × List Value

/-- From the call's beginning (w0, g0) only blocks with the tags T have changed; the blocks of L are the call's own, and known whole. -/
structure Kn (T : Nat → Prop) (w0 : World) (g0 : Tg) (L : List KB) (w : World) (g : Tg) : Prop where
  mv : Mv T w0 g0 w g
  blk : ∀ x ∈ L, Blk w x.1 x.2.1 x.2.2
  own : ∀ x ∈ L, w0.heap.size ≤ x.1 ∧ g x.1 = 1
  apart : L.Pairwise (fun x y => x.1 ≠ y.1)

theorem Kn.start (T : Nat → Prop) (w : World) (g : Tg) : Kn T w g [] w g := ⟨Mv.refl _ _ _, by simp, by simp, List.Pairwise.nil⟩
theorem Kn.drew {T : Nat → Prop} {w0 w : World} {g0 g : Tg} {L : List KB} (h : Kn T w0 g0 L w g) : Kn T w0 g0 L w.drew g := ⟨h.mv.drew, h.blk, h.own, h.apart⟩
theorem Kn.nth {T : Nat → Prop} {w0 w : World} {g0 g : Tg} {L : List KB} (h : Kn T w0 g0 L w g) (k : Nat) {b : Nat} {E : TypeId} {cs : List Value} (hk : L[k]? = some (b, E, cs)) : Blk w b E cs := h.blk _ (List.mem_of_getElem? hk)
theorem Kn.tag {T : Nat → Prop} {w0 w : World} {g0 g : Tg} {L : List KB} (h : Kn T w0 g0 L w g) (k : Nat) {b : Nat} {E : TypeId} {cs : List Value} (hk : L[k]? = some (b, E, cs)) : g b = 1 := (h.own _ (List.mem_of_getElem? hk)).2
theorem Kn.sub {T : Nat → Prop} {w0 w : World} {g0 g : Tg} {L L' : List KB} (h : Kn T w0 g0 L w g) (hs : List.Sublist L' L) : Kn T w0 g0 L' w g :=
  ⟨h.mv, fun x hx => h.blk x (hs.subset hx), fun x hx => h.own x (hs.subset hx), h.apart.sublist hs⟩
theorem Kn.tail {T : Nat → Prop} {w0 w : World} {g0 g : Tg} {x : KB} {L : List KB} (h : Kn T w0 g0 (x :: L) w g) : Kn T w0 g0 L w g := h.sub (List.sublist_cons_self _ _)
/-- A new block of the call's own. -/
theorem Kn.new {T : Nat → Prop} {w0 w : World} {g0 g : Tg} {L : List KB} (h : Kn T w0 g0 L w g) (E : TypeId) (cs : List Value) :
    Kn T w0 g0 ((w.heap.size, E, cs) :: L) (w.alloc (.cells cs.toArray E (0, 0))) (tagged g w.heap.size 1) := by
  have m := Mv.alloc T w g (.cells cs.toArray E (0, 0)) 1
  refine ⟨h.mv.trans m, ?_, ?_, ?_⟩
  · intro x hx
    rcases List.mem_cons.1 hx with rfl | hx
    · exact heap_alloc_new w _
    · exact (Below.heap_alloc w _ _ (h.blk x hx).lt).trans (h.blk x hx)
  · intro x hx
    rcases List.mem_cons.1 hx with rfl | hx
    · exact ⟨h.mv.size, tagged_same _ _ _⟩
    · exact ⟨(h.own x hx).1, by rw [tagged_ne _ _ _ _ (Nat.ne_of_lt (h.blk x hx).lt)]; exact (h.own x hx).2⟩
  · exact List.pairwise_cons.2 ⟨fun y hy e => by have := (h.blk y hy).lt; simp at e; omega, h.apart⟩
/-- A step that writes none of the call's own blocks. -/
theorem Kn.step {T U : Nat → Prop} {w0 w w' : World} {g0 g g' : Tg} {L : List KB} (h : Kn T w0 g0 L w g) (m : Mv U w g w' g') (hU : ∀ t, U t → T t) (h1 : ¬ U 1) : Kn T w0 g0 L w' g' :=
  ⟨h.mv.trans (m.mono hU), fun x hx => (h.blk x hx).mv m (by rw [(h.own x hx).2]; exact h1),
   fun x hx => ⟨(h.own x hx).1, by rw [m.tag _ (h.blk x hx).lt (by rw [(h.own x hx).2]; exact h1)]; exact (h.own x hx).2⟩, h.apart⟩
/-- A store into the k-th block. -/
theorem Kn.set {T : Nat → Prop} {w0 w : World} {g0 g : Tg} {L : List KB} (h : Kn T w0 g0 L w g) (k : Nat) {b : Nat} {E : TypeId} {cs : List Value} (hk : L[k]? = some (b, E, cs)) (o : Nat) (vs : List Value)
    (hl : o + vs.length ≤ cs.length) : Kn T w0 g0 (L.set k (b, E, cs.take o ++ vs ++ cs.drop (o + vs.length))) (w.setCells b o vs) g := by
  have hkl : k < L.length := (List.getElem?_eq_some_iff.1 hk).1
  have e2 : L[k] = (b, E, cs) := (List.getElem?_eq_some_iff.1 hk).2
  have hb := h.nth k hk
  have hp := List.pairwise_iff_getElem.1 h.apart
  have hap : ∀ j x, L[j]? = some x → j ≠ k → x.1 ≠ b := by
    intro j x hj hjk
    have hjl : j < L.length := (List.getElem?_eq_some_iff.1 hj).1
    have e1 : L[j] = x := (List.getElem?_eq_some_iff.1 hj).2
    rcases Nat.lt_or_gt_of_ne hjk with hlt | hgt
    · have := hp j k hjl hkl hlt; rw [e1, e2] at this; exact this
    · have := hp k j hkl hjl hgt; rw [e1, e2] at this; exact fun e => this e.symm
  have hob := h.own _ (List.mem_of_getElem? hk)
  have m := Mv.setCells w g b o vs
  refine ⟨⟨m.os.trans h.mv.os, m.tape.trans h.mv.tape, m.output.trans h.mv.output, Nat.le_trans h.mv.size m.size, fun i hi hn => h.mv.tag i hi hn, fun i hi hn => ?_⟩, ?_, ?_, ?_⟩
  · have := hob.1
    simp at this
    exact (setCells_other b vs o w i (by omega)).trans (h.mv.keep i hi hn)
  · intro x hx
    obtain ⟨j, hj⟩ := List.mem_iff_getElem?.1 hx
    rw [List.getElem?_set] at hj
    by_cases hjk : k = j
    · subst hjk
      rw [if_pos rfl, if_pos hkl] at hj
      injection hj with hj; subst hj
      exact setCells_heap b vs o w E cs hb hl
    · rw [if_neg hjk] at hj
      exact (setCells_other b vs o w _ (hap j x hj (fun e => hjk e.symm))).trans (h.blk x (List.mem_of_getElem? hj))
  · intro x hx
    obtain ⟨j, hj⟩ := List.mem_iff_getElem?.1 hx
    rw [List.getElem?_set] at hj
    by_cases hjk : k = j
    · subst hjk
      rw [if_pos rfl, if_pos hkl] at hj
      injection hj with hj; subst hj
      exact hob
    · rw [if_neg hjk] at hj
      exact h.own x (List.mem_of_getElem? hj)
  · refine List.pairwise_iff_getElem.2 ?_
    intro p q hpl hql hpq
    simp only [List.length_set] at hpl hql
    have := hp p q hpl hql hpq
    simp only [List.getElem_set]
    split <;> split <;> rename_i e3 e4
    · omega
    · subst e3; rw [e2] at this; exact this
    · subst e4; rw [e2] at this; exact this
    · exact this

/-! ### Types -/
/-- A type of one cell; a type of n cells, a struct or an array. -/
def One (P : Program) (T : TypeId) : Prop := (P.underlying T).map (fun d => d.isRow) = some false ∧ (P.info? T).map (·.size) = some 1
def Agg (P : Program) (T : TypeId) (n : Nat) : Prop := (P.underlying T).map (fun d => d.isRow) = some true ∧ (P.info? T).map (·.size) = some n

theorem run_load_one {P : Program} {T : TypeId} (hT : One P T) {w : World} {b i : Nat} {v : Value} (hc : w.cell? ⟨b, i, none⟩ = some v) :
    (Instr.loadAt T (.pointer (some ⟨b, i, none⟩))).run P w = .ok v w := by
  obtain ⟨h1, h2⟩ := hT
  cases hu : P.underlying T with
  | none => simp [hu] at h1
  | some d =>
    have hagg : (isAgg T).run P w = .ok false w := by
      unfold isAgg
      rw [Sem.run_bind, run_underlying hu w]
      simp [hu] at h1
      cases d <;> simp_all
    simp [Instr.loadAt, Instr.sureAddr, loadVar, Sem.run_bind, hagg, hc]
theorem run_load_agg {P : Program} {T : TypeId} {n : Nat} (hT : Agg P T n) {w : World} {b o : Nat} {cs : List Value} (hn : cs.length = n) (hc : ∀ j, j < n → w.cell? ⟨b, o + j, none⟩ = cs[j]?) :
    (Instr.loadAt T (.pointer (some ⟨b, o, none⟩))).run P w = .ok (.agg cs.toArray) w := by
  obtain ⟨h1, h2⟩ := hT
  cases hu : P.underlying T with
  | none => simp [hu] at h1
  | some d =>
    refine run_loadAt_mid w b o T cs d ?_ hu (by simpa [hu] using h1) (by rw [h2, hn])
    intro j v hj
    have hjl : j < cs.length := (List.getElem?_eq_some_iff.1 hj).1
    rw [hc j (by omega), hj]
theorem run_store_any {P : Program} {T : TypeId} {n : Nat} (hT : (P.info? T).map (·.size) = some n) {w : World} {b o : Nat} {E : TypeId} {cs : List Value} (hb : Blk w b E cs) (v : Value) (vs : List Value)
    (hv : v.cells = vs.toArray) (hn : vs.length = n) (hl : o + n ≤ cs.length) (h1 : vs.all (·.oneCell') = true) :
    (Instr.storeAt T (.pointer (some ⟨b, o, none⟩)) v).run P w = .ok () (w.setCells b o vs) := by
  have ht : ∀ j, j < vs.length → (w.cell? ⟨b, o + 0 + j, none⟩).isSome = true := fun j hj => by
    rw [hb.cell, List.getElem?_eq_getElem (by omega)]; rfl
  have hf : ∀ j, j < vs.length → w.frozen? ⟨b, o + 0 + j, none⟩ = false := fun j _ => hb.frozen _
  have := run_storeCells_cells (P := P) b o vs 0 w ht hf (fun v hv => List.all_eq_true.1 h1 v hv)
  cases hq : P.info? T with
  | none => simp [hq] at hT
  | some i =>
    have hs : i.size = vs.length := by simp [hq] at hT; omega
    simp only [Nat.add_zero] at this
    simp [Instr.storeAt, Instr.sureAddr, storeVar, sizeOf, typeInfo, hq, hv, hs, this]
end Go.Proofs.Ytlfanphdnjoofaa
