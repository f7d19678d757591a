/- Parts of slices: slice expressions; an append within the row; clear. -/
import Derived.Test.YtlfanphdnjoofaaS
import Derived.Laws.IdiomStrings
namespace Go.Proofs.Ytlfanphdnjoofaa
open Go.RowKit
set_option linter.unusedVariables false

/-- The part from l to h, of the capacity up to m. -/
def Sli.sub (s : Sli) (z l h m : Nat) : Sli := ⟨if m = l then s.a else s.a.map (·.add (l * z)), h - l, m - l⟩

section
variable {P : Program} {n : Nat} {ws : List (Nat × Value)} {o : Oper} {u : World}
/-- What a bound of a slice expression says. -/
def Bnd (v : Option Value) (d k : Nat) : Prop := (v = none ∧ k = d) ∨ ∃ kk : IntKind, v = some (.int kk (k : Int))
theorem run_bound {x : Value} {k y : Nat} {kk : IntKind} {code : BoundsCode} (hx : x = .int kk (k : Int)) (h : k ≤ y) : (Instr.sliceBound x y code).run P u = .ok k u := by
  subst hx
  rw [run_sliceBound u kk (k : Int) y code (by omega) (by omega)]
  simp
theorem exec_slice {T E : TypeId} {x : Operand} {lo hi mx : Option Operand} {s : Sli} {z l h m : Nat} (ho : o.op = .slice T x lo hi mx) (hT : P.underlying T = some (.slice E)) (hs : (P.info? E).map (·.size) = some z)
    (hx : opv n ws x = s.v) (hm : Bnd (mx.map (opv n ws)) s.c m) (hh : Bnd (hi.map (opv n ws)) s.n h) (hl : Bnd (lo.map (opv n ws)) 0 l) (hn : hi = none → mx = none) (h1 : l ≤ h) (h2 : h ≤ m) (h3 : m ≤ s.c) (h4 : s.n ≤ s.c) :
    (execOp (opv n ws) o).run P u = .ok (.value (s.sub z l h m).v) u := by
  unfold execOp
  simp only [ho, hx]
  have hb : (Instr.sliceBounds true s.n s.c (lo.map (opv n ws)) (hi.map (opv n ws)) (mx.map (opv n ws))).run P u = .ok (l, h, m) u := by
    unfold Instr.sliceBounds
    generalize lo.map (opv n ws) = lo' at *
    have hn' : hi.map (opv n ws) = none → mx.map (opv n ws) = none := by
      intro e
      cases hi with
      | none => rw [hn rfl]; rfl
      | some _ => cases e
    generalize hi.map (opv n ws) = hi' at *
    generalize mx.map (opv n ws) = mx' at *
    rcases hm with ⟨rfl, rfl⟩ | ⟨km, rfl⟩
    · rcases hh with ⟨rfl, rfl⟩ | ⟨kh, rfl⟩
      · rcases hl with ⟨rfl, rfl⟩ | ⟨kl, rfl⟩
        · rfl
        · simp [Sem.run_bind, run_bound rfl h1]
      · rcases hl with ⟨rfl, rfl⟩ | ⟨kl, rfl⟩
        · simp [Sem.run_bind, run_bound rfl h2]
        · simp [Sem.run_bind, run_bound rfl h2, run_bound rfl h1]
    · rcases hh with ⟨rfl, rfl⟩ | ⟨kh, rfl⟩
      · have := hn' rfl; cases this
      · rcases hl with ⟨rfl, rfl⟩ | ⟨kl, rfl⟩
        · simp [Sem.run_bind, run_bound rfl h2, run_bound rfl h3]
        · simp [Sem.run_bind, run_bound rfl h2, run_bound rfl h1, run_bound rfl h3]
  have : (Instr.sliceAt T s.v (lo.map (opv n ws)) (hi.map (opv n ws)) (mx.map (opv n ws))).run P u = .ok (s.sub z l h m).v u := by
    cases hq : P.info? E with
    | none => simp [hq] at hs
    | some q =>
      have hsz : q.size = z := by simpa [hq] using hs
      simp [Instr.sliceAt, Instr.slice, Sem.run_bind, run_underlying hT, hb, sizeOf, typeInfo, hq, hsz, Sli.sub]
  rw [Sem.run_bind, this]
  rfl
end

section
variable {α : Type} {t : Nat} {E : TypeId} {z : Nat} {f : α → List Value} {w w' : World} {g g' : Tg} {s : Sli} {xs : List α}
theorem Gs.upto (h : Gs t E z f w g s xs) (k : Nat) (hk : k ≤ xs.length) : Gs t E z f w g ⟨s.a, k, s.c⟩ (xs.take k) := by
  have hl : (xs.take k).length = k := by rw [List.length_take]; omega
  refine ⟨hl.symm, h.size, ⟨by rw [flat_len h.size, hl], ?_⟩, h.tag⟩
  rcases h.row.2 with ⟨h1, h2⟩ | ⟨b, cap, cur, hv, hb1, hb2, hb3, hb4, hb5, hb6⟩
  · have h3 : k = 0 := by have := h.len; omega
    refine .inl ⟨?_, h3⟩
    injection h1 with e1 e2 e3
    show Value.slice s.a k s.c = _
    rw [e1, e3, h3]
  · injection hv with e1 e2 e3
    refine .inr ⟨b, cap, cur, by show Value.slice s.a k s.c = _; rw [e1, e3], hb1, hb2, by have := h.len; show k ≤ cap; omega, hb4, hb5, ?_⟩
    have e : xs.flatMap f = (xs.take k).flatMap f ++ (xs.drop k).flatMap f := by rw [← List.flatMap_append, List.take_append_drop]
    have e2 : k * z ≤ s.n * z := Nat.mul_le_mul_right z (by have := h.len; omega)
    have hk2 : ((xs.take k).flatMap f).length = k * z := by rw [flat_len h.size, hl]
    rw [show cur.toList.take (k * z) = (cur.toList.take (s.n * z)).take (k * z) from by rw [List.take_take, Nat.min_eq_left e2], hb6, e, ← hk2]
    exact List.take_left
theorem Sli.sub_zero (h : Gs t E z f w g s xs) (k m : Nat) (hm : m ≤ s.c) : (s.sub z 0 k m).v = .slice s.a k m := by
  unfold Sli.sub
  simp only [Nat.sub_zero]
  split
  · rfl
  · rcases h.row.2 with ⟨h1, h2⟩ | ⟨b, cap, cur, hv, _⟩
    · injection h1 with e1 e2 e3; rw [e1]; rfl
    · injection hv with e1 e2 e3; rw [e1]; simp [Addr.add_mid]
theorem Gs.tailSrc (h : Gs t E z f w g s xs) (j m : Nat) : Src w (s.sub z j xs.length s.c).a ((xs.drop j).flatMap f) := fun hne => by
  have hj : j < xs.length := by
    rcases Nat.lt_or_ge j xs.length with h' | h'
    · exact h'
    · rw [List.drop_eq_nil_of_le h'] at hne; exact absurd rfl hne
  obtain ⟨b, rest, h1, h3, h4⟩ := h.mem (by intro e; simp [e] at hj)
  have hc := h.cap
  have hlen := h.len
  refine ⟨b, 0 + j * z, ?_, fun i hi => ?_⟩
  · unfold Sli.sub
    rw [if_neg (by omega), h1]
    simp [Addr.add_mid]
  · have e : xs.flatMap f = (xs.take j).flatMap f ++ (xs.drop j).flatMap f := by rw [← List.flatMap_append, List.take_append_drop]
    have hk : ((xs.take j).flatMap f).length = j * z := by rw [flat_len h.size, List.length_take]; congr 1; omega
    rw [h4.cell, e, List.append_assoc, List.getElem?_append_right (by omega), hk, Nat.zero_add, Nat.add_sub_cancel_left, List.getElem?_append_left hi]
theorem Ls.sub (h : Ls z f w g s xs) (l k m : Nat) (hl : l ≤ k) (hk : k ≤ xs.length) (hkm : k ≤ m) (hm : m ≤ s.c) : Ls z f w g (s.sub z l k m) ((xs.take k).drop l) := by
  refine ⟨?_, ?_, fun ha => ?_, fun hne => ?_, h.size⟩
  · show k - l = _
    rw [List.length_drop, List.length_take]; omega
  · show k - l ≤ m - l
    omega
  · show m - l = 0
    unfold Sli.sub at ha
    simp only at ha
    split at ha
    · omega
    · have : s.a = none := by cases hs : s.a with
        | none => rfl
        | some _ => rw [hs] at ha; cases ha
      have := h.nil this
      omega
  · have hlk : l < k := by
      rcases Nat.lt_or_ge l k with h' | h'
      · exact h'
      · exact absurd (List.drop_eq_nil_of_le (by rw [List.length_take]; omega)) hne
    obtain ⟨b, o, ha, hb, hg, hc⟩ := h.mem (by intro e; simp [e] at hk; omega)
    refine ⟨b, o + l * z, by unfold Sli.sub; simp only; rw [if_neg (by omega), ha]; simp [Addr.add_mid], hb, hg, fun j hj => ?_⟩
    have e : xs.flatMap f = (xs.take l).flatMap f ++ (((xs.take k).drop l).flatMap f ++ (xs.drop k).flatMap f) := by
      rw [← List.flatMap_append, ← List.flatMap_append]
      congr 1
      have e1 : xs.take l = (xs.take k).take l := by rw [List.take_take, Nat.min_eq_left hl]
      rw [e1, ← List.append_assoc, List.take_append_drop, List.take_append_drop]
    have hk2 : ((xs.take l).flatMap f).length = l * z := by rw [flat_len h.size, List.length_take]; congr 1; omega
    have := hc (l * z + j) (by rw [e, List.length_append, List.length_append]; omega)
    rw [Nat.add_assoc, this, e, List.getElem?_append_right (by omega), hk2, Nat.add_sub_cancel_left, List.getElem?_append_left hj]
theorem Ls.subEnd (h : Ls z f w g s xs) (l m : Nat) (hl : l ≤ xs.length) (hkm : s.n ≤ m) (hm : m ≤ s.c) : Ls z f w g (s.sub z l s.n m) (xs.drop l) := by
  have := h.sub l xs.length m hl (Nat.le_refl _) (by rw [← h.len]; exact hkm) hm
  rw [List.take_length] at this
  rw [h.len]; exact this
theorem Ls.subTo (h : Ls z f w g s xs) (k m : Nat) (hk : k ≤ xs.length) (hkm : k ≤ m) (hm : m ≤ s.c) : Ls z f w g (s.sub z 0 k m) (xs.take k) := by
  have := h.sub 0 k m (Nat.zero_le _) hk hkm hm
  rw [List.drop_zero] at this
  exact this
/-- Within the row there is room. -/
theorem run_append_gsR {P : Program} {bytes : Nat} {T ty : TypeId} (hT : P.underlying T = some (.slice E)) (hE : Elt P E z bytes) (h : Gs t E z f w g s xs) (ys : List α) (a : Option Addr) (c : Nat)
    (hs : Src w a (ys.flatMap f)) (h1 : ∀ y, (f y).all (·.oneCell') = true) {b' : Nat} (hsa : s.a = some ⟨b', 0, none⟩) (hroom : xs.length + ys.length ≤ s.c) :
    ∃ w', (Builtin.append_ #[T, T] ty #[s.v, .slice a ys.length c]).run P w = .ok (.slice s.a (xs.length + ys.length) s.c) w' ∧ Gs t E z f w' g ⟨s.a, xs.length + ys.length, s.c⟩ (xs ++ ys) ∧ Mv (fun x => x = t) w g w' g := by
  obtain ⟨i, zv, hi, hz, hsz, hby, hzs, hpos⟩ := hE.out
  by_cases hy : ys = []
  · subst hy
    have hc := h.cap
    have h0 : ∀ w : World, (Builtin.firstCells i.size 0 (.slice a 0 c)).run P w = .ok #[] w := by
      intro w
      cases a <;> simp [Builtin.firstCells, loadCells, loadCellsFrom]
    have hl := h.len
    refine ⟨w, ?_, by simp only [List.length_nil, Nat.add_zero, List.append_nil]; rw [← hl]; exact h, Mv.refl _ _ _⟩
    simp [Builtin.append_, run_underlying hT, sizeOf, typeInfo, hi, Builtin.lenOf, h0, hsa, hl, storeCells]
    omega
  · subst hsz
    have hyl : 0 < ys.length := List.length_pos_iff.2 hy
    have hfl := flat_len h.size ys
    have hne : ys.flatMap f ≠ [] := by
      intro e
      rw [e] at hfl
      have := Nat.mul_pos hyl hpos
      simp at hfl
      omega
    obtain ⟨b, o, rfl, hc⟩ := hs hne
    have hnews : ∀ j u, (ys.flatMap f)[j]? = some u → w.cell? ((⟨b, o, none⟩ : Addr).add j) = some u := fun j u hj => by
      have hjl : j < (ys.flatMap f).length := (List.getElem?_eq_some_iff.1 hj).1
      rw [Addr.add_mid, hc j hjl, hj]
    have hone : ∀ u ∈ ys.flatMap f, u.oneCell' = true := fun u hu => by
      obtain ⟨y, _, hy⟩ := List.mem_flatMap.1 hu
      exact List.all_eq_true.1 (h1 y) u hy
    rcases h.row.2 with ⟨h2, h3⟩ | ⟨b', cap, cur, hv, hb1, hb2, hb3, hb4, hb5, hb6⟩
    · injection h2 with h2; rw [hsa] at h2; cases h2
    · have hsl := h.len
      have hsa : s.a = some ⟨b', 0, none⟩ := by injection hv
      have hsc : s.c = cap := by injection hv
      obtain ⟨ht, hbl⟩ := h.tag _ hsa
      have hxl := flat_len h.size xs
      have hroom : s.n + ys.length ≤ cap := by omega
      have hfit : s.n * i.size + (ys.flatMap f).length ≤ cur.size := by rw [hfl, hb5, ← Nat.add_mul]; exact Nat.mul_le_mul_right _ hroom
      have hr := run_append_room (P := P) w T ty E i hT hi b' s.n cap cur hb2 ⟨b, o, none⟩ ys.length c (ys.flatMap f) hfl hnews hone hroom hfit
      rw [hsl] at hr
      refine ⟨_, by rw [hv, hsa, hsc, hsl]; exact hr, ⟨by simp, h.size, ⟨?_, .inr ⟨b', cap, _, by rw [hsa, hsc], hb1, setRow_heap w b' cur _ E _ hb2, by show xs.length + ys.length ≤ cap; omega, hb4, ?_, ?_⟩⟩, fun a ha => ?_⟩, ⟨rfl, rfl, rfl, by simp [World.setRow], fun _ _ _ => rfl, fun k _ hk => setRow_other w b' k _ (fun e => hk (by rw [e]; exact ht))⟩⟩
      · rw [flat_len h.size, List.length_append]
      · simp only [List.size_toArray, List.length_append, List.length_take, List.length_drop, Array.length_toList]
        rw [← hsl]; omega
      · rw [← hsl, hb6, List.flatMap_append]
        have e : (s.n + ys.length) * i.size = (xs.flatMap f ++ ys.flatMap f).length := by rw [List.length_append, hxl, hfl, ← Nat.add_mul, hsl]
        show List.take _ (xs.flatMap f ++ ys.flatMap f ++ _) = _
        rw [e]
        exact List.take_left
      · rw [hsa] at ha
        injection ha with ha
        subst ha
        exact ⟨ht, by simpa [World.setRow] using hbl⟩
/-- A zero value's cells are single ones. -/
def ZeroOk (P : Program) (E : TypeId) : Prop := (P.info? E).bind (fun i => i.zero.map (fun v => v.cells.toList.all (·.oneCell'))) = some true
theorem zeroCells_one {zc : Array Value} (h : zc.toList.all (·.oneCell') = true) (h0 : 0 < zc.size) (m : Nat) : ∀ v ∈ (Builtin.zeroCells zc m).toList, v.oneCell' = true := by
  intro v hv
  simp only [Builtin.zeroCells, Array.toList_map, Array.toList_range, List.mem_map, List.mem_range] at hv
  obtain ⟨i, hi, rfl⟩ := hv
  have hlt : i % zc.size < zc.size := Nat.mod_lt _ h0
  rw [getElem!_pos zc _ hlt]
  exact List.all_eq_true.1 h _ (by simp)
theorem Gs.setTail (h : Gs t E z f w g s xs) {b : Nat} (hsa : s.a = some ⟨b, 0, none⟩) (k : Nat) (vs : List Value) (hk : s.n * z ≤ k) (hl : k + vs.length ≤ s.c * z) :
    Gs t E z f (w.setCells b k vs) g s xs ∧ Mv (fun x => x = t) w g (w.setCells b k vs) g ∧ ∃ cs, Blk w b E cs ∧ k + vs.length ≤ cs.length := by
  rcases h.row.2 with ⟨h2, h3⟩ | ⟨b', cap, cur, hv, hb1, hb2, hb3, hb4, hb5, hb6⟩
  · injection h2 with h2; rw [hsa] at h2; cases h2
  · have e1 : s.a = some ⟨b', 0, none⟩ := by injection hv
    have hsc : s.c = cap := by injection hv
    have hbb : b' = b := by rw [hsa] at e1; injection e1 with e1; injection e1 with e1; exact e1.symm
    subst hbb
    obtain ⟨ht, hbl⟩ := h.tag _ hsa
    have hB : Blk w b' E cur.toList := hb2
    have hcl : k + vs.length ≤ cur.toList.length := by
      have e9 : cur.toList.length = s.c * z := by rw [Array.length_toList, hb5, hsc]
      rw [e9]; exact hl
    have hS := setCells_heap b' vs k w E cur.toList hB hcl
    refine ⟨⟨h.len, h.size, ⟨h.row.1, .inr ⟨b', cap, _, hv, hb1, hS, hb3, hb4, ?_, ?_⟩⟩, fun a ha => ?_⟩, (Mv.setCells w g b' k vs).mono fun t' ht' => by rw [ht', ht], cur.toList, hB, hcl⟩
    · simp only [List.size_toArray, List.length_append, List.length_take, List.length_drop, Array.length_toList] at hcl ⊢
      omega
    · rw [← hb6]
      show List.take (s.n * z) (cur.toList.take k ++ vs ++ cur.toList.drop (k + vs.length)) = _
      rw [List.append_assoc, List.take_append_of_le_length (by rw [List.length_take]; omega), List.take_take, Nat.min_eq_left hk]
    · rw [hsa] at ha
      injection ha with ha
      subst ha
      exact ⟨ht, by rw [setCells_size]; exact hbl⟩

variable {P : Program} {ops : Array Oper} {Q : Exit → Act → World → Prop} {n : Nat} {ws : List (Nat × Value)} {o : Oper} {next : List (Nat × Value) → World → Prop}
theorem O.appendR (d : Nat) {bytes : Nat} {T : TypeId} {x y : Operand} (ys : List α) {a : Option Addr} {m c b' : Nat} (hg : Region.wanted o (yieldF n ws ops) = true) (hd : o.dst = some d) (ho : o.op = .call { callee := .builtin .append, args := #[x, y], argTypes := #[T, T] })
    (hT : P.underlying T = some (.slice E)) (hE : Elt P E z bytes) (hx : opv n ws x = s.v) (hy : opv n ws y = .slice a m c) (h : Gs t E z f w g s xs) (hm : m = ys.length)
    (hs : Src w a (ys.flatMap f)) (h1 : ∀ y, (f y).all (·.oneCell') = true) (hsa : s.a = some ⟨b', 0, none⟩) (hroom : xs.length + ys.length ≤ s.c)
    (hn : ∀ w', Gs t E z f w' g ⟨s.a, xs.length + ys.length, s.c⟩ (xs ++ ys) → Mv (fun x => x = t) w g w' g → next ((d, .slice s.a (xs.length + ys.length) s.c) :: ws) w') : OpS P Q ops o n ws w next := by
  subst hm
  obtain ⟨w', hr, hG, hW⟩ := run_append_gsR (ty := o.type) hT hE h ys a c hs h1 hsa hroom
  refine O.run d _ w' hg hd ?_ (hn w' hG hW)
  unfold execOp
  simp only [ho, resolve, invoke, builtin, Sem.run_bind, Sem.run_pure, Result.andThen_ok, List.map_toArray, List.map_cons, List.map_nil, hx, hy, hr]
theorem O.runv (v : Value) (w' : World) (hg : Region.wanted o (yieldF n ws ops) = true) (hd : o.dst = none) (hx : (execOp (opv n ws) o).run P w = .ok (.value v) w')
    (h : next ws w') : OpS P Q ops o n ws w next := by
  unfold OpS
  rw [if_pos hg]
  unfold Oper.wp
  rw [eval_fr, hx, Oper.upon_value, hd, put_fr]
  exact ⟨_, rfl, h⟩
/-- What lies behind the slice's end is cleared. -/
theorem O.clearTail {bytes : Nat} {T : TypeId} {x : Operand} {b' : Nat} (old : Nat) (hg : Region.wanted o (yieldF n ws ops) = true) (hd : o.dst = none) (ho : o.op = .call { callee := .builtin .clear, args := #[x], argTypes := #[T] })
    (hT : P.underlying T = some (.slice E)) (hE : Elt P E z bytes) (hZ : ZeroOk P E) (hx : opv n ws x = (s.sub z s.n old s.c).v) (h : Gs t E z f w g s xs) (hsa : s.a = some ⟨b', 0, none⟩) (ho1 : s.n ≤ old) (ho2 : old ≤ s.c)
    (hn : ∀ w', Gs t E z f w' g s xs → Mv (fun x => x = t) w g w' g → next ws w') : OpS P Q ops o n ws w next := by
  obtain ⟨i, zv, hi, hz, hsz, hby, hzs, hpos⟩ := hE.out
  have hZ1 : zv.cells.toList.all (·.oneCell') = true := by simpa [ZeroOk, hi, hz] using hZ
  by_cases he : s.n = old
  · refine O.runv (.tuple #[]) w hg hd ?_ (hn w h (Mv.refl _ _ _))
    unfold execOp
    have : (Builtin.clear_ #[T] o.type #[(s.sub z s.n old s.c).v]).run P w = .ok (.tuple #[]) w := by
      have e : (s.sub z s.n old s.c).n = 0 := by show old - s.n = 0; omega
      unfold Builtin.clear_
      simp only [Sem.run_bind, run_underlying hT]
      rcases hs : s.sub z s.n old s.c with ⟨a, m, c⟩
      rw [hs] at e
      simp only at e
      subst e
      cases a <;> simp [run_underlying hT]
    simp only [ho, resolve, invoke, builtin, Sem.run_bind, Sem.run_pure, Result.andThen_ok, List.map_toArray, List.map_cons, List.map_nil, hx, this]
  · have e : s.sub z s.n old s.c = ⟨some ⟨b', 0 + s.n * z, none⟩, old - s.n, s.c - s.n⟩ := by
      unfold Sli.sub
      rw [if_neg (by omega), hsa]
      simp [Addr.add_mid]
    have hzl : (Builtin.zeroCells zv.cells (old - s.n)).toList.length = (old - s.n) * z := by rw [Array.length_toList, size_zeroCells, hzs]
    have h2 : s.n * z + (old - s.n) * z ≤ s.c * z := by rw [← Nat.add_mul]; exact Nat.mul_le_mul_right _ (by omega)
    obtain ⟨hG, hM, cs, hB, hcl⟩ := h.setTail hsa (0 + s.n * z) (Builtin.zeroCells zv.cells (old - s.n)).toList (by omega) (by rw [hzl]; omega)
    have hst := run_storeCells_cells (P := P) b' (0 + s.n * z) (Builtin.zeroCells zv.cells (old - s.n)).toList 0 w (fun j hj => by rw [hB.cell, List.getElem?_eq_getElem (by omega)]; rfl) (fun j _ => hB.frozen _) (zeroCells_one hZ1 (by omega) _)
    refine O.runv (.tuple #[]) _ hg hd ?_ (hn _ hG hM)
    unfold execOp
    have : (Builtin.clear_ #[T] o.type #[(s.sub z s.n old s.c).v]).run P w = .ok (.tuple #[]) (w.setCells b' (0 + s.n * z) (Builtin.zeroCells zv.cells (old - s.n)).toList) := by
      have hz2 : (zeroValue E).run P w = .ok zv w := by simp [zeroValue, typeInfo, hi, hz]
      have hne : old - s.n ≠ 0 := by omega
      rw [e]
      unfold Builtin.clear_
      obtain ⟨k, hk⟩ : ∃ k, old - s.n = k + 1 := ⟨old - s.n - 1, by omega⟩
      simp only [Nat.add_zero, Nat.zero_add] at hst ⊢
      rw [hk] at hst ⊢
      simp [run_underlying hT, hz2, hst]
    simp only [ho, resolve, invoke, builtin, Sem.run_bind, Sem.run_pure, Result.andThen_ok, List.map_toArray, List.map_cons, List.map_nil, hx, this]
end
section
variable {P : Program} {n : Nat} {ws : List (Nat × Value)} {o : Oper} {u : World}
/-- An element of an array that is a value. -/
theorem exec_indexA1 {T E : TypeId} {x i : Operand} {cs : List Value} {m k : Nat} {kk : IntKind} {v : Value} (ho : o.op = .index T x i) (hT : P.underlying T = some (.array m E)) (hE : One P E)
    (hx : opv n ws x = .agg cs.toArray) (hi : opv n ws i = .int kk (k : Int)) (hk : k < m) (hc : cs[k]? = some v) : (execOp (opv n ws) o).run P u = .ok (.value v) u := by
  obtain ⟨h1, h2⟩ := hE
  unfold execOp
  simp only [ho, hx, hi]
  have hp : (part E cs.toArray k).run P u = .ok v u := by
    cases hu : P.underlying E with
    | none => simp [hu] at h1
    | some d =>
      have hagg : (isAgg E).run P u = .ok false u := by
        unfold isAgg
        rw [Sem.run_bind, run_underlying hu u]
        simp [hu] at h1
        cases d <;> simp_all
      unfold part
      simp [Sem.run_bind, hagg, hc]
  have : (Instr.index T (.agg cs.toArray) (.int kk (k : Int))).run P u = .ok v u := by
    cases hq : P.info? E with
    | none => simp [hq] at h2
    | some q =>
      have hsz : q.size = 1 := by simpa [hq] using h2
      simp [Instr.index, asIntOf, Sem.run_bind, run_underlying hT, sizeOf, typeInfo, hq, hsz, hk, hp]
  rw [Sem.run_bind, this]
  rfl
theorem exec_indexAn {T E : TypeId} {x i : Operand} {cs : List Value} {m k z : Nat} {kk : IntKind} (ho : o.op = .index T x i) (hT : P.underlying T = some (.array m E)) (hE : Agg P E z)
    (hx : opv n ws x = .agg cs.toArray) (hi : opv n ws i = .int kk (k : Int)) (hk : k < m) {vs : List Value} (hv : (cs.drop (k * z)).take z = vs) : (execOp (opv n ws) o).run P u = .ok (.value (.agg vs.toArray)) u := by
  obtain ⟨h1, h2⟩ := hE
  unfold execOp
  simp only [ho, hx, hi]
  have : (Instr.index T (.agg cs.toArray) (.int kk (k : Int))).run P u = .ok (.agg vs.toArray) u := by
    cases hq : P.info? E with
    | none => simp [hq] at h2
    | some q =>
      have hsz : q.size = z := by simpa [hq] using h2
      cases hu : P.underlying E with
      | none => simp [hu] at h1
      | some d =>
        have hagg : (isAgg E).run P u = .ok true u := by
          unfold isAgg
          rw [Sem.run_bind, run_underlying hu u]
          simp [hu] at h1
          cases d <;> simp_all
        simp [Instr.index, asIntOf, Sem.run_bind, run_underlying hT, sizeOf, typeInfo, hq, hsz, hk, part, hagg]
        exact hv
  rw [Sem.run_bind, this]
  rfl
end
section
variable {P : Program} {ops : Array Oper} {Q : Exit → Act → World → Prop} {n : Nat} {ws : List (Nat × Value)} {o : Oper} {next : List (Nat × Value) → World → Prop} {w : World} {g : Tg}
/-- One byte as a string. -/
theorem exec_bytes1 {src dst e E : TypeId} {x : Operand} {b cap : Nat} {c : UInt8} {u : World} (ho : o.op = .convert src dst x) (hs : P.underlying src = some (.slice e)) (he : P.underlying e = some (.int .u8)) (hd : P.underlying dst = some .string)
    (hx : opv n ws x = .slice (some ⟨b, 0, none⟩) 1 cap) (hB : Blk u b E [.int .u8 (c.toNat : Int)]) : (execOp (opv n ws) o).run P u = .ok (.value (.string ⟨#[c]⟩)) u := by
  have h := run_convert_bytes_back (P := P) u src dst e ⟨b, 0, none⟩ cap [c] hs he hd (fun j hj => by
    have : j = 0 := by simp at hj; omega
    subst this
    exact hB.cell 0)
  unfold execOp
  simp only [ho, hx]
  rw [Sem.run_bind]
  have h2 : (convert src dst (.slice (some ⟨b, 0, none⟩) 1 cap)).run P u = .ok (.string ⟨#[c]⟩) u := h
  rw [h2]
  rfl
/-- A literal of a slice, of another tag. -/
theorem O.litt (t : Nat) (d : Nat) {T : Nat → Prop} {w0 : World} {g0 : Tg} {L : List KB} (E : TypeId) (cs : List Value) (m : Nat) (hg : o.guard = none) (hd : o.dst = some d)
    (hx : (execOp (opv n ws) o).run P w = .ok (.value (.slice (some ⟨w.heap.size, 0, none⟩) m m)) (w.alloc (.cells cs.toArray E (0, 0)))) (hK : Kn T w0 g0 L w g)
    (h : ∀ b w' g', Kn T w0 g0 L w' g' → Bt t w' g' b E cs → Mv Nt w g w' g' → next ((d, .slice (some ⟨b, 0, none⟩) m m) :: ws) w') : OpS P Q ops o n ws w next := by
  have m' := Mv.alloc Nt w g (.cells cs.toArray E (0, 0)) t
  exact O.run d _ _ (by simp [Region.wanted, hg]) hd hx (h _ _ _ (hK.step m' nt_le quiet) ⟨heap_alloc_new w _, tagged_same _ _ _⟩ m')
/-- A block that nobody writes any more, as a slice. -/
theorem Bt.ls {α : Type} {z : Nat} {f : α → List Value} {b : Nat} {E : TypeId} {cs : List Value} (h : Bt 0 w g b E cs) (xs : List α) (hf : ∀ x, (f x).length = z) (he : xs.flatMap f = cs) {m : Nat} (hm : m = xs.length) : Ls z f w g ⟨some ⟨b, 0, none⟩, m, m⟩ xs :=
  ⟨hm, Nat.le_refl _, fun h => by simp at h, fun _ => ⟨b, 0, rfl, h.1.lt, h.2, fun j _ => by rw [Nat.zero_add, h.1.cell, he]⟩, hf⟩
end
end Go.Proofs.Ytlfanphdnjoofaa
