/- One rule an operation, for frames told by their writes. -/
import Derived.Test.YtlfanphdnjoofaaV
namespace Go.Proofs.Ytlfanphdnjoofaa
open Go.RowKit

section
variable {P : Program} {ops : Array Oper} {Q : Exit → Act → World → Prop} {n : Nat} {ws : List (Nat × Value)} {w : World} {rest : List Oper} {o : Oper}

def yieldF (n : Nat) (ws : List (Nat × Value)) (ops : Array Oper) (j : Nat) : Option Bool :=
  match (ops[j]?).bind (·.dst) with
  | some d => bif Nat.blt d n then (match look ws d with | .bool b => some b | _ => none) else none
  | none => none
theorem yielded_fr : yielded ops (fr n ws).tmps = yieldF n ws ops := by
  funext j
  unfold yielded yieldF
  cases h : (ops[j]?).bind (·.dst) with
  | none => rfl
  | some d =>
    simp only [Option.bind_some]
    by_cases hd : d < n
    · have : Nat.blt d n = true := by simpa [Nat.blt_eq] using hd
      rw [look_get n ws d hd, this]
      cases look ws d <;> rfl
    · have h2 : (fr n ws).tmps[d]? = none := Array.getElem?_eq_none (by rw [fr_size]; exact Nat.le_of_not_lt hd)
      rw [h2, blt_false hd]; rfl

/-- One operation, from the frame ws on. -/
def OpS (P : Program) (Q : Exit → Act → World → Prop) (ops : Array Oper) (o : Oper) (n : Nat) (ws : List (Nat × Value)) (w : World) (next : List (Nat × Value) → World → Prop) : Prop :=
  if Region.wanted o (yieldF n ws ops) = true then o.wp P (fr n ws) w (fun a w' => ∃ ws', a = fr n ws' ∧ next ws' w') Q else next (wr ws o.dst undef) w
theorem OpS.wp {next : List (Nat × Value) → World → Prop} {K : Act → World → Prop} (h : OpS P Q ops o n ws w next) (hK : ∀ ws' w', next ws' w' → K (fr n ws') w') :
    if Region.wanted o (yielded ops (fr n ws).tmps) = true then Oper.wp P o (fr n ws) w K Q else K ((fr n ws).put o.dst undef) w := by
  unfold OpS at h
  rw [yielded_fr, put_fr]
  split
  · rename_i hw
    rw [if_pos hw] at h
    exact Oper.wp_mono (fun a w' ⟨ws', ha, hn⟩ => by subst ha; exact hK _ _ hn) h
  · rename_i hw
    rw [if_neg hw] at h
    exact hK _ _ h
/-- In a region that keeps its order. -/
theorem W.op (h : OpS P Q ops o n ws w fun ws' w' => wpList P ops Q rest (fr n ws') w') : wpList P ops Q (o :: rest) (fr n ws) w :=
  wpList_step fun _ hK => h.wp fun _ _ => hK _ _

variable {next : List (Nat × Value) → World → Prop}
/-- The value of an operation that leaves the world alone. -/
theorem O.v (d : Nat) (v : Value) (hg : o.guard = none) (hd : o.dst = some d) (hx : (execOp (opv n ws) o).run P w = .ok (.value v) w)
    (h : next ((d, v) :: ws) w) : OpS P Q ops o n ws w next := by
  unfold OpS
  rw [if_pos (by simp [Region.wanted, hg])]
  unfold Oper.wp
  rw [eval_fr, hx, Oper.upon_value, hd, put_fr]
  exact ⟨_, rfl, h⟩
/-- The same where it is guarded, and wanted. -/
theorem O.gv (d : Nat) (v : Value) (hg : Region.wanted o (yieldF n ws ops) = true) (hd : o.dst = some d) (hx : (execOp (opv n ws) o).run P w = .ok (.value v) w)
    (h : next ((d, v) :: ws) w) : OpS P Q ops o n ws w next := by
  unfold OpS
  rw [if_pos hg]
  unfold Oper.wp
  rw [eval_fr, hx, Oper.upon_value, hd, put_fr]
  exact ⟨_, rfl, h⟩
/-- Guarded, and not wanted. -/
theorem O.no (d : Nat) (hg : Region.wanted o (yieldF n ws ops) = false) (hd : o.dst = some d) (h : next ((d, undef) :: ws) w) : OpS P Q ops o n ws w next := by
  unfold OpS
  rw [if_neg (by rw [hg]; decide), hd]
  exact h
/-- A call. -/
theorem O.call (d : Nat) (f : FuncId) (args : Array Value) (hg : Region.wanted o (yieldF n ws ops) = true) (hd : o.dst = some d) (hx : (execOp (opv n ws) o).run P w = .ok (.enter f args) w)
    (h : Calls P f args w fun e w' => ∃ v, e = .returned v ∧ next ((d, v) :: ws) w') : OpS P Q ops o n ws w next := by
  unfold OpS
  rw [if_pos hg]
  unfold Oper.wp
  rw [eval_fr, hx, Oper.upon_enter]
  refine h.mono fun e w' he => ?_
  obtain ⟨v, rfl, hv⟩ := he
  show ∃ ws', _ ∧ _
  rw [hd, put_fr]
  exact ⟨_, rfl, hv⟩
theorem O.call0 (f : FuncId) (args : Array Value) (hg : Region.wanted o (yieldF n ws ops) = true) (hd : o.dst = none) (hx : (execOp (opv n ws) o).run P w = .ok (.enter f args) w)
    (h : Calls P f args w fun e w' => ∃ v, e = .returned v ∧ next ws w') : OpS P Q ops o n ws w next := by
  unfold OpS
  rw [if_pos hg]
  unfold Oper.wp
  rw [eval_fr, hx, Oper.upon_enter]
  refine h.mono fun e w' he => ?_
  obtain ⟨v, rfl, hv⟩ := he
  show ∃ ws', _ ∧ _
  rw [hd, put_fr]
  exact ⟨_, rfl, hv⟩
/-- An operation that changes the world, whatever it does. -/
theorem O.run (d : Nat) (v : Value) (w' : World) (hg : Region.wanted o (yieldF n ws ops) = true) (hd : o.dst = some d) (hx : (execOp (opv n ws) o).run P w = .ok (.value v) w')
    (h : next ((d, v) :: ws) w') : OpS P Q ops o n ws w next := by
  unfold OpS
  rw [if_pos hg]
  unfold Oper.wp
  rw [eval_fr, hx, Oper.upon_value, hd, put_fr]
  exact ⟨_, rfl, h⟩
theorem O.runs (w' : World) (hg : Region.wanted o (yieldF n ws ops) = true) (hd : o.dst = none) (hx : (execOp (opv n ws) o).run P w = .ok .skip w')
    (h : next ws w') : OpS P Q ops o n ws w next := by
  unfold OpS
  rw [if_pos hg]
  unfold Oper.wp
  rw [eval_fr, hx, Oper.upon_skip, hd, put_fr]
  exact ⟨_, rfl, h⟩

variable {T : Nat → Prop} {w0 : World} {g0 g : Tg} {L : List KB}
/-- No tag at all. -/
def Nt : Nat → Prop := fun _ => False
/-- The relation of a step that touches the call's own blocks alone. -/
abbrev Own1 := Mv (fun t => t = 1)

/-- A new variable. -/
theorem O.new (d : Nat) (E : TypeId) (cs : List Value) (hg : o.guard = none) (hd : o.dst = some d)
    (hx : (execOp (opv n ws) o).run P w = .ok (.value (.pointer (some ⟨w.heap.size, 0, none⟩))) (w.alloc (.cells cs.toArray E (0, 0)))) (hK : Kn T w0 g0 L w g)
    (h : ∀ b w' g', Kn T w0 g0 ((b, E, cs) :: L) w' g' → Mv Nt w g w' g' → next ((d, .pointer (some ⟨b, 0, none⟩)) :: ws) w') : OpS P Q ops o n ws w next :=
  O.run d _ _ (by simp [Region.wanted, hg]) hd hx (h _ _ _ (hK.new E cs) (Mv.alloc _ _ _ _ _))
/-- A slice's literal. -/
theorem O.lit (d : Nat) (E : TypeId) (cs : List Value) (m : Nat) (hg : o.guard = none) (hd : o.dst = some d)
    (hx : (execOp (opv n ws) o).run P w = .ok (.value (.slice (some ⟨w.heap.size, 0, none⟩) m m)) (w.alloc (.cells cs.toArray E (0, 0)))) (hK : Kn T w0 g0 L w g)
    (h : ∀ b w' g', Kn T w0 g0 ((b, E, cs) :: L) w' g' → Mv Nt w g w' g' → next ((d, .slice (some ⟨b, 0, none⟩) m m) :: ws) w') : OpS P Q ops o n ws w next :=
  O.run d _ _ (by simp [Region.wanted, hg]) hd hx (h _ _ _ (hK.new E cs) (Mv.alloc _ _ _ _ _))

theorem exec_store {Ty : TypeId} {x y : Operand} {b i m : Nat} {E : TypeId} {cs vs : List Value} {v : Value} (ho : o.op = .store Ty x y) (hx : opv n ws x = .pointer (some ⟨b, i, none⟩)) (hy : opv n ws y = v)
    (hs : (P.info? Ty).map (·.size) = some m) (hb : Blk w b E cs) (hv : v.cells = vs.toArray) (hn : vs.length = m) (hl : i + m ≤ cs.length) (h1 : vs.all (·.oneCell') = true) :
    (execOp (opv n ws) o).run P w = .ok .skip (w.setCells b i vs) := by
  unfold execOp
  simp only [ho, hx, hy]
  rw [Sem.run_bind, run_store_any hs hb v vs hv hn hl h1]
  rfl
theorem exec_load {Ty : TypeId} {x : Operand} {b i : Nat} {v : Value} (ho : o.op = .load Ty x) (hx : opv n ws x = .pointer (some ⟨b, i, none⟩)) (hT : One P Ty) (hc : w.cell? ⟨b, i, none⟩ = some v) :
    (execOp (opv n ws) o).run P w = .ok (.value v) w := by
  unfold execOp
  simp only [ho, hx]
  rw [Sem.run_bind, run_load_one hT hc]
  rfl
theorem exec_loads {Ty : TypeId} {x : Operand} {b i m : Nat} {cs : List Value} (ho : o.op = .load Ty x) (hx : opv n ws x = .pointer (some ⟨b, i, none⟩)) (hT : Agg P Ty m) (hn : cs.length = m)
    (hc : ∀ j, j < m → w.cell? ⟨b, i + j, none⟩ = cs[j]?) : (execOp (opv n ws) o).run P w = .ok (.value (.agg cs.toArray)) w := by
  unfold execOp
  simp only [ho, hx]
  rw [Sem.run_bind, run_load_agg hT hn hc]
  rfl
theorem Blk.all {b : Nat} {E : TypeId} {cs : List Value} (h : Blk w b E cs) (m : Nat) : ∀ j, j < m → w.cell? ⟨b, 0 + j, none⟩ = cs[j]? := fun j _ => by rw [Nat.zero_add]; exact h.cell j
theorem Blk.part {b : Nat} {E : TypeId} {cs : List Value} (h : Blk w b E cs) (o m : Nat) : ∀ j, j < m → w.cell? ⟨b, o + j, none⟩ = ((cs.drop o).take m)[j]? := fun j hj => by
  rw [h.cell (o + j), List.getElem?_take, if_pos hj, List.getElem?_drop]

/-- A store into one of the call's own blocks: one cell. -/
theorem O.st (k : Nat) {b i : Nat} {E : TypeId} {cs : List Value} {Ty : TypeId} {x y : Operand} (v : Value) (hg : o.guard = none) (hd : o.dst = none) (ho : o.op = .store Ty x y)
    (hx : opv n ws x = .pointer (some ⟨b, i, none⟩)) (hy : opv n ws y = v) (hT : One P Ty) (hv : v.oneCell' = true) (hvc : v.cells = #[v]) (hk : L[k]? = some (b, E, cs)) (hi : i < cs.length) (hK : Kn T w0 g0 L w g)
    (h : ∀ w', Kn T w0 g0 (L.set k (b, E, cs.set i v)) w' g → Own1 w g w' g → next ws w') : OpS P Q ops o n ws w next := by
  have hs := hK.set k hk i [v] (by simp; omega)
  have e : cs.take i ++ [v] ++ cs.drop (i + [v].length) = cs.set i v := by
    simp [List.set_eq_take_append_cons_drop, hi]
  rw [e] at hs
  refine O.runs _ (by simp [Region.wanted, hg]) hd (exec_store ho hx hy hT.2 (hK.nth k hk) (vs := [v]) (by rw [hvc]) rfl (Nat.succ_le_of_lt hi) (by simp [hv])) (h _ hs ?_)
  exact (Mv.setCells w g b i [v]).mono fun t ht => by rw [ht]; exact hK.tag k hk
/-- The whole block. -/
theorem O.sta (k : Nat) {b : Nat} {E : TypeId} {cs : List Value} {Ty : TypeId} {x y : Operand} (vs : List Value) (hg : o.guard = none) (hd : o.dst = none) (ho : o.op = .store Ty x y)
    (hx : opv n ws x = .pointer (some ⟨b, 0, none⟩)) (hy : opv n ws y = .agg vs.toArray) {m : Nat} (hT : Agg P Ty m) (hn : vs.length = m) (hv : vs.all (·.oneCell') = true) (hk : L[k]? = some (b, E, cs)) (hi : m = cs.length) (hK : Kn T w0 g0 L w g)
    (h : ∀ w', Kn T w0 g0 (L.set k (b, E, vs)) w' g → Own1 w g w' g → next ws w') : OpS P Q ops o n ws w next := by
  have hs := hK.set k hk 0 vs (by omega)
  have e : cs.take 0 ++ vs ++ cs.drop (0 + vs.length) = vs := by
    rw [List.drop_eq_nil_of_le (by omega)]; simp
  rw [e] at hs
  refine O.runs _ (by simp [Region.wanted, hg]) hd (exec_store ho hx hy hT.2 (hK.nth k hk) (vs := vs) rfl hn (by omega) hv) (h _ hs ?_)
  exact (Mv.setCells w g b 0 vs).mono fun t ht => by rw [ht]; exact hK.tag k hk
/-- A part of a block. -/
theorem O.stp (k : Nat) {b i : Nat} {E : TypeId} {cs : List Value} {Ty : TypeId} {x y : Operand} (vs : List Value) (hg : o.guard = none) (hd : o.dst = none) (ho : o.op = .store Ty x y)
    (hx : opv n ws x = .pointer (some ⟨b, i, none⟩)) (hy : opv n ws y = .agg vs.toArray) {m : Nat} (hT : Agg P Ty m) (hn : vs.length = m) (hv : vs.all (·.oneCell') = true) (hk : L[k]? = some (b, E, cs)) (hi : i + m ≤ cs.length) (hK : Kn T w0 g0 L w g)
    (h : ∀ w', Kn T w0 g0 (L.set k (b, E, cs.take i ++ vs ++ cs.drop (i + m))) w' g → Own1 w g w' g → next ws w') : OpS P Q ops o n ws w next := by
  have hs := hK.set k hk i vs (by omega)
  rw [hn] at hs
  refine O.runs _ (by simp [Region.wanted, hg]) hd (exec_store ho hx hy hT.2 (hK.nth k hk) (vs := vs) rfl hn hi hv) (h _ hs ?_)
  exact (Mv.setCells w g b i vs).mono fun t ht => by rw [ht]; exact hK.tag k hk

/-! ### Statements -/
theorem W.cond {c : Operand} {x y : Code} (t : Bool) (hc : opv n ws c = .bool t) (h : (bif t then x else y).wp P Q (fr n ws) w) : (Code.cond c x y).wp P Q (fr n ws) w :=
  wp_cond (t := t) (by rw [eval_fr]; exact hc) (by cases t <;> exact h)
theorem look_eq {n : Nat} {ws : List (Nat × Value)} {t : Nat} {v : Value} (h : look ws t = v) : fr n ws = fr n ((t, v) :: ws) := by
  have hs := fr_size n ws
  have e : (fr n ws).tmps = (fr n ((t, v) :: ws)).tmps := by
    apply Array.ext_getElem?
    intro i
    show _ = ((fr n ws).tmps.setIfInBounds t v)[i]?
    rw [Array.getElem?_setIfInBounds]
    by_cases hi : t = i
    · subst hi
      rw [if_pos rfl]
      by_cases ht : t < n
      · rw [look_get n ws t ht, h, if_pos (by omega)]
      · rw [if_neg (by omega), Array.getElem?_eq_none (by omega)]
    · rw [if_neg hi]
  show (⟨(fr n ws).tmps, []⟩ : Act) = ⟨(fr n ((t, v) :: ws)).tmps, []⟩
  rw [e]
theorem W.loop {c : Code} (I : Nat → List (Nat × Value) → World → Prop) (k0 : Nat) {ws0 : List (Nat × Value)} (hf : fr n ws = fr n ws0) (h0 : I k0 ws0 w)
    (round : ∀ k ws w, I k ws w → c.wp P (Exit.then (fun a' w' => ∃ k' ws', k' < k ∧ a' = fr n ws' ∧ I k' ws' w') Q) (fr n ws) w) : (Code.loop c).wp P Q (fr n ws) w := by
  rw [hf]
  intro b k cs
  have key : ∀ m a w, (∃ ws, a = fr n ws ∧ I m ws w) → ∃ e a' w', Q e a' w' ∧ Arrives P (lone (b.at a (.code c :: .inLoop c :: k)) cs w) b k cs e a' w' := by
    intro m
    induction m using Nat.strongRecOn with
    | _ m ih =>
      rintro a w ⟨ws, rfl, hI⟩
      obtain ⟨e, a₁, w₁, hq, harr⟩ := round m ws w hI b (.inLoop c :: k) cs
      cases e with
      | normal =>
        obtain ⟨k', ws', hlt, ha, hI₁⟩ := hq
        obtain ⟨e₂, a₂, w₂, hq₂, harr₂⟩ := ih k' hlt a₁ w₁ ⟨ws', ha, hI₁⟩
        exact ⟨e₂, a₂, w₂, hq₂, .of_steps (Steps.trans harr (.one step_inLoop)) harr₂⟩
      | exit id => exact ⟨_, a₁, w₁, hq, .pass (x := .inLoop c) rfl (fun _ _ => .inl (by simp)) harr⟩
      | goto l => exact ⟨_, a₁, w₁, hq, .pass (x := .inLoop c) rfl (fun _ _ => .inl (by simp)) harr⟩
      | ret => exact ⟨_, a₁, w₁, hq, .pass (x := .inLoop c) rfl (fun _ _ => .inl (by simp)) harr⟩
      | panic ch => exact ⟨_, a₁, w₁, hq, .pass (x := .inLoop c) rfl (fun _ _ => .inl (by simp)) harr⟩
      | outgrown => exact ⟨_, a₁, w₁, hq, .pass (x := .inLoop c) rfl (fun _ _ => .inl (by simp)) harr⟩
  obtain ⟨e, a', w', hq, harr⟩ := key k0 _ w ⟨ws0, rfl, h0⟩
  exact ⟨e, a', w', hq, .of_steps (.one step_loop) harr⟩
/-- Ways that meet again: what holds there is said once. -/
theorem W.join {c d : Code} (I : List (Nat × Value) → World → Prop) (h1 : c.wp P (Exit.then (fun a w' => ∃ ws', a = fr n ws' ∧ I ws' w') Q) (fr n ws) w)
    (h2 : ∀ ws' w', I ws' w' → d.wp P Q (fr n ws') w') : (Code.seq c d).wp P Q (fr n ws) w :=
  wp_seq_k fun K hK => wp_mono h1 fun e a w' h => by
    cases e with
    | normal => obtain ⟨ws', ha, hI⟩ := h; subst ha; exact hK _ _ (h2 _ _ hI)
    | _ => exact h
/-- The end of a part of a sequence. -/
theorem W.fin {K : Act → World → Prop} {a : Act} (h : K a w) : wpList P ops (Exit.then K Q) [] a w := h
/-- The frame in which a call begins. -/
theorem W.enter {f : FuncId} {fn : Func} {c : Code} {args : Array Value} {R : Ending → World → Prop} (m : Nat) (hf : P.funcs[f]? = some fn) (hb : fn.body = some c) (ha : args ++ Array.replicate (fn.ntmps - args.size) undef = (fr m ws).tmps)
    (h : c.wp P (bodyPost P fn R) (fr m ws) w) : Calls P f args w R :=
  calls_of_wp hf hb (by rw [ha]; exact h)
/-- What a call leaves, result by result. -/
inductive Res (P : Program) (n : Nat) (ws : List (Nat × Value)) (w : World) : List ResultVar → List Value → Prop where
  | nil : Res P n ws w [] []
  | tmp {t : Tmp} {v : Value} {rs vs} : opv n ws (.tmp t) = v → Res P n ws w rs vs → Res P n ws w (.tmp t :: rs) (v :: vs)
  | one {a : Tmp} {Ty : TypeId} {b i : Nat} {v : Value} {rs vs} : opv n ws (.tmp a) = .pointer (some ⟨b, i, none⟩) → One P Ty → w.cell? ⟨b, i, none⟩ = some v → Res P n ws w rs vs → Res P n ws w (.cell a Ty :: rs) (v :: vs)
  | agg {a : Tmp} {Ty : TypeId} {b i m : Nat} {cs : List Value} {rs vs} : opv n ws (.tmp a) = .pointer (some ⟨b, i, none⟩) → Agg P Ty m → cs.length = m → (∀ j, j < m → w.cell? ⟨b, i + j, none⟩ = cs[j]?) →
      Res P n ws w rs vs → Res P n ws w (.cell a Ty :: rs) (.agg cs.toArray :: vs)
/-- One result's reading. -/
def resOf (tmps : Array Value) : ResultVar → Sem Value
  | .tmp t => pure (tmps.getD t undef)
  | .cell a t => do loadVar t (← asAddr (tmps.getD a undef))
theorem resOf_cons {tmps : Array Value} {r : ResultVar} {rs : List ResultVar} {v : Value} {vs : List Value} (h : (resOf tmps r).run P w = .ok v w) (h' : (rs.mapM (resOf tmps)).run P w = .ok vs w) :
    ((r :: rs).mapM (resOf tmps)).run P w = .ok (v :: vs) w := by
  rw [List.mapM_cons, Sem.run_bind, h]
  show (Sem.run P (do let y ← rs.mapM (resOf tmps); pure (v :: y)) w) = _
  rw [Sem.run_bind, h']
  rfl
theorem resOf_cell {tmps : Array Value} {a : Tmp} {Ty : TypeId} {b i : Nat} {v : Value} (hp : tmps.getD a undef = .pointer (some ⟨b, i, none⟩)) (h : (Instr.loadAt Ty (.pointer (some ⟨b, i, none⟩))).run P w = .ok v w) :
    (resOf tmps (.cell a Ty)).run P w = .ok v w := by
  show (Sem.run P (do loadVar Ty (← asAddr (tmps.getD a undef))) w) = _
  rw [hp]
  simp only [Instr.loadAt, Instr.sureAddr, Sem.run_bind, Sem.run_pure, Result.andThen_ok] at h
  simp [asAddr, h]
theorem Res.run {rs : List ResultVar} {vs : List Value} (h : Res P n ws w rs vs) : (rs.mapM (resOf (fr n ws).tmps)).run P w = .ok vs w := by
  have ev : ∀ t, (fr n ws).tmps.getD t undef = opv n ws (.tmp t) := fun t => congrFun (eval_fr n ws) (.tmp t)
  induction h with
  | nil => rfl
  | @tmp t v rs vs hv _ ih => exact resOf_cons (by show (Sem.run P (pure _) w) = _; rw [ev, hv]; rfl) ih
  | one hp hT hc _ ih => exact resOf_cons (resOf_cell (by rw [ev, hp]) (run_load_one hT hc)) ih
  | agg hp hT hn hc _ ih => exact resOf_cons (resOf_cell (by rw [ev, hp]) (run_load_agg hT hn hc)) ih
theorem results_eq (fn : Func) (tmps : Array Value) (rs : List ResultVar) (h : fn.results = rs.toArray) :
    results fn tmps = (do let vs ← rs.mapM (resOf tmps); pure (if h : vs.toArray.size = 1 then vs.toArray[0] else .tuple vs.toArray)) := by
  unfold results
  rw [h, List.mapM_toArray, bind_map_left]
  rfl
/-- The end of a call of one result; of none or several. -/
theorem W.ret1 {fn : Func} {R : Ending → World → Prop} {r : ResultVar} {v : Value} (hf : fn.results = #[r]) (h : Res P n ws w [r] [v]) (hR : R (.returned v) w) : bodyPost P fn R .ret (fr n ws) w := by
  refine ⟨rfl, v, ?_, hR⟩
  rw [results_eq fn _ [r] hf, Sem.run_bind, h.run]
  rfl
theorem W.rets {fn : Func} {R : Ending → World → Prop} {rs : List ResultVar} {vs : List Value} (hf : fn.results = rs.toArray) (h : Res P n ws w rs vs) (hl : vs.length ≠ 1) (hR : R (.returned (.tuple vs.toArray)) w) :
    bodyPost P fn R .ret (fr n ws) w := by
  refine ⟨rfl, .tuple vs.toArray, ?_, hR⟩
  rw [results_eq fn _ rs hf, Sem.run_bind, h.run]
  simp [hl]
theorem W.end0 {fn : Func} {R : Ending → World → Prop} (hf : fn.results = #[]) (hR : R (.returned (.tuple #[])) w) : bodyPost P fn R .normal (fr n ws) w :=
  ⟨rfl, .tuple #[], by rw [results_eq fn _ [] hf]; rfl, hR⟩

/-! ### In a region that draws its order -/
variable {S : Nat → World → Prop} {listed : Array Bool} {k : Nat}
def takeOk (ops : Array Oper) (listed : Array Bool) (i : Nat) : Bool :=
  Region.noSelect ops && Region.free .any ops listed i && closedB ops listed && (Region.ready .any ops listed).contains i
theorem G.take (i d : Nat) (v : Value) (hi : ops[i]? = some o) (ht : takeOk ops listed i = true) (hd : o.dst = some d) (hQ : ∀ c a w, Q (.panic c) (a.put (some d) v) w → Q (.panic c) a w) (hS : S i w)
    (hg : Region.wanted o (yieldF n ws ops) = true) (hx : ∀ u, S i u → (execOp (opv n ws) o).run P u = .ok (.value v) u)
    (h : wpG P ops Q S k (listed.setIfInBounds i true) (fr n ((d, v) :: ws)) w) : wpG P ops Q S (k + 1) listed (fr n ws) w := by
  simp only [takeOk, Bool.and_eq_true] at ht
  obtain ⟨⟨⟨h1, h2⟩, h3⟩, h4⟩ := ht
  refine wpG_take i (v := v) hi h1 h2 h3 h4 (by rw [hd]; exact hQ) hS (.inl ⟨by rw [yielded_fr]; exact hg, fun u hu => by rw [eval_fr]; exact hx u hu⟩) ?_
  rw [hd, put_fr]
  exact h
/-- What does not read the world. -/
theorem G.takeP (i d : Nat) (v : Value) (hi : ops[i]? = some o) (ht : (Region.noSelect ops && Region.free .any ops listed i && (Region.ready .any ops listed).contains i) = true) (hd : o.dst = some d) (hQ : ∀ c a w, Q (.panic c) (a.put (some d) v) w → Q (.panic c) a w)
    (hg : Region.wanted o (yieldF n ws ops) = true) (hx : ∀ u, (execOp (opv n ws) o).run P u = .ok (.value v) u)
    (h : wpG P ops Q S k (listed.setIfInBounds i true) (fr n ((d, v) :: ws)) w) : wpG P ops Q S (k + 1) listed (fr n ws) w := by
  simp only [Bool.and_eq_true] at ht
  obtain ⟨⟨h1, h2⟩, h4⟩ := ht
  refine wpG_takeP i (v := v) hi h1 h2 h4 (by rw [hd]; exact hQ) (.inl ⟨by rw [yielded_fr]; exact hg, fun u _ => by rw [eval_fr]; exact hx u⟩) ?_
  rw [hd, put_fr]
  exact h
/-- Guarded, and not wanted: passed over. -/
theorem G.pass (i d : Nat) (hi : ops[i]? = some o) (ht : (Region.noSelect ops && Region.free .any ops listed i && (Region.ready .any ops listed).contains i) = true) (hd : o.dst = some d) (hQ : ∀ c a w, Q (.panic c) (a.put (some d) undef) w → Q (.panic c) a w)
    (hg : Region.wanted o (yieldF n ws ops) = false)
    (h : wpG P ops Q S k (listed.setIfInBounds i true) (fr n ((d, undef) :: ws)) w) : wpG P ops Q S (k + 1) listed (fr n ws) w := by
  simp only [Bool.and_eq_true] at ht
  obtain ⟨⟨h1, h2⟩, h4⟩ := ht
  refine wpG_takeP i (v := undef) hi h1 h2 h4 (by rw [hd]; exact hQ) (.inr ⟨by rw [yielded_fr]; exact hg, rfl⟩) ?_
  rw [hd, put_fr]
  exact h
theorem G.op (i : Nat) (hr : Region.ready .any ops listed = [i]) (hi : ops[i]? = some o)
    (h : OpS P Q ops o n ws w fun ws' w' => (∀ k, waits ops ops.size i k = false → S k w → S k w') ∧ wpG P ops Q S k (listed.setIfInBounds i true) (fr n ws') w') : wpG P ops Q S (k + 1) listed (fr n ws) w :=
  wpG_one i hr hi fun _ hK => h.wp fun _ _ hn => hK _ _ hn.1 hn.2
theorem G.op2 (i j : Nat) {p : Oper} (hr : Region.ready .any ops listed = [i, j]) (hi : ops[i]? = some o) (hj : ops[j]? = some p)
    (h : OpS P Q ops o n ws w fun ws' w' => (∀ k, waits ops ops.size i k = false → S k w → S k w') ∧ wpG P ops Q S k (listed.setIfInBounds i true) (fr n ws') w')
    (h' : OpS P Q ops p n ws w fun ws' w' => (∀ k, waits ops ops.size j k = false → S k w → S k w') ∧ wpG P ops Q S k (listed.setIfInBounds j true) (fr n ws') w') : wpG P ops Q S (k + 1) listed (fr n ws) w :=
  wpG_two i j hr hi hj (fun _ hK => h.wp fun _ _ hn => hK _ _ hn.1 hn.2) (fun _ hK => h'.wp fun _ _ hn => hK _ _ hn.1 hn.2)
theorem G.fin (hr : Region.ready .any ops listed = []) (h : Q .normal (fr n ws) w) : wpG P ops Q S k listed (fr n ws) w := wpG_done hr h k
/-- The worlds that a region may stand in while what it reads is as it was. -/
def Sm (U : Nat → Prop) (w : World) (g : Tg) (u : World) : Prop := Mv U w g u g
theorem Mv.self {U : Nat → Prop} {w u : World} {g g' : Tg} (m : Mv U w g u g') : Sm U w g u := ⟨m.os, m.tape, m.output, m.size, fun _ _ _ => rfl, m.keep⟩
def SmL : List (Nat × (Nat → Prop)) → World → Tg → Nat → World → Prop
  | [], _, _, _, _ => True
  | (j, U) :: r, w, g, i, u => bif Nat.beq j i then Sm U w g u else SmL r w g i u
def Kp (ops : Array Oper) (j : Nat) (l : List (Nat × (Nat → Prop))) (w : World) (g : Tg) (w1 w2 : World) : Prop := ∀ i, waits ops ops.size j i = false → SmL l w g i w1 → SmL l w g i w2
theorem kp_nil {j : Nat} {w0 w1 w2 : World} {g : Tg} : Kp ops j [] w0 g w1 w2 := fun _ _ h => h
theorem kp_skip {j k : Nat} {U : Nat → Prop} {r : List (Nat × (Nat → Prop))} {w0 w1 w2 : World} {g : Tg} (hw : waits ops ops.size j k = true) (h : Kp ops j r w0 g w1 w2) : Kp ops j ((k, U) :: r) w0 g w1 w2 := fun i hi => by
  unfold SmL
  cases hb : Nat.beq k i with
  | true => rw [← Nat.eq_of_beq_eq_true hb, hw] at hi; cases hi
  | false => exact h i hi
theorem kp_keep {j k : Nat} {U : Nat → Prop} {r : List (Nat × (Nat → Prop))} {w0 w1 w2 : World} {g g' : Tg} (m : Mv U w0 g w2 g') (h : Kp ops j r w0 g w1 w2) : Kp ops j ((k, U) :: r) w0 g w1 w2 := fun i hi => by
  unfold SmL
  cases hb : Nat.beq k i with
  | true => exact fun _ => m.self
  | false => exact h i hi
theorem kp_nt {j : Nat} {w0 w1 w2 : World} {g g1 g2 : Tg} (m : Mv Nt w1 g1 w2 g2) : ∀ r : List (Nat × (Nat → Prop)), Kp ops j r w0 g w1 w2
  | [] => kp_nil
  | (k, U) :: r => fun i hi => by
    unfold SmL
    cases hb : Nat.beq k i with
    | true => exact fun h => ⟨m.os.trans h.os, m.tape.trans h.tape, m.output.trans h.output, Nat.le_trans h.size m.size, fun _ _ _ => rfl, fun b hb hn => (m.keep b (Nat.lt_of_lt_of_le hb h.size) (fun h => h)).trans (h.keep b hb hn)⟩
    | false => exact kp_nt m r i hi
theorem Kn.later {U : Nat → Prop} {u : World} {g' : Tg} (hK : Kn T w0 g0 L w g) (k : Nat) {b : Nat} {E : TypeId} {cs : List Value} (hk : L[k]? = some (b, E, cs)) (m : Mv U w g u g') (h1 : ¬ U 1) : Blk u b E cs :=
  (hK.nth k hk).mv m (by rw [hK.tag k hk]; exact h1)
theorem nt_le {U : Nat → Prop} : ∀ t, Nt t → U t := fun _ h => h.elim
theorem quietT {U : Nat → Prop} : ∀ t, Nt t → U t := fun _ h => h.elim
theorem quiet1 : ¬ Nt 1 := fun h => h
theorem quiet {t : Nat} : ¬ Nt t := fun h => h
def dmd (l : List Nat) : Nat → Bool := fun i => !l.any (Nat.beq i)
theorem okv {r : Result Next} {v v' : Value} (h : r = .ok (.value v) w) (e : v = v') : r = .ok (.value v') w := by rw [h, e]
theorem bsplit (b : Bool) : b = true ∨ b = false := by cases b <;> simp
theorem wrap_in {x : Int} (h : -9223372036854775808 ≤ x) (h' : x < 9223372036854775808) : IntKind.i64.wrap x = x := by
  simp only [IntKind.wrap, IntKind.bits, IntKind.signed]
  simp
  omega
theorem wrapi {x : Int} (h : -9223372036854775808 ≤ x) (h' : x < 9223372036854775808) : Value.int .i64 (IntKind.i64.wrap x) = .int .i64 x := by rw [wrap_in h h']
theorem wrapn {x : Int} {m : Nat} (h : x = (m : Int)) (h' : m < 9223372036854775808) : Value.int .i64 (IntKind.i64.wrap x) = .int .i64 (m : Int) := by rw [h, wrap_in (by omega) (by omega)]
/-- The address of a slice's element. -/
theorem exec_index {Ty E : TypeId} {x i : Operand} {b o0 k m c sz : Nat} {kk : IntKind} {u : World} (ho : o.op = .indexAddr Ty x i) (hT : P.underlying Ty = some (.slice E)) (hs : (P.info? E).map (·.size) = some sz)
    {a : Option Addr} (hx : opv n ws x = .slice a m c) (ha : a = some ⟨b, o0, none⟩) (hi : opv n ws i = .int kk (k : Int)) (hk : k < m) : (execOp (opv n ws) o).run P u = .ok (.value (.pointer (some ⟨b, o0 + k * sz, none⟩))) u := by
  subst ha
  unfold execOp
  simp only [ho, hx, hi]
  rw [Sem.run_bind]
  have : (Instr.indexAt Ty (.slice (some ⟨b, o0, none⟩) m c) (.int kk (k : Int))).run P u = .ok (.pointer (some ⟨b, o0 + k * sz, none⟩)) u := by
    cases hq : P.info? E with
    | none => simp [hq] at hs
    | some q =>
      have hsz : q.size = sz := by simpa [hq] using hs
      simp [Instr.indexAt, asIntOf, Sem.run_bind, run_underlying hT, sizeOf, typeInfo, hq, hsz, hk, Addr.add_mid]
  rw [this]
  rfl
/-- The address of an array's element. -/
theorem exec_indexA {Ty E : TypeId} {x i : Operand} {b o0 k m sz : Nat} {kk : IntKind} {u : World} (ho : o.op = .indexAddr Ty x i) (hT : P.underlying Ty = some (.array m E)) (hs : (P.info? E).map (·.size) = some sz)
    (hx : opv n ws x = .pointer (some ⟨b, o0, none⟩)) (hi : opv n ws i = .int kk (k : Int)) (hk : k < m) : (execOp (opv n ws) o).run P u = .ok (.value (.pointer (some ⟨b, o0 + k * sz, none⟩))) u := by
  unfold execOp
  simp only [ho, hx, hi]
  rw [Sem.run_bind]
  have : (Instr.indexAt Ty (.pointer (some ⟨b, o0, none⟩)) (.int kk (k : Int))).run P u = .ok (.pointer (some ⟨b, o0 + k * sz, none⟩)) u := by
    cases hq : P.info? E with
    | none => simp [hq] at hs
    | some q =>
      have hsz : q.size = sz := by simpa [hq] using hs
      simp [Instr.indexAt, asIntOf, Instr.sureAddr, Sem.run_bind, run_underlying hT, sizeOf, typeInfo, hq, hsz, hk, Addr.add_mid]
  rw [this]
  rfl
/-- A string's byte. -/
def byt (s : ByteArray) (k : Nat) : Nat := (s.data.toList.getD k 0).toNat
theorem byt_lt (s : ByteArray) (k : Nat) : byt s k < 256 := UInt8.toNat_lt _
theorem exec_indexStr {Ty : TypeId} {x i : Operand} {s : ByteArray} {k : Nat} {kk : IntKind} {u : World} (ho : o.op = .index Ty x i) (hT : P.underlying Ty = some .string)
    (hx : opv n ws x = .string s) (hi : opv n ws i = .int kk (k : Int)) (hk : k < s.size) : (execOp (opv n ws) o).run P u = .ok (.value (.int .u8 (byt s k))) u := by
  unfold execOp
  simp only [ho, hx, hi]
  rw [Sem.run_bind]
  have hb : s[k]? = some (s.data.toList.getD k 0) := by
    rw [show s[k]? = some s[k] from getElem?_pos s k hk]
    congr 1
    rw [List.getD_eq_getElem?_getD, List.getElem?_eq_getElem (by simpa using hk)]
    rfl
  have : (Instr.index Ty (.string s) (.int kk (k : Int))).run P u = .ok (.int .u8 (byt s k)) u := by
    simp [Instr.index, asIntOf, Sem.run_bind, run_underlying hT, hb, byt]
  rw [this]
  rfl
section
variable {K : Act → World → Prop} {a : Act} {i j : Nat}
theorem then_ret (h : Q .ret a w) : Exit.then K Q .ret a w := h
theorem then_exit (h : Q (.exit i) a w) : Exit.then K Q (.exit i) a w := h
theorem block_normal (h : Q .normal a w) : Exit.inBlock i Q .normal a w := h
theorem block_ret (h : Q .ret a w) : Exit.inBlock i Q .ret a w := h
theorem block_exit (h : Q .normal a w) : Exit.inBlock i Q (.exit i) a w := by
  show (if i = i then _ else _)
  rw [if_pos rfl]; exact h
theorem block_other (hn : j ≠ i) (h : Q (.exit j) a w) : Exit.inBlock i Q (.exit j) a w := by
  show (if j = i then _ else _)
  rw [if_neg hn]; exact h
end
end
/-! ### The same in short words -/
section
variable {P : Program} {ops : Array Oper} {Q : Exit → Act → World → Prop} {n : Nat} {ws : List (Nat × Value)} {w : World} {rest : List Oper} {o : Oper} {S : Nat → World → Prop} {listed : Array Bool} {k : Nat}
theorem Zb (d : Nat) (v : Value) (h : wpList P ops Q rest (fr n ((d, v) :: ws)) w) (hg : o.guard = none := by rfl) (hd : o.dst = some d := by rfl) (hx : (execOp (opv n ws) o).run P w = .ok (.value v) w := by kernel_rfl) : wpList P ops Q (o :: rest) (fr n ws) w :=
  W.op (O.v d v hg hd hx h)
theorem Zc (d : Nat) (v : Value) (hx : (execOp (opv n ws) o).run P w = .ok (.value v) w) (h : wpList P ops Q rest (fr n ((d, v) :: ws)) w) (hg : o.guard = none := by rfl) (hd : o.dst = some d := by rfl) : wpList P ops Q (o :: rest) (fr n ws) w :=
  W.op (O.v d v hg hd hx h)
theorem Zd (d : Nat) (v : Value) (h : wpList P ops Q rest (fr n ((d, v) :: ws)) w) (hg : Region.wanted o (yieldF n ws ops) = true := by kernel_rfl) (hd : o.dst = some d := by rfl) (hx : (execOp (opv n ws) o).run P w = .ok (.value v) w := by kernel_rfl) : wpList P ops Q (o :: rest) (fr n ws) w :=
  W.op (O.gv d v hg hd hx h)
theorem Za (d : Nat) (h : wpList P ops Q rest (fr n ((d, undef) :: ws)) w) (hg : Region.wanted o (yieldF n ws ops) = false := by kernel_rfl) (hd : o.dst = some d := by rfl) : wpList P ops Q (o :: rest) (fr n ws) w :=
  W.op (O.no d hg hd h)
theorem Yb (i d : Nat) (v : Value) (hi : ops[i]? = some o) (hx : ∀ u, (execOp (opv n ws) o).run P u = .ok (.value v) u) (h : wpG P ops Q S k (listed.setIfInBounds i true) (fr n ((d, v) :: ws)) w)
    (ht : (Region.noSelect ops && Region.free .any ops listed i && (Region.ready .any ops listed).contains i) = true := by kernel_rfl) (hd : o.dst = some d := by rfl) (hQ : ∀ c a w, Q (.panic c) (a.put (some d) v) w → Q (.panic c) a w := by exact fun _ _ _ h => h)
    (hg : Region.wanted o (yieldF n ws ops) = true := by kernel_rfl) : wpG P ops Q S (k + 1) listed (fr n ws) w :=
  G.takeP i d v hi ht hd hQ hg hx h
theorem Ya (i d : Nat) (hi : ops[i]? = some o) (h : wpG P ops Q S k (listed.setIfInBounds i true) (fr n ((d, undef) :: ws)) w)
    (ht : (Region.noSelect ops && Region.free .any ops listed i && (Region.ready .any ops listed).contains i) = true := by kernel_rfl) (hd : o.dst = some d := by rfl) (hQ : ∀ c a w, Q (.panic c) (a.put (some d) undef) w → Q (.panic c) a w := by exact fun _ _ _ h => h)
    (hg : Region.wanted o (yieldF n ws ops) = false := by kernel_rfl) : wpG P ops Q S (k + 1) listed (fr n ws) w :=
  G.pass i d hi ht hd hQ hg h
end
end Go.Proofs.Ytlfanphdnjoofaa
