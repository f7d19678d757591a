/- Closed facts on the types of the program. -/
import Derived.Test.YtlfanphdnjoofaaProg
import Derived.Test.YtlfanphdnjoofaaE
namespace Go.Proofs.Ytlfanphdnjoofaa
open Go.RowKit
set_option linter.unusedSimpArgs false
set_option linter.unusedVariables false
attribute [local irreducible] wpList Code.wp Calls

theorem Ty2 : One Try.prog 2 := ⟨by kernel_rfl, by kernel_rfl⟩
theorem Ty3 : One Try.prog 3 := ⟨by kernel_rfl, by kernel_rfl⟩
theorem Ty4 : One Try.prog 4 := ⟨by kernel_rfl, by kernel_rfl⟩
theorem Ty9 : One Try.prog 9 := ⟨by kernel_rfl, by kernel_rfl⟩
theorem Ty25 : One Try.prog 25 := ⟨by kernel_rfl, by kernel_rfl⟩
theorem Ty27 : Agg Try.prog 27 3 := ⟨by kernel_rfl, by kernel_rfl⟩
theorem Ty29 : One Try.prog 29 := ⟨by kernel_rfl, by kernel_rfl⟩
theorem Ty31 : Agg Try.prog 31 2 := ⟨by kernel_rfl, by kernel_rfl⟩
theorem Ty34 : One Try.prog 34 := ⟨by kernel_rfl, by kernel_rfl⟩
theorem Ty37 : One Try.prog 37 := ⟨by kernel_rfl, by kernel_rfl⟩
theorem Ty43 : One Try.prog 43 := ⟨by kernel_rfl, by kernel_rfl⟩
theorem Ty45 : One Try.prog 45 := ⟨by kernel_rfl, by kernel_rfl⟩
theorem Ty46 : One Try.prog 46 := ⟨by kernel_rfl, by kernel_rfl⟩
theorem Ty48 : Agg Try.prog 48 5 := ⟨by kernel_rfl, by kernel_rfl⟩
theorem Ty50 : Agg Try.prog 50 7 := ⟨by kernel_rfl, by kernel_rfl⟩
theorem Ty55 : Agg Try.prog 55 8 := ⟨by kernel_rfl, by kernel_rfl⟩
theorem Ty56 : One Try.prog 56 := ⟨by kernel_rfl, by kernel_rfl⟩
theorem Ty57 : One Try.prog 57 := ⟨by kernel_rfl, by kernel_rfl⟩
theorem Ty58 : One Try.prog 58 := ⟨by kernel_rfl, by kernel_rfl⟩
theorem Ty63 : One Try.prog 63 := ⟨by kernel_rfl, by kernel_rfl⟩
theorem Ty64 : Agg Try.prog 64 32 := ⟨by kernel_rfl, by kernel_rfl⟩
abbrev Z64 : List Value := [.int .i64 0, .int .i64 0, .int .i64 0, .int .i64 0, .int .i64 0, .int .i64 0, .int .i64 0, .int .i64 0, .int .i64 0, .int .i64 0, .int .i64 0, .int .i64 0, .int .i64 0, .int .i64 0, .int .i64 0, .int .i64 0, .int .i64 0, .int .i64 0, .int .i64 0, .int .i64 0, .int .i64 0, .int .i64 0, .int .i64 0, .int .i64 0, .int .i64 0, .int .i64 0, .int .i64 0, .int .i64 0, .int .i64 0, .int .i64 0, .int .i64 0, .int .i64 0]
theorem Ty66 : Agg Try.prog 66 35 := ⟨by kernel_rfl, by kernel_rfl⟩
abbrev Z66 : List Value := [.bool false, .int .i64 0, .slice none 0 0, .int .i64 0, .int .i64 0, .int .i64 0, .int .i64 0, .int .i64 0, .int .i64 0, .int .i64 0, .int .i64 0, .int .i64 0, .int .i64 0, .int .i64 0, .int .i64 0, .int .i64 0, .int .i64 0, .int .i64 0, .int .i64 0, .int .i64 0, .int .i64 0, .int .i64 0, .int .i64 0, .int .i64 0, .int .i64 0, .int .i64 0, .int .i64 0, .int .i64 0, .int .i64 0, .int .i64 0, .int .i64 0, .int .i64 0, .int .i64 0, .int .i64 0, .int .i64 0]
theorem Ty88 : One Try.prog 88 := ⟨by kernel_rfl, by kernel_rfl⟩
theorem Ty89 : One Try.prog 89 := ⟨by kernel_rfl, by kernel_rfl⟩
theorem Ty90 : One Try.prog 90 := ⟨by kernel_rfl, by kernel_rfl⟩
theorem Ty93 : One Try.prog 93 := ⟨by kernel_rfl, by kernel_rfl⟩
theorem Ty99 : One Try.prog 99 := ⟨by kernel_rfl, by kernel_rfl⟩
theorem Ty107 : One Try.prog 107 := ⟨by kernel_rfl, by kernel_rfl⟩
theorem Ty109 : Agg Try.prog 109 8 := ⟨by kernel_rfl, by kernel_rfl⟩
theorem Ty115 : One Try.prog 115 := ⟨by kernel_rfl, by kernel_rfl⟩
theorem Ty117 : Agg Try.prog 117 16 := ⟨by kernel_rfl, by kernel_rfl⟩
abbrev Z117 : List Value := [.slice none 0 0, .slice none 0 0, .slice none 0 0, .slice none 0 0, .slice none 0 0, .slice none 0 0, .slice none 0 0, .slice none 0 0, .slice none 0 0, .slice none 0 0, .slice none 0 0, .slice none 0 0, .slice none 0 0, .slice none 0 0, .slice none 0 0, .slice none 0 0]
theorem Ty129 : One Try.prog 129 := ⟨by kernel_rfl, by kernel_rfl⟩
theorem Ty146 : Agg Try.prog 146 3 := ⟨by kernel_rfl, by kernel_rfl⟩
theorem Ty155 : Agg Try.prog 155 3 := ⟨by kernel_rfl, by kernel_rfl⟩
theorem Ty156 : One Try.prog 156 := ⟨by kernel_rfl, by kernel_rfl⟩
theorem Ty157 : One Try.prog 157 := ⟨by kernel_rfl, by kernel_rfl⟩
theorem Ty163 : Agg Try.prog 163 16 := ⟨by kernel_rfl, by kernel_rfl⟩
abbrev Z163 : List Value := [.slice none 0 0, .slice none 0 0, .slice none 0 0, .slice none 0 0, .slice none 0 0, .slice none 0 0, .slice none 0 0, .slice none 0 0, .slice none 0 0, .slice none 0 0, .slice none 0 0, .slice none 0 0, .slice none 0 0, .slice none 0 0, .slice none 0 0, .slice none 0 0]
theorem Ty170 : Agg Try.prog 170 11 := ⟨by kernel_rfl, by kernel_rfl⟩
abbrev Z170 : List Value := [.int .i64 0, .int .i64 0, .int .i64 0, .int .i64 0, .int .i64 0, .slice none 0 0, .int .i64 0, .int .i64 0, .int .i64 0, .int .i64 0, .bool false]
theorem Nil37 (a : Option Addr) (m c : Nat) (w : World) : (binOp .eql 37 (.slice a m c) (.slice none 0 0)).run Try.prog w = .ok (.bool a.isNone) w := by
  cases a <;> kernel_rfl
theorem Nil63 (a : Option Addr) (m c : Nat) (w : World) : (binOp .eql 63 (.slice a m c) (.slice none 0 0)).run Try.prog w = .ok (.bool a.isNone) w := by
  cases a <;> kernel_rfl
theorem El3 : Elt Try.prog 3 1 8 := ⟨by kernel_rfl, by decide⟩
theorem El5 : Elt Try.prog 5 1 1 := ⟨by kernel_rfl, by decide⟩
theorem El9 : Elt Try.prog 9 1 16 := ⟨by kernel_rfl, by decide⟩
theorem El31 : Elt Try.prog 31 2 16 := ⟨by kernel_rfl, by decide⟩
theorem El37 : Elt Try.prog 37 1 24 := ⟨by kernel_rfl, by decide⟩
theorem El43 : Elt Try.prog 43 1 8 := ⟨by kernel_rfl, by decide⟩
theorem El48 : Elt Try.prog 48 5 80 := ⟨by kernel_rfl, by decide⟩
theorem El50 : Elt Try.prog 50 7 104 := ⟨by kernel_rfl, by decide⟩
theorem El55 : Elt Try.prog 55 8 112 := ⟨by kernel_rfl, by decide⟩
theorem El63 : Elt Try.prog 63 1 24 := ⟨by kernel_rfl, by decide⟩
theorem El66 : Elt Try.prog 66 35 296 := ⟨by kernel_rfl, by decide⟩
theorem El68 : Elt Try.prog 68 38 320 := ⟨by kernel_rfl, by decide⟩
theorem El109 : Elt Try.prog 109 8 96 := ⟨by kernel_rfl, by decide⟩
theorem El146 : Elt Try.prog 146 3 24 := ⟨by kernel_rfl, by decide⟩
theorem El155 : Elt Try.prog 155 3 24 := ⟨by kernel_rfl, by decide⟩
/-- The tape at p, whose blocks have the tags τ, τ + 1, τ + 2. -/
structure Tp (τ : Nat) (w : World) (g : Tg) (p : Nat) (σ : TapeS) : Prop where
  ex : ∃ sn sl, Bt τ w g p 60 [.slice sn.a sn.n sn.c, .int .i64 σ.most, .int .i64 σ.lost, .slice sl.a sl.n sl.c, .int .i64 σ.got, .pointer none] ∧ Gs (τ + 1) 66 35 Nd.cells w g sn σ.nodes ∧ Gs (τ + 2) 68 38 Dd.cells w g sl σ.log
  nls : ∀ n ∈ σ.nodes, Ls 7 Item.cells w g n.sl n.its ∧ n.its.length ≤ 100000
  lls : ∀ d ∈ σ.log, Ls 7 Item.cells w g d.nd.sl d.nd.its ∧ d.nd.its.length ≤ 100000
theorem Tp.mv {τ : Nat} {U : Nat → Prop} {w w' : World} {g g' : Tg} {p : Nat} {σ : TapeS} (h : Tp τ w g p σ) (m : Mv U w g w' g') (h0 : ¬ U 0) (h1 : ¬ U τ) (h2 : ¬ U (τ + 1)) (h3 : ¬ U (τ + 2)) : Tp τ w' g' p σ :=
  ⟨let ⟨sn, sl, a, b, c⟩ := h.ex; ⟨sn, sl, a.mv m h1, b.mv m h2, c.mv m h3⟩, fun n hn => ⟨(h.nls n hn).1.mv m h0, (h.nls n hn).2⟩, fun d hd => ⟨(h.lls d hd).1.mv m h0, (h.lls d hd).2⟩⟩
/-- A space's view at q, over the tape at p: blocks of the tags κ, κ + 1. -/
structure Sn (κ : Nat) (w : World) (g : Tg) (q p : Nat) (got : Int) (rs : List Rtd) : Prop where
  ex : ∃ s, Bt κ w g q 92 [.iface 29 (.pointer (some ⟨p, 0, none⟩)), .int .i64 got, .slice s.a s.n s.c] ∧ Gs (κ + 1) 146 3 Rtd.cells w g s rs
theorem Sn.mv {κ : Nat} {U : Nat → Prop} {w w' : World} {g g' : Tg} {q p : Nat} {got : Int} {rs : List Rtd} (h : Sn κ w g q p got rs) (m : Mv U w g w' g') (h1 : ¬ U κ) (h2 : ¬ U (κ + 1)) : Sn κ w' g' q p got rs :=
  ⟨let ⟨s, a, b⟩ := h.ex; ⟨s, a.mv m h1, b.mv m h2⟩⟩
/-- A walk's state in memory. -/
structure SM (τ : Nat) (w : World) (g : Tg) (q p : Nat) (S : St) : Prop where
  tp : Tp τ w g p S.σ
  sn : Sn (τ + 3) w g q p S.got S.rs
theorem SM.mv {τ : Nat} {U : Nat → Prop} {w w' : World} {g g' : Tg} {q p : Nat} {S : St} (h : SM τ w g q p S) (m : Mv U w g w' g') (h0 : ¬ U 0) (h1 : ¬ U τ) (h2 : ¬ U (τ + 1)) (h3 : ¬ U (τ + 2)) (h4 : ¬ U (τ + 3)) (h5 : ¬ U (τ + 4)) : SM τ w' g' q p S :=
  ⟨h.tp.mv m h0 h1 h2 h3, h.sn.mv m h4 h5⟩
theorem eqRef (a b c d : Int) (w : World) : (Op.equal 31 (.agg #[.int .i64 a, .int .i64 b]) (.agg #[.int .i64 c, .int .i64 d])).run Try.prog w = .ok (a == c && b == d) w := by
  unfold Op.equal Op.maxDepth
  rw [run_equalIn_struct w 9999 31 _ _ (by kernel_rfl) (by kernel_rfl)]
  have hf : (Program.fieldsOf Try.prog 31).toList = [{ name := "Num", type := 3, offset := 0, embedded := false, tag := "", pkgPath := "", byteOffset := 0 }, { name := "Gen", type := 3, offset := 1, embedded := false, tag := "", pkgPath := "", byteOffset := 8 }] := by kernel_rfl
  rw [hf]
  have p0 : ∀ x y : Int, (part 3 #[.int .i64 x, .int .i64 y] 0).run Try.prog w = .ok (.int .i64 x) w := fun _ _ => by kernel_rfl
  have p1 : ∀ x y : Int, (part 3 #[.int .i64 x, .int .i64 y] 1).run Try.prog w = .ok (.int .i64 y) w := fun _ _ => by kernel_rfl
  have hu : Try.prog.underlying 3 = some (.int .i64) := by kernel_rfl
  cases h : a == c <;> simp [Op.eqFields, p0, p1, run_equalIn_int w _ _ _ _ _ _ hu, h]
  by_cases hb : b = d <;> simp [hb]
theorem exec_eqRef {n : Nat} {ws : List (Nat × Value)} {o : Oper} {x y : Operand} {a b c d : Int} {w : World} (ho : o.op = .binOp .eql 31 x y 31) (hx : opv n ws x = .agg #[.int .i64 a, .int .i64 b])
    (hy : opv n ws y = .agg #[.int .i64 c, .int .i64 d]) : (execOp (opv n ws) o).run Try.prog w = .ok (.value (.bool (a == c && b == d))) w := by
  unfold execOp
  simp only [ho, hx, hy]
  have h1 : (eqGuard .eql 31 x y (.agg #[.int .i64 a, .int .i64 b]) (.agg #[.int .i64 c, .int .i64 d])).run Try.prog w = .ok () w := by kernel_rfl
  have h2 : (binOp .eql 31 (.agg #[.int .i64 a, .int .i64 b]) (.agg #[.int .i64 c, .int .i64 d])).run Try.prog w = .ok (.bool (a == c && b == d)) w := by
    have e := eqRef a b c d w
    simp only [binOp, Sem.run_bind, e]
    rfl
  rw [Sem.run_bind, Sem.run_bind, h1]
  simp only [Result.andThen_ok, h2]
  rfl
end Go.Proofs.Ytlfanphdnjoofaa

