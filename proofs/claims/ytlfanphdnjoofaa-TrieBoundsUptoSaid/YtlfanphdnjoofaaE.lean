/- Slices that grow, and rows that are written in place. -/
import Derived.Test.YtlfanphdnjoofaaD
import Derived.Laws.AppendOwn
namespace Go.Proofs.Ytlfanphdnjoofaa
set_option linter.unusedVariables false
open Go.RowKit

/-! ### Nodes -/
/-- A node: its items' slice, and what they are. -/
structure Nd where
  leaf : Bool
  cnt : Int
  sl : Sli
  its : List Item
  kid : Nat → Ref
abbrev Nd.cells (x : Nd) : List Value := [.bool x.leaf, .int .i64 x.cnt, .slice x.sl.a x.sl.n x.sl.c, .int .i64 (x.kid 0).num, .int .i64 (x.kid 0).gen, .int .i64 (x.kid 1).num, .int .i64 (x.kid 1).gen, .int .i64 (x.kid 2).num, .int .i64 (x.kid 2).gen, .int .i64 (x.kid 3).num, .int .i64 (x.kid 3).gen, .int .i64 (x.kid 4).num, .int .i64 (x.kid 4).gen, .int .i64 (x.kid 5).num, .int .i64 (x.kid 5).gen, .int .i64 (x.kid 6).num, .int .i64 (x.kid 6).gen, .int .i64 (x.kid 7).num, .int .i64 (x.kid 7).gen, .int .i64 (x.kid 8).num, .int .i64 (x.kid 8).gen, .int .i64 (x.kid 9).num, .int .i64 (x.kid 9).gen, .int .i64 (x.kid 10).num, .int .i64 (x.kid 10).gen, .int .i64 (x.kid 11).num, .int .i64 (x.kid 11).gen, .int .i64 (x.kid 12).num, .int .i64 (x.kid 12).gen, .int .i64 (x.kid 13).num, .int .i64 (x.kid 13).gen, .int .i64 (x.kid 14).num, .int .i64 (x.kid 14).gen, .int .i64 (x.kid 15).num, .int .i64 (x.kid 15).gen]
theorem Nd.size (x : Nd) : x.cells.length = 35 := rfl
/-- What was done: a node was got, or one was laid down. -/
structure Dd where
  al : Bool
  ref : Ref
  nd : Nd
abbrev Dd.cells (x : Dd) : List Value := [.bool x.al, .int .i64 x.ref.num, .int .i64 x.ref.gen, .bool x.nd.leaf, .int .i64 x.nd.cnt, .slice x.nd.sl.a x.nd.sl.n x.nd.sl.c, .int .i64 (x.nd.kid 0).num, .int .i64 (x.nd.kid 0).gen, .int .i64 (x.nd.kid 1).num, .int .i64 (x.nd.kid 1).gen, .int .i64 (x.nd.kid 2).num, .int .i64 (x.nd.kid 2).gen, .int .i64 (x.nd.kid 3).num, .int .i64 (x.nd.kid 3).gen, .int .i64 (x.nd.kid 4).num, .int .i64 (x.nd.kid 4).gen, .int .i64 (x.nd.kid 5).num, .int .i64 (x.nd.kid 5).gen, .int .i64 (x.nd.kid 6).num, .int .i64 (x.nd.kid 6).gen, .int .i64 (x.nd.kid 7).num, .int .i64 (x.nd.kid 7).gen, .int .i64 (x.nd.kid 8).num, .int .i64 (x.nd.kid 8).gen, .int .i64 (x.nd.kid 9).num, .int .i64 (x.nd.kid 9).gen, .int .i64 (x.nd.kid 10).num, .int .i64 (x.nd.kid 10).gen, .int .i64 (x.nd.kid 11).num, .int .i64 (x.nd.kid 11).gen, .int .i64 (x.nd.kid 12).num, .int .i64 (x.nd.kid 12).gen, .int .i64 (x.nd.kid 13).num, .int .i64 (x.nd.kid 13).gen, .int .i64 (x.nd.kid 14).num, .int .i64 (x.nd.kid 14).gen, .int .i64 (x.nd.kid 15).num, .int .i64 (x.nd.kid 15).gen]
theorem Dd.size (x : Dd) : x.cells.length = 38 := rfl
/-- The same node, its items elsewhere. -/
abbrev Nd.at (x : Nd) (s : Sli) : Nd := { x with sl := s }
def Nd.zero : Nd := ⟨false, 0, ⟨none, 0, 0⟩, [], fun _ => ⟨0, 0⟩⟩

/-! ### The first one that ..; -1 -/
def idxI {α : Type} (p : α → Bool) (xs : List α) : Int := if xs.findIdx p < xs.length then (xs.findIdx p : Nat) else -1
theorem idxI_hit {α : Type} {p : α → Bool} {xs : List α} {k : Nat} {x : α} (hx : xs[k]? = some x) (hp : p x = true) (ha : ∀ j y, j < k → xs[j]? = some y → p y = false) : idxI p xs = (k : Nat) := by
  obtain ⟨hk, rfl⟩ := List.getElem?_eq_some_iff.1 hx
  have : xs.findIdx p = k := by
    rw [List.findIdx_eq hk]
    exact ⟨hp, fun j hj => ha j _ hj (List.getElem?_eq_getElem (Nat.lt_trans hj hk))⟩
  rw [idxI, this, if_pos hk]
theorem idxI_miss {α : Type} {p : α → Bool} {xs : List α} (ha : ∀ j y, j < xs.length → xs[j]? = some y → p y = false) : idxI p xs = -1 := by
  rw [idxI, if_neg]
  intro h
  have := ha _ _ h (List.getElem?_eq_getElem h)
  rw [List.findIdx_getElem (w := h)] at this
  cases this

theorem Nd.kid_cells (x : Nd) (d : Nat) (hd : d < 16) : (x.cells.drop (3 + d * 2)).take 2 = (x.kid d).cells := by
  match d, hd with
  | 0, _ => rfl | 1, _ => rfl | 2, _ => rfl | 3, _ => rfl | 4, _ => rfl | 5, _ => rfl | 6, _ => rfl | 7, _ => rfl
  | 8, _ => rfl | 9, _ => rfl | 10, _ => rfl | 11, _ => rfl | 12, _ => rfl | 13, _ => rfl | 14, _ => rfl | 15, _ => rfl
  | n + 16, h => exact absurd h (by omega)
theorem idxI_cases {α : Type} (p : α → Bool) (xs : List α) : (idxI p xs = -1 ∧ xs[xs.findIdx p]? = none) ∨ ∃ k x, idxI p xs = ((k : Nat) : Int) ∧ xs[k]? = some x ∧ xs[xs.findIdx p]? = some x := by
  unfold idxI
  by_cases h : xs.findIdx p < xs.length
  · exact .inr ⟨_, _, if_pos h, List.getElem?_eq_getElem h, List.getElem?_eq_getElem h⟩
  · exact .inl ⟨if_neg h, List.getElem?_eq_none (by omega)⟩

/-! ### Tapes -/
structure TapeS where
  nodes : List Nd
  most : Int
  lost : Int
  log : List Dd
  got : Int
def TapeS.look (σ : TapeS) (r : Ref) : Option Nd := if r.gen ≠ 1 ∨ r.num < 1 ∨ (σ.nodes.length : Int) < r.num ∨ r.num = σ.lost then none else σ.nodes[(r.num - 1).toNat]?
abbrev TapeS.node (σ : TapeS) (r : Ref) : Nd := (σ.look r).getD Nd.zero
abbrev TapeS.saw (σ : TapeS) (r : Ref) : TapeS := { σ with log := σ.log ++ [⟨false, r, Nd.zero⟩] }
theorem look_none {σ : TapeS} {r : Ref} (h : r.gen ≠ 1 ∨ r.num < 1 ∨ (σ.nodes.length : Int) < r.num ∨ r.num = σ.lost) : σ.look r = none := if_pos h
theorem look_some {σ : TapeS} {r : Ref} {k : Nat} {n : Nd} (h1 : r.gen = 1) (h2 : ¬ r.num < 1) (h3 : ¬ (σ.nodes.length : Int) < r.num) (h4 : ¬ r.num = σ.lost) (hk : r.num = (k : Int) + 1) (hn : σ.nodes[k]? = some n) : σ.look r = some n := by
  rw [TapeS.look, if_neg (by rintro (h | h | h | h); exact h h1; exact h2 h; exact h3 h; exact h4 h), hk]
  rw [show ((k : Int) + 1 - 1).toNat = k by omega]
  exact hn

def TapeS.full (σ : TapeS) : Bool := decide (σ.most ≤ (σ.nodes.length : Int))
/-- A node is laid down: its items lie at s1 in the log, at s2 among the nodes. -/
def TapeS.laid (σ : TapeS) (n : Nd) (s1 s2 : Sli) : TapeS :=
  bif σ.full then { σ with log := σ.log ++ [⟨true, ⟨0, 0⟩, n.at s1⟩] } else { σ with nodes := σ.nodes ++ [n.at s2], log := σ.log ++ [⟨true, ⟨0, 0⟩, n.at s1⟩] }
def TapeS.newRef (σ : TapeS) : Ref := bif σ.full then ⟨0, 0⟩ else ⟨(σ.nodes.length : Int) + 1, 1⟩
def TapeS.newErr (σ : TapeS) : Int := bif σ.full then 5 else 0

/-- A walk over a tree, under way. -/
structure St where
  σ : TapeS
  got : Int
  rs : List Rtd
/-- What the node r at the level l is; none: it is lost. -/
def St.node (S : St) (r : Ref) (l : Nat) : Option Nd :=
  if 1048576 ≤ S.got then none else match S.σ.look r with
    | some n => if n.leaf = true ∨ l < 16 then some n else none
    | none => none
def St.seen (S : St) (r : Ref) : St := if 1048576 ≤ S.got then S else { S with σ := S.σ.saw r, got := S.got + 1 }
def lostErr (o : Option Nd) : Int := if o.isSome then 0 else 130

theorem St.node_lt {S : St} {r : Ref} {l : Nat} {n : Nd} (h : S.node r l = some n) (hl : n.leaf = false) : l < 16 := by
  unfold St.node at h
  split at h
  · cases h
  · split at h
    · split at h
      · rename_i m _ hm
        injection h with h
        subst h
        rcases hm with hm | hm
        · rw [hl] at hm; cases hm
        · exact hm
      · cases h
    · cases h
theorem St.seen_nodes (S : St) (r : Ref) : (S.seen r).σ.nodes = S.σ.nodes := by unfold St.seen; split <;> rfl
theorem St.seen_log (S : St) (r : Ref) : (S.seen r).σ.log.length ≤ S.σ.log.length + 1 := by unfold St.seen; split <;> simp
theorem St.seen_got (S : St) (r : Ref) (h : 0 ≤ S.got) : 0 ≤ (S.seen r).got := by
  unfold St.seen
  split
  · exact h
  · show 0 ≤ S.got + 1
    omega
def Item.zero : Item := ⟨ByteArray.empty, 0, 0, 0, ByteArray.empty, ⟨none, 0, 0⟩, ⟨none, 0, 0⟩⟩
/-- What Find tells. -/
inductive Fr where
  | lost | miss | hit (x : Item)
def Fr.item : Fr → Item
  | .hit x => x
  | _ => Item.zero
def Fr.has : Fr → Bool
  | .hit _ => true
  | _ => false
def Fr.err : Fr → Int
  | .lost => 130
  | _ => 0
def hitOf (key : ByteArray) (its : List Item) : Fr := match its[its.findIdx (fun x => x.key.toList == key.toList)]? with
  | some x => .hit x
  | none => .miss
def findM (key : ByteArray) : Nat → St → Ref → Nat → Fr × St
  | 0, S, _, _ => (.lost, S)
  | n + 1, S, r, l =>
    bif r.num == 0 && r.gen == 0 then (.miss, S) else match S.node r l with
      | none => (.lost, S.seen r)
      | some nd => bif nd.leaf then (hitOf key nd.its, S.seen r) else findM key n (S.seen r) (nd.kid (digitOf key l)) (l + 1)

/-! ### Plans -/
structure PlC where
  stays : Bool
  ref : Ref
  had : Int
  cnt : Int
  leaf : Bool
  sl : Sli
  kl : Sli
abbrev PlC.cells (x : PlC) : List Value := [.bool x.stays, .int .i64 x.ref.num, .int .i64 x.ref.gen, .int .i64 x.had, .int .i64 x.cnt, .bool x.leaf, .slice x.sl.a x.sl.n x.sl.c, .slice x.kl.a x.kl.n x.kl.c]
inductive Pl where
  | stay (r : Ref)
  | leaf (had : Int) (its : List Item)
  | branch (had cnt : Int) (kids : Nat → Pl)
abbrev nilS : Sli := ⟨none, 0, 0⟩
def PlM : Pl → World → Tg → PlC → Prop
  | .stay r, _, _, c => c = ⟨true, r, 0, 0, false, nilS, nilS⟩
  | .leaf had its, w, g, c => ∃ sl, c = ⟨false, ⟨0, 0⟩, had, its.length, true, sl, nilS⟩ ∧ Ls 7 Item.cells w g sl its
  | .branch had cnt k, w, g, c => ∃ kl, c = ⟨false, ⟨0, 0⟩, had, cnt, false, nilS, kl⟩ ∧ ∃ cs : Nat → PlC, Ls 8 PlC.cells w g kl ((List.range 16).map cs) ∧ ∀ d, d < 16 → PlM (k d) w g (cs d)
theorem PlM.mv {U : Nat → Prop} {w w' : World} {g g' : Tg} (m : Mv U w g w' g') (hn : ¬ U 0) : ∀ (P : Pl) (c : PlC), PlM P w g c → PlM P w' g' c
  | .stay _, _, h => h
  | .leaf _ _, _, ⟨sl, e, h⟩ => ⟨sl, e, h.mv m hn⟩
  | .branch _ _ k, _, ⟨kl, e, cs, h, hk⟩ => ⟨kl, e, cs, h.mv m hn, fun d hd => PlM.mv m hn (k d) (cs d) (hk d hd)⟩
/-- All items of a plan. -/
def Pl.all : Pl → List Item
  | .stay _ => []
  | .leaf _ its => its
  | .branch _ _ k => (List.range 16).flatMap fun d => (k d).all
theorem flat_take {α : Type} {as : List (List α)} {k : Nat} {a : List α} (h : as[k]? = some a) : (as.take (k + 1)).flatten = (as.take k).flatten ++ a := by
  obtain ⟨hk, rfl⟩ := List.getElem?_eq_some_iff.1 h
  rw [List.take_succ_eq_append_getElem hk, List.flatten_append]
  simp
theorem flat_le {α : Type} {as : List (List α)} {k : Nat} {a : List α} (h : as[k]? = some a) : (as.take k).flatten.length + a.length ≤ as.flatten.length := by
  have e := congrArg List.length (flat_take h)
  have : as.flatten = (as.take (k + 1)).flatten ++ (as.drop (k + 1)).flatten := by rw [← List.flatten_append, List.take_append_drop]
  rw [this, List.length_append, e, List.length_append]
  omega

/-- The new tree of items at the level 16 - n. -/
def bld : Nat → List Item → Int → Pl
  | 0, its, had => .leaf had its
  | n + 1, its, had => if its.length ≤ 4 then .leaf had its else .branch had its.length (fun d => bld n (its.filter fun x => digitOf x.key (15 - n) == d) 0)

/-! ### Where copies of items lie does not matter -/
abbrev Nd.er (x : Nd) : Nd := x.at nilS
abbrev Dd.er (x : Dd) : Dd := { x with nd := x.nd.er }
def TapeS.er (σ : TapeS) : TapeS := { σ with nodes := σ.nodes.map Nd.er, log := σ.log.map Dd.er }
theorem TapeS.er_full (σ : TapeS) : σ.er.full = σ.full := by simp [TapeS.er, TapeS.full]
theorem TapeS.er_newRef (σ : TapeS) : σ.er.newRef = σ.newRef := by
  unfold TapeS.newRef; rw [TapeS.er_full]; simp [TapeS.er]
theorem TapeS.er_newErr (σ : TapeS) : σ.er.newErr = σ.newErr := by unfold TapeS.newErr; rw [TapeS.er_full]
theorem TapeS.er_laid (σ : TapeS) (n : Nd) (s1 s2 : Sli) : (σ.laid n s1 s2).er = σ.er.laid n.er nilS nilS := by
  unfold TapeS.laid; rw [TapeS.er_full]
  cases σ.full <;> simp [TapeS.er]
def upd {α : Type} (f : Nat → α) (d : Nat) (x : α) : Nat → α := fun i => bif Nat.beq i d then x else f i
def TapeS.alloc (σ : TapeS) (n : Nd) : (Ref × Int) × TapeS := ((σ.newRef, σ.newErr), σ.laid n nilS nilS)
/-- Kids are laid down one behind the other. -/
def layKids (f : Nat → TapeS → (Ref × Int) × TapeS) : Nat → Nat → (Nat → Ref) → TapeS → ((Nat → Ref) × Int) × TapeS
  | 0, _, kid, σ => ((kid, 0), σ)
  | n + 1, d, kid, σ => bif (f d σ).1.2 == 0 then layKids f n (d + 1) (upd kid d (f d σ).1.1) (f d σ).2 else ((kid, (f d σ).1.2), (f d σ).2)
def layM : Pl → TapeS → (Ref × Int) × TapeS
  | .stay r, σ => ((r, 0), σ)
  | .leaf _ its, σ => bif its.length == 0 then ((⟨0, 0⟩, 0), σ) else σ.alloc ⟨true, its.length, nilS, its, fun _ => ⟨0, 0⟩⟩
  | .branch _ cnt k, σ =>
    bif (layKids (fun d => layM (k d)) 16 0 (fun _ => ⟨0, 0⟩) σ).1.2 == 0 then
      (layKids (fun d => layM (k d)) 16 0 (fun _ => ⟨0, 0⟩) σ).2.alloc ⟨false, cnt, nilS, [], (layKids (fun d => layM (k d)) 16 0 (fun _ => ⟨0, 0⟩) σ).1.1⟩
    else ((⟨0, 0⟩, (layKids (fun d => layM (k d)) 16 0 (fun _ => ⟨0, 0⟩) σ).1.2), (layKids (fun d => layM (k d)) 16 0 (fun _ => ⟨0, 0⟩) σ).2)
theorem laid_nodes (σ : TapeS) (n : Nd) (s1 s2 : Sli) : (σ.laid n s1 s2).nodes.length ≤ σ.nodes.length + 1 := by
  unfold TapeS.laid; cases σ.full <;> simp
theorem laid_log (σ : TapeS) (n : Nd) (s1 s2 : Sli) : (σ.laid n s1 s2).log.length ≤ σ.log.length + 1 := by
  unfold TapeS.laid; cases σ.full <;> simp
def brM (cnt : Int) (F : ((Nat → Ref) × Int) × TapeS) : (Ref × Int) × TapeS :=
  bif F.1.2 == 0 then F.2.alloc ⟨false, cnt, nilS, [], F.1.1⟩ else ((⟨0, 0⟩, F.1.2), F.2)
theorem layM_branch (had cnt : Int) (k : Nat → Pl) (σ : TapeS) : layM (.branch had cnt k) σ = brM cnt (layKids (fun d => layM (k d)) 16 0 (fun _ => ⟨0, 0⟩) σ) := by
  simp only [layM, brM]
/-- The sum of n numbers from k on. -/
def sumF (sz : Nat → Nat) : Nat → Nat → Nat
  | 0, _ => 0
  | n + 1, k => sz k + sumF sz n (k + 1)
def Pl.size : Pl → Nat
  | .stay _ => 0
  | .leaf _ _ => 1
  | .branch _ _ k => sumF (fun d => (k d).size) 16 0 + 1
theorem Nd.cells_upd (x : Nd) (d : Nat) (hd : d < 16) (r : Ref) : x.cells.take (3 + d * 2) ++ r.cells ++ x.cells.drop (3 + d * 2 + 2) = ({ x with kid := upd x.kid d r } : Nd).cells := by
  match d, hd with
  | 0, _ => rfl | 1, _ => rfl | 2, _ => rfl | 3, _ => rfl | 4, _ => rfl | 5, _ => rfl | 6, _ => rfl | 7, _ => rfl
  | 8, _ => rfl | 9, _ => rfl | 10, _ => rfl | 11, _ => rfl | 12, _ => rfl | 13, _ => rfl | 14, _ => rfl | 15, _ => rfl
  | n + 16, h => exact absurd h (by omega)

/-! ### Sets of tags -/
/-- The tags from a on, below b. -/
def Rg (a b : Nat) : Nat → Prop := fun t => a ≤ t ∧ t < b
/-- T, and whatever is from t0 on. -/
def Lo (T : Nat → Prop) (t0 : Nat) : Nat → Prop := fun t => T t ∨ t0 ≤ t
theorem nrg {a b t : Nat} (h : t < a ∨ b ≤ t) : ¬ Rg a b t := fun ⟨h1, h2⟩ => by omega
theorem neq {t t' : Nat} (h : t' ≠ t) : ¬ (fun x => x = t) t' := h
theorem eq_rg {a b t : Nat} (h : a ≤ t ∧ t < b) : ∀ x, (fun x => x = t) x → Rg a b x := fun x hx => by subst hx; exact h
theorem rg_rg {a b c d : Nat} (h : c ≤ a) (h' : b ≤ d) : ∀ x, Rg a b x → Rg c d x := fun _ ⟨h1, h2⟩ => ⟨by omega, by omega⟩
theorem eq_lo {T : Nat → Prop} {t0 t : Nat} (h : t0 ≤ t) : ∀ x, (fun x => x = t) x → Lo T t0 x := fun x hx => by subst hx; exact .inr h
theorem rg_lo {T : Nat → Prop} {t0 a b : Nat} (h : t0 ≤ a) : ∀ x, Rg a b x → Lo T t0 x := fun _ hx => .inr (Nat.le_trans h hx.1)
theorem le_lo {T U : Nat → Prop} {t0 : Nat} (h : ∀ x, U x → T x) : ∀ x, U x → Lo T t0 x := fun x hx => .inl (h x hx)
theorem nlo {T : Nat → Prop} {t t0 : Nat} (h : ¬ T t) (h' : t < t0) : ¬ Lo T t0 t := fun h1 => h1.elim h fun h2 => by omega
theorem all_snoc {α : Type} {R : α → Prop} {l : List α} {x : α} (h : ∀ d ∈ l, R d) (hx : R x) : ∀ d ∈ l ++ [x], R d := fun d hd => by
  rcases List.mem_append.1 hd with h1 | h1
  · exact h d h1
  · rw [List.mem_singleton] at h1; subst h1; exact hx
theorem eq_eq {t : Nat} : ∀ x, (fun x => x = t) x → (fun x => x = t) x := fun _ h => h
/-- A tag that no block has. -/
theorem fresh_tag (w : World) (g : Tg) (N : Nat) : ∃ t0, N ≤ t0 ∧ ∀ b, b < w.heap.size → g b < t0 := by
  have : ∀ m, ∃ t0, N ≤ t0 ∧ ∀ b, b < m → g b < t0 := by
    intro m
    induction m with
    | zero => exact ⟨N, Nat.le_refl _, fun _ h => absurd h (Nat.not_lt_zero _)⟩
    | succ m ih =>
      obtain ⟨t0, h1, h2⟩ := ih
      refine ⟨max t0 (g m + 1), by omega, fun b hb => ?_⟩
      rcases Nat.lt_or_ge b m with h | h
      · have := h2 b h; omega
      · have : b = m := by omega
        subst this; omega
  exact this _
theorem Mv.shut {T : Nat → Prop} {t0 : Nat} {w0 w : World} {g0 g : Tg} (h : Mv (Lo T t0) w0 g0 w g) (hf : ∀ b, b < w0.heap.size → g0 b < t0) : Mv T w0 g0 w g :=
  ⟨h.os, h.tape, h.output, h.size, fun b hb hn => h.tag b hb fun h' => h'.elim hn fun h' => by have := hf b hb; omega,
    fun b hb hn => h.keep b hb fun h' => h'.elim hn fun h' => by have := hf b hb; omega⟩

/-- From offset o on block b, of the tag t, has the cells cs. -/
def Rt (t : Nat) (w : World) (g : Tg) (b o : Nat) (cs : List Value) : Prop := b < w.heap.size ∧ g b = t ∧ ∀ j, j < cs.length → w.cell? ⟨b, o + j, none⟩ = cs[j]?
theorem Rt.mv {t : Nat} {U : Nat → Prop} {w w' : World} {g g' : Tg} {b o : Nat} {cs : List Value} (h : Rt t w g b o cs) (m : Mv U w g w' g') (hn : ¬ U t) : Rt t w' g' b o cs :=
  ⟨Nat.lt_of_lt_of_le h.1 m.size, (m.tag b h.1 (by rw [h.2.1]; exact hn)).trans h.2.1, fun j hj => (m.cell (p := ⟨b, o + j, none⟩) h.1 (by rw [h.2.1]; exact hn)).trans (h.2.2 j hj)⟩
theorem Rt.part {t : Nat} {w : World} {g : Tg} {b o : Nat} {cs : List Value} (h : Rt t w g b o cs) (k n : Nat) (hk : k + n ≤ cs.length) : ∀ j, j < n → w.cell? ⟨b, o + k + j, none⟩ = ((cs.drop k).take n)[j]? := fun j hj => by
  rw [Nat.add_assoc, h.2.2 (k + j) (by omega), List.getElem?_take, if_pos hj, List.getElem?_drop]
theorem get_some {α : Type} {xs : List α} {i : Nat} (h : i < xs.length) : ∃ x, xs[i]? = some x := ⟨xs[i], List.getElem?_eq_getElem h⟩
theorem Ls.elt {α : Type} {z : Nat} {f : α → List Value} {w : World} {g : Tg} {s : Sli} {xs : List α} (h : Ls z f w g s xs) {i : Nat} {x : α} (hx : xs[i]? = some x) :
    ∃ b o, s.a = some ⟨b, o, none⟩ ∧ i < s.n ∧ Rt 0 w g b (o + i * z) (f x) := by
  obtain ⟨hi, rfl⟩ := List.getElem?_eq_some_iff.1 hx
  obtain ⟨b, o, h1, h2, h3, h4⟩ := h.at i hi
  exact ⟨b, o, h1, by rw [h.len]; exact hi, h2, h3, fun j hj => h4 j (by rw [← h.size]; exact hj)⟩

/-- What is asked of an element's type: so many cells, so many bytes. -/
def Elt (P : Program) (E : TypeId) (z bytes : Nat) : Prop := (P.info? E).map (fun i => (i.size, i.bytes, i.zero.map (fun v => v.cells.size))) = some (z, bytes, some z) ∧ 0 < z
theorem Elt.out {P : Program} {E : TypeId} {z bytes : Nat} (h : Elt P E z bytes) : ∃ i zv, P.info? E = some i ∧ i.zero = some zv ∧ i.size = z ∧ i.bytes = bytes ∧ zv.cells.size = z ∧ 0 < z := by
  obtain ⟨h1, h2⟩ := h
  cases hq : P.info? E with
  | none => simp [hq] at h1
  | some i =>
    cases hz : i.zero with
    | none => simp [hq, hz] at h1
    | some v =>
      simp [hq, hz] at h1
      exact ⟨i, v, rfl, hz, h1.1, h1.2.1, h1.2.2, h2⟩
theorem exec_eqnil {P : Program} {n : Nat} {ws : List (Nat × Value)} {o : Oper} {w : World} {T T' : TypeId} {x y : Operand} {a : Option Addr} {m c : Nat} (ho : o.op = .binOp .eql T x y T') (h2 : (binOp .eql T (.slice a m c) (.slice none 0 0)).run P w = .ok (.bool a.isNone) w)
    (hx : opv n ws x = .slice a m c) (hy : opv n ws y = .slice none 0 0) : (execOp (opv n ws) o).run P w = .ok (.value (.bool a.isNone)) w := by
  unfold execOp
  simp only [ho, hx, hy]
  have h1 : (eqGuard .eql T x y (.slice a m c) (.slice none 0 0)).run P w = .ok () w := rfl
  rw [Sem.run_bind, Sem.run_bind, h1]
  simp only [Result.andThen_ok, h2]
  rfl

/-- The slice s grows: its row, of the tag t, is whole its own. -/
structure Gs {α : Type} (t : Nat) (E : TypeId) (z : Nat) (f : α → List Value) (w : World) (g : Tg) (s : Sli) (xs : List α) : Prop where
  len : s.n = xs.length
  size : ∀ x, (f x).length = z
  row : w.ownsRow 0 E z s.v s.n (xs.flatMap f)
  tag : ∀ a, s.a = some a → g a.block = t ∧ a.block < w.heap.size

section
variable {α : Type} {t : Nat} {E : TypeId} {z : Nat} {f : α → List Value} {w w' : World} {g g' : Tg} {s : Sli} {xs : List α}
theorem Gs.mv {U : Nat → Prop} (h : Gs t E z f w g s xs) (m : Mv U w g w' g') (hn : ¬ U t) : Gs t E z f w' g' s xs := by
  refine ⟨h.len, h.size, ⟨h.row.1, ?_⟩, fun a ha => ?_⟩
  · rcases h.row.2 with h1 | ⟨b, cap, cur, h1, h2, h3, h4⟩
    · exact .inl h1
    · refine .inr ⟨b, cap, cur, h1, h2, ?_, h4⟩
      have ha : s.a = some ⟨b, 0, none⟩ := by injection h1
      obtain ⟨h5, h6⟩ := h.tag _ ha
      exact (m.keep b h6 (by rw [h5]; exact hn)).trans h3
  · obtain ⟨h5, h6⟩ := h.tag a ha
    exact ⟨(m.tag _ h6 (by rw [h5]; exact hn)).trans h5, Nat.lt_of_lt_of_le h6 m.size⟩
theorem Gs.nil (t : Nat) (E : TypeId) (w : World) (g : Tg) (hf : ∀ x, (f x).length = z) : Gs t E z f w g ⟨none, 0, 0⟩ ([] : List α) :=
  ⟨rfl, hf, ⟨by simp, .inl ⟨rfl, rfl⟩⟩, fun _ h => by cases h⟩
/-- Where the row lies. -/
theorem Gs.mem (h : Gs t E z f w g s xs) (hx : xs ≠ []) : ∃ b rest, s.a = some ⟨b, 0, none⟩ ∧ g b = t ∧ Blk w b E (xs.flatMap f ++ rest) := by
  rcases h.row.2 with ⟨_, h2⟩ | ⟨b, cap, cur, h1, h2, h3, h4, _, h6, h7⟩
  · exact absurd (List.eq_nil_of_length_eq_zero (by rw [← h.len]; exact h2)) hx
  · have ha : s.a = some ⟨b, 0, none⟩ := by injection h1
    refine ⟨b, cur.toList.drop (s.n * z), ha, (h.tag _ ha).1, ?_⟩
    unfold Blk
    rw [← h7, List.take_append_drop]
    exact h3
theorem Gs.cap (h : Gs t E z f w g s xs) : s.n ≤ s.c := by
  rcases h.row.2 with ⟨h1, h2⟩ | ⟨b, cap, cur, h1, h2, h3, h4, _⟩
  · rw [h2]; exact Nat.zero_le _
  · have : s.c = cap := by injection h1
    omega
theorem Gs.anil (h : Gs t E z f w g s xs) (ha : s.a = none) : s.c = 0 := by
  rcases h.row.2 with ⟨h1, h2⟩ | ⟨b, cap, cur, h1, h2, h3, h4, _⟩
  · injection h1
  · have : s.a = some ⟨b, 0, none⟩ := by injection h1
    rw [ha] at this; cases this
/-- The element i's cells. -/
theorem Gs.at (h : Gs t E z f w g s xs) (i : Nat) (hi : i < xs.length) : ∃ b, s.a = some ⟨b, 0, none⟩ ∧ g b = t ∧ b < w.heap.size ∧ ∀ j, j < z → w.cell? ⟨b, 0 + i * z + j, none⟩ = (f xs[i])[j]? := by
  obtain ⟨b, rest, h1, h3, h4⟩ := h.mem (by intro e; simp [e] at hi)
  refine ⟨b, h1, h3, h4.lt, fun j hj => ?_⟩
  have hl : i * z + j < (xs.flatMap f).length := by
    rw [flat_len h.size]
    have : (i + 1) * z ≤ xs.length * z := Nat.mul_le_mul_right z hi
    rw [Nat.add_mul] at this; omega
  rw [Nat.zero_add, h4.cell, List.getElem?_append_left hl, flat_get h.size xs i hi j hj]

theorem Gs.elt (h : Gs t E z f w g s xs) {i : Nat} {x : α} (hx : xs[i]? = some x) : ∃ b, s.a = some ⟨b, 0, none⟩ ∧ i < s.n ∧ Rt t w g b (0 + i * z) (f x) := by
  obtain ⟨hi, rfl⟩ := List.getElem?_eq_some_iff.1 hx
  obtain ⟨b, h1, h2, h3, h4⟩ := h.at i hi
  exact ⟨b, h1, by rw [h.len]; exact hi, h3, h2, fun j hj => h4 j (by rw [← h.size]; exact hj)⟩

/-- The blocks of the tag t get the tag t'. -/
def recol (g : Tg) (t t' : Nat) : Tg := fun b => if g b = t then t' else g b
theorem Mv.recol (w : World) (g : Tg) (t t' : Nat) : Mv (fun x => x = t) w g w (recol g t t') :=
  ⟨rfl, rfl, rfl, Nat.le_refl _, fun b _ hn => if_neg hn, fun _ _ _ => rfl⟩
theorem Gs.recol (h : Gs t E z f w g s xs) (t' : Nat) : Gs t' E z f w (recol g t t') s xs :=
  ⟨h.len, h.size, h.row, fun a ha => ⟨if_pos (h.tag a ha).1, (h.tag a ha).2⟩⟩
theorem Bt.recol {b : Nat} {cs : List Value} (h : Bt t w g b E cs) (t' : Nat) : Bt t' w (recol g t t') b E cs := ⟨h.1, if_pos h.2⟩
theorem Gs.ice (h : Gs t E z f w g s xs) : Ls z f w (Proofs.Ytlfanphdnjoofaa.recol g t 0) s xs := by
  refine ⟨h.len, h.cap, h.anil, fun hx => ?_, h.size⟩
  obtain ⟨b, rest, h1, h3, h4⟩ := h.mem hx
  refine ⟨b, 0, h1, h4.lt, if_pos h3, fun j hj => ?_⟩
  rw [Nat.zero_add, h4.cell, List.getElem?_append_left hj]

/-- From where the appended elements are read. -/
def Src (w : World) (a : Option Addr) (cs : List Value) : Prop := cs ≠ [] → ∃ b o, a = some ⟨b, o, none⟩ ∧ ∀ j, j < cs.length → w.cell? ⟨b, o + j, none⟩ = cs[j]?
theorem Ls.src (h : Ls z f w g s xs) : Src w s.a (xs.flatMap f) := fun hne => by
  obtain ⟨b, o, e, r⟩ := h.mem (fun e => hne (by rw [e]; rfl))
  exact ⟨b, o, e, r.2.2⟩
theorem Gs.src (h : Gs t E z f w g s xs) : Src w s.a (xs.flatMap f) := fun hne => by
  obtain ⟨b, rest, h1, h3, h4⟩ := h.mem (fun e => hne (by rw [e]; rfl))
  exact ⟨b, 0, h1, fun j hj => by rw [Nat.zero_add, h4.cell, List.getElem?_append_left hj]⟩
theorem Blk.src {b : Nat} {cs : List Value} (h : Blk w b E cs) : Src w (some ⟨b, 0, none⟩) cs := fun _ => ⟨b, 0, rfl, fun j _ => by rw [Nat.zero_add]; exact h.cell j⟩

theorem Gs.made (hf : ∀ x, (f x).length = z) (zs : List α) (cur : Array Value) (cap : Nat) (h1 : zs.length ≤ cap) (h2 : cap ≤ maxLen) (h3 : cur.size = cap * z) (h4 : cur.toList.take (zs.length * z) = zs.flatMap f) :
    Gs t E z f (w.drew.alloc (.cells cur E (0, 0))) (tagged g w.heap.size t) ⟨some ⟨w.heap.size, 0, none⟩, zs.length, cap⟩ zs ∧ Mv (fun x => x = t) w g (w.drew.alloc (.cells cur E (0, 0))) (tagged g w.heap.size t) := by
  refine ⟨⟨rfl, hf, ⟨flat_len hf zs, .inr ⟨w.heap.size, cap, cur, rfl, Nat.zero_le _, heap_alloc_new w.drew _, h1, h2, h3, h4⟩⟩, fun a ha => ?_⟩, ?_⟩
  · injection ha with ha
    subst ha
    exact ⟨tagged_same _ _ _, by simp⟩
  · have := Mv.alloc (fun x => x = t) w.drew g (.cells cur E (0, 0)) t
    exact ⟨this.os, this.tape, this.output, this.size, this.tag, this.keep⟩

theorem run_append_gs {P : Program} {bytes : Nat} {T ty : TypeId} (hT : P.underlying T = some (.slice E)) (hE : Elt P E z bytes) (h : Gs t E z f w g s xs) (ys : List α) (a : Option Addr) (c : Nat)
    (hs : Src w a (ys.flatMap f)) (h1 : ∀ y, (f y).all (·.oneCell') = true) (hlen : (xs.length + ys.length) * bytes ≤ 140737488355328) (h63 : xs.length + ys.length ≤ 1099511627776) :
    ∃ s' w' g', (Builtin.append_ #[T, T] ty #[s.v, .slice a ys.length c]).run P w = .ok s'.v w' ∧ Gs t E z f w' g' s' (xs ++ ys) ∧ Mv (fun x => x = t) w g w' g' := by
  obtain ⟨i, zv, hi, hz, hsz, hby, hzs, hpos⟩ := hE.out
  by_cases hy : ys = []
  · subst hy
    refine ⟨s, w, g, ?_, by rw [List.append_nil]; exact h, Mv.refl _ _ _⟩
    have hc := h.cap
    have h0 : ∀ w : World, (Builtin.firstCells i.size 0 (.slice a 0 c)).run P w = .ok #[] w := by
      intro w
      cases a <;> simp [Builtin.firstCells, loadCells, loadCellsFrom]
    cases hsa : s.a with
    | none => simp [Builtin.append_, run_underlying hT, sizeOf, typeInfo, hi, Builtin.lenOf, h0, hsa, hc]
    | some b => simp [Builtin.append_, run_underlying hT, sizeOf, typeInfo, hi, Builtin.lenOf, h0, hsa, hc, storeCells]
  · subst hsz
    subst hby
    have hyl : 0 < ys.length := List.length_pos_iff.2 hy
    have hfl := flat_len h.size ys
    have hne : ys.flatMap f ≠ [] := by
      intro e
      rw [e] at hfl
      have := Nat.mul_pos hyl hpos
      simp at hfl
      omega
    obtain ⟨b, o, rfl, hc⟩ := hs hne
    have hnews : ∀ j u, (ys.flatMap f)[j]? = some u → w.cell? ((⟨b, o, none⟩ : Addr).add j) = some u := fun j u hj => by
      have hjl : j < (ys.flatMap f).length := (List.getElem?_eq_some_iff.1 hj).1
      rw [Addr.add_mid, hc j hjl, hj]
    have hone : ∀ u ∈ ys.flatMap f, u.oneCell' = true := fun u hu => by
      obtain ⟨y, _, hy⟩ := List.mem_flatMap.1 hu
      exact List.all_eq_true.1 (h1 y) u hy
    have hml : maxLen = 9223372036854775807 := rfl
    rcases h.row.2 with ⟨h2, h3⟩ | ⟨b', cap, cur, hv, hb1, hb2, hb3, hb4, hb5, hb6⟩
    · have hx : xs = [] := List.eq_nil_of_length_eq_zero (by rw [← h.len]; exact h3)
      subst hx
      have hr := run_append_nil (P := P) w T ty E i zv hT hi hz ⟨b, o, none⟩ ys.length c (ys.flatMap f) hfl hnews hyl (by omega) (by simp only [List.length_nil, Nat.zero_add] at hlen; omega)
      have hge := grownCap_ge w ys.length 0 E
      have hcm := grownCap_le_maxLen w ys.length 0 E (by omega)
      obtain ⟨hG, hW⟩ := Gs.made (t := t) (E := E) (w := w) (g := g) h.size ys ((ys.flatMap f).toArray ++ Builtin.zeroCells zv.cells (grownCap w ys.length 0 E - ys.length)) (grownCap w ys.length 0 E) hge hcm
        (by simp only [Array.size_append, List.size_toArray, size_zeroCells, hzs, hfl, ← Nat.add_mul]; congr 1; omega)
        (by simp only [Array.toList_append, ← hfl]; exact List.take_left)
      exact ⟨_, _, _, by rw [h2]; exact hr, hG, hW⟩
    · have hsl := h.len
      have hsa : s.a = some ⟨b', 0, none⟩ := by injection hv
      have hsc : s.c = cap := by injection hv
      obtain ⟨ht, hbl⟩ := h.tag _ hsa
      have hxl := flat_len h.size xs
      by_cases hroom : s.n + ys.length ≤ cap
      · have hfit : s.n * i.size + (ys.flatMap f).length ≤ cur.size := by rw [hfl, hb5, ← Nat.add_mul]; exact Nat.mul_le_mul_right _ hroom
        have hr := run_append_room (P := P) w T ty E i hT hi b' s.n cap cur hb2 ⟨b, o, none⟩ ys.length c (ys.flatMap f) hfl hnews hone hroom hfit
        refine ⟨⟨some ⟨b', 0, none⟩, s.n + ys.length, cap⟩, _, g, by rw [hv]; exact hr, ⟨by simp [hsl], h.size, ⟨?_, .inr ⟨b', cap, _, rfl, hb1, setRow_heap w b' cur _ E _ hb2, hroom, hb4, ?_, ?_⟩⟩, fun a ha => ?_⟩, ⟨rfl, rfl, rfl, by simp [World.setRow], fun _ _ _ => rfl, fun k _ hk => setRow_other w b' k _ (fun e => hk (by rw [e]; exact ht))⟩⟩
        · rw [flat_len h.size, List.length_append, hsl]
        · simp only [List.size_toArray, List.length_append, List.length_take, List.length_drop, Array.length_toList]
          omega
        · rw [hb6, List.flatMap_append]
          have e : (s.n + ys.length) * i.size = (xs.flatMap f ++ ys.flatMap f).length := by rw [List.length_append, hxl, hfl, ← Nat.add_mul, hsl]
          show List.take _ (xs.flatMap f ++ ys.flatMap f ++ _) = _
          rw [e]
          exact List.take_left
        · injection ha with ha
          subst ha
          exact ⟨ht, by simpa [World.setRow] using hbl⟩
      · have holds : ∀ j u, (xs.flatMap f)[j]? = some u → w.cell? ((⟨b', 0, none⟩ : Addr).add j) = some u := h.row.cells (g := b') (by rw [hv]; rfl)
        have hr := run_append_grow (P := P) w T ty E i zv hT hi hz ⟨b', 0, none⟩ s.n cap (xs.flatMap f) (by rw [hxl, hsl]) holds ⟨b, o, none⟩ ys.length c (ys.flatMap f) hfl hnews (by omega) (by omega) (growslice_fits (by omega) (by rw [hsl]; exact hlen))
        have hge := grownCap_ge w (s.n + ys.length) cap E
        have hcm := grownCap_le_maxLen w (s.n + ys.length) cap E (by omega)
        have hzl : (xs ++ ys).length = s.n + ys.length := by rw [List.length_append, hsl]
        obtain ⟨hG, hW⟩ := Gs.made (t := t) (E := E) (w := w) (g := g) h.size (xs ++ ys) ((xs.flatMap f).toArray ++ (ys.flatMap f).toArray ++ Builtin.zeroCells zv.cells (grownCap w (s.n + ys.length) cap E - (s.n + ys.length))) (grownCap w (s.n + ys.length) cap E)
          (by omega) hcm
          (by simp only [Array.size_append, List.size_toArray, size_zeroCells, hzs, hfl, hxl, ← Nat.add_mul]; congr 1; omega)
          (by simp only [Array.toList_append, List.flatMap_append, List.length_append, Nat.add_mul]
              rw [← hxl, ← hfl, ← List.length_append]; exact List.take_left)
        rw [hzl] at hG
        exact ⟨_, _, _, by rw [hv]; exact hr, hG, hW⟩

theorem flat_set {f : α → List Value} (hz : ∀ x, (f x).length = z) (x : α) : ∀ (xs : List α) (i : Nat), i < xs.length → (xs.set i x).flatMap f = (xs.flatMap f).take (i * z) ++ f x ++ (xs.flatMap f).drop (i * z + z)
  | y :: r, 0, _ => by
    rw [List.set_cons_zero, List.flatMap_cons, List.flatMap_cons, Nat.zero_mul, List.take_zero, List.nil_append, Nat.zero_add, ← hz y, List.drop_left]
  | y :: r, i + 1, h => by
    have e : (i + 1) * z = (f y).length + i * z := by rw [hz, Nat.add_mul]; omega
    rw [List.set_cons_succ, List.flatMap_cons, List.flatMap_cons, flat_set hz x r i (by simpa using h), e, List.take_length_add_append, Nat.add_assoc, List.drop_length_add_append]
    simp only [List.append_assoc]
/-- An element is written. -/
theorem Gs.set (h : Gs t E z f w g s xs) (i : Nat) (hi : i < xs.length) (x : α) :
    ∃ b, s.a = some ⟨b, 0, none⟩ ∧ b < w.heap.size ∧ Gs t E z f (w.setCells b (0 + i * z) (f x)) g s (xs.set i x) ∧ Mv (fun x => x = t) w g (w.setCells b (0 + i * z) (f x)) g ∧ ∃ cs, Blk w b E cs ∧ 0 + i * z + z ≤ cs.length := by
  rcases h.row.2 with ⟨h2, h3⟩ | ⟨b, cap, cur, hv, hb1, hb2, hb3, hb4, hb5, hb6⟩
  · rw [h.len] at h3; omega
  · have hsa : s.a = some ⟨b, 0, none⟩ := by injection hv
    obtain ⟨ht, hbl⟩ := h.tag _ hsa
    have hxl := flat_len h.size xs
    have hsl := h.len
    have hiz : i * z + z ≤ xs.length * z := by
      have : (i + 1) * z ≤ xs.length * z := Nat.mul_le_mul_right z hi
      rwa [Nat.add_mul, Nat.one_mul] at this
    have hcz : xs.length * z ≤ cap * z := Nat.mul_le_mul_right z (by omega)
    have hB : Blk w b E cur.toList := hb2
    have hcl : i * z + (f x).length ≤ cur.toList.length := by rw [h.size, Array.length_toList, hb5]; omega
    have hS := setCells_heap b (f x) (0 + i * z) w E cur.toList hB (by rw [Nat.zero_add]; exact hcl)
    rw [Nat.zero_add] at hS ⊢
    refine ⟨b, hsa, hbl, ⟨by rw [List.length_set]; exact hsl, h.size, ⟨?_, .inr ⟨b, cap, _, hv, hb1, hS, hb3, hb4, ?_, ?_⟩⟩, fun a ha => ?_⟩, (Mv.setCells w g b (i * z) (f x)).mono fun t' ht' => by rw [ht', ht], cur.toList, hB, by rw [h.size] at hcl; exact hcl⟩
    · rw [flat_len h.size, List.length_set, hsl]
    · simp only [List.size_toArray, List.length_append, List.length_take, List.length_drop, Array.length_toList, h.size] at hcl ⊢
      omega
    · rw [flat_set h.size x xs i hi, ← hb6, h.size]
      show List.take (s.n * z) (cur.toList.take (i * z) ++ f x ++ cur.toList.drop (i * z + z)) = _
      rw [hsl]
      apply List.ext_getElem?
      intro j
      simp only [List.getElem?_take, List.getElem?_append, List.length_append, List.length_take, List.getElem?_drop, h.size, Array.length_toList] at hcl ⊢
      repeat' split
      all_goals first | rfl | omega | (congr 1; omega) | skip
    · rw [hsa] at ha
      injection ha with ha
      subst ha
      exact ⟨ht, by rw [setCells_size]; exact hbl⟩

variable {P : Program} {ops : Array Oper} {Q : Exit → Act → World → Prop} {n : Nat} {ws : List (Nat × Value)} {o : Oper} {next : List (Nat × Value) → World → Prop}
theorem O.append (d : Nat) {bytes : Nat} {T : TypeId} {x y : Operand} (ys : List α) {a : Option Addr} {m c : Nat} (hg : Region.wanted o (yieldF n ws ops) = true) (hd : o.dst = some d) (ho : o.op = .call { callee := .builtin .append, args := #[x, y], argTypes := #[T, T] })
    (hT : P.underlying T = some (.slice E)) (hE : Elt P E z bytes) (hx : opv n ws x = s.v) (hy : opv n ws y = .slice a m c) (h : Gs t E z f w g s xs) (hm : m = ys.length)
    (hs : Src w a (ys.flatMap f)) (h1 : ∀ y, (f y).all (·.oneCell') = true) (hlen : (xs.length + ys.length) * bytes ≤ 140737488355328) (h63 : xs.length + ys.length ≤ 1099511627776)
    (hn : ∀ s' w' g', Gs t E z f w' g' s' (xs ++ ys) → Mv (fun x => x = t) w g w' g' → next ((d, s'.v) :: ws) w') : OpS P Q ops o n ws w next := by
  subst hm
  obtain ⟨s', w', g', hr, hG, hW⟩ := run_append_gs (ty := o.type) hT hE h ys a c hs h1 hlen h63
  refine O.run d s'.v w' hg hd ?_ (hn s' w' g' hG hW)
  unfold execOp
  simp only [ho, resolve, invoke, builtin, Sem.run_bind, Sem.run_pure, Result.andThen_ok, List.map_toArray, List.map_cons, List.map_nil, hx, hy, hr]
/-- An element's load, of one cell or several. -/
theorem exec_gload {Ty : TypeId} {x : Operand} {b i o0 m : Nat} {u : World} {cs : List Value} (ho : o.op = .load Ty x) (hx : opv n ws x = .pointer (some ⟨b, o0 + i * m, none⟩)) (hT : Agg P Ty m) (hl : cs.length = m)
    (hc : ∀ j, j < m → u.cell? ⟨b, o0 + i * m + j, none⟩ = cs[j]?) : (execOp (opv n ws) o).run P u = .ok (.value (.agg cs.toArray)) u :=
  exec_loads ho hx hT hl hc
/-- An element is written. -/
theorem O.gset (i : Nat) (v : α) {Ty : TypeId} {x y : Operand} {b : Nat} (hg : Region.wanted o (yieldF n ws ops) = true) (hd : o.dst = none) (ho : o.op = .store Ty x y)
    (hx : opv n ws x = .pointer (some ⟨b, 0 + i * z, none⟩)) (hy : opv n ws y = .agg (f v).toArray) (hT : Agg P Ty z) (h1 : ∀ y, (f y).all (·.oneCell') = true) (h : Gs t E z f w g s xs) (hi : i < xs.length) (hb : s.a = some ⟨b, 0, none⟩)
    (hn : ∀ w', Gs t E z f w' g s (xs.set i v) → Mv (fun x => x = t) w g w' g → next ws w') : OpS P Q ops o n ws w next := by
  obtain ⟨b', e1, _, hG, hW, cs, hB, hl⟩ := h.set i hi v
  have : b' = b := by rw [hb] at e1; injection e1 with e1; injection e1 with e1; exact e1.symm
  subst this
  exact O.runs _ hg hd (exec_store ho hx hy hT.2 hB (vs := f v) rfl (h.size v) hl (h1 v)) (hn _ hG hW)

/-- The empty literal. -/
theorem O.lit0 (t : Nat) (d : Nat) {T : Nat → Prop} {w0 : World} {g0 : Tg} {L : List KB} (hf : ∀ x, (f x).length = z) (hg : o.guard = none) (hd : o.dst = some d)
    (hx : (execOp (opv n ws) o).run P w = .ok (.value (.slice (some ⟨w.heap.size, 0, none⟩) 0 0)) (w.alloc (.cells #[] E (0, 0)))) (hK : Kn T w0 g0 L w g)
    (h : ∀ s w' g', Kn T w0 g0 L w' g' → Gs t E z f w' g' s ([] : List α) → Mv Nt w g w' g' → next ((d, s.v) :: ws) w') : OpS P Q ops o n ws w next := by
  have m := Mv.alloc Nt w g (.cells #[] E (0, 0)) t
  refine O.run d _ _ (by simp [Region.wanted, hg]) hd hx (h ⟨some ⟨w.heap.size, 0, none⟩, 0, 0⟩ _ _ (hK.step m nt_le quiet) ⟨rfl, hf, ⟨by simp, .inr ⟨w.heap.size, 0, #[], rfl, Nat.zero_le _, heap_alloc_new w _, Nat.le_refl _, Nat.zero_le _, by simp, by simp⟩⟩, fun a ha => ?_⟩ m)
  injection ha with ha
  subst ha
  exact ⟨tagged_same _ _ _, by simp⟩

theorem src1 {b : Nat} {cs : List Value} {x : α} (h : Blk w b E cs) (e : f x = cs) : Src w (some ⟨b, 0, none⟩) ([x].flatMap f) := by
  have : [x].flatMap f = cs := by rw [List.flatMap_cons, List.flatMap_nil, List.append_nil, e]
  rw [this]; exact h.src

/-! ### Sixteen parts, each growing -/
abbrev psCells (ps : Nat → Sli) : List Value := [.slice (ps 0).a (ps 0).n (ps 0).c, .slice (ps 1).a (ps 1).n (ps 1).c, .slice (ps 2).a (ps 2).n (ps 2).c, .slice (ps 3).a (ps 3).n (ps 3).c, .slice (ps 4).a (ps 4).n (ps 4).c, .slice (ps 5).a (ps 5).n (ps 5).c, .slice (ps 6).a (ps 6).n (ps 6).c, .slice (ps 7).a (ps 7).n (ps 7).c, .slice (ps 8).a (ps 8).n (ps 8).c, .slice (ps 9).a (ps 9).n (ps 9).c, .slice (ps 10).a (ps 10).n (ps 10).c, .slice (ps 11).a (ps 11).n (ps 11).c, .slice (ps 12).a (ps 12).n (ps 12).c, .slice (ps 13).a (ps 13).n (ps 13).c, .slice (ps 14).a (ps 14).n (ps 14).c, .slice (ps 15).a (ps 15).n (ps 15).c]
theorem ps_get (ps : Nat → Sli) (d : Nat) (hd : d < 16) : (psCells ps)[0 + d * 1]? = some (.slice (ps d).a (ps d).n (ps d).c) := by
  match d, hd with
  | 0, _ => rfl | 1, _ => rfl | 2, _ => rfl | 3, _ => rfl | 4, _ => rfl | 5, _ => rfl | 6, _ => rfl | 7, _ => rfl | 8, _ => rfl | 9, _ => rfl | 10, _ => rfl | 11, _ => rfl | 12, _ => rfl | 13, _ => rfl | 14, _ => rfl | 15, _ => rfl
  | n + 16, h => exact absurd h (by omega)
theorem ps_set (ps : Nat → Sli) (d : Nat) (hd : d < 16) (s : Sli) : (psCells ps).set (0 + d * 1) (.slice s.a s.n s.c) = psCells (upd ps d s) := by
  match d, hd with
  | 0, _ => rfl | 1, _ => rfl | 2, _ => rfl | 3, _ => rfl | 4, _ => rfl | 5, _ => rfl | 6, _ => rfl | 7, _ => rfl | 8, _ => rfl | 9, _ => rfl | 10, _ => rfl | 11, _ => rfl | 12, _ => rfl | 13, _ => rfl | 14, _ => rfl | 15, _ => rfl
  | n + 16, h => exact absurd h (by omega)
/-- Part d is what has the digit d; its row has the tag t + d. -/
def PtsF (t : Nat) (E : TypeId) (l : Nat) (w : World) (g : Tg) (ps : Nat → Sli) (xs : List Item) : Prop := ∀ d, d < 16 → Gs (t + d) E 7 Item.cells w g (ps d) (xs.filter fun x => digitOf x.key l == d)
theorem PtsF.nil (t : Nat) (E : TypeId) (l : Nat) (w : World) (g : Tg) : PtsF t E l w g (fun _ => nilS) [] := fun _ _ => Gs.nil _ _ _ _ Item.size
theorem PtsF.mv {t : Nat} {E : TypeId} {l : Nat} {U : Nat → Prop} {w w' : World} {g g' : Tg} {ps : Nat → Sli} {xs : List Item} (h : PtsF t E l w g ps xs) (m : Mv U w g w' g') (hn : ∀ x, t ≤ x → x < t + 16 → ¬ U x) : PtsF t E l w' g' ps xs :=
  fun d hd => (h d hd).mv m (hn _ (by omega) (by omega))
theorem PtsF.upd {t : Nat} {E : TypeId} {l : Nat} {w w' : World} {g g' : Tg} {ps : Nat → Sli} {xs : List Item} {x : Item} {s : Sli} (h : PtsF t E l w g ps xs) (m : Mv (fun y => y = t + digitOf x.key l) w g w' g')
    (hG : Gs (t + digitOf x.key l) E 7 Item.cells w' g' s ((xs.filter fun y => digitOf y.key l == digitOf x.key l) ++ [x])) : PtsF t E l w' g' (Proofs.Ytlfanphdnjoofaa.upd ps (digitOf x.key l) s) (xs ++ [x]) := fun d hd => by
  rw [List.filter_append]
  by_cases hdx : d = digitOf x.key l
  · subst hdx
    have e : Proofs.Ytlfanphdnjoofaa.upd ps (digitOf x.key l) s (digitOf x.key l) = s := by simp [Proofs.Ytlfanphdnjoofaa.upd]
    have e2 : List.filter (fun y => digitOf y.key l == digitOf x.key l) [x] = [x] := by simp
    rw [e, e2]
    exact hG
  · have e : Proofs.Ytlfanphdnjoofaa.upd ps (digitOf x.key l) s d = ps d := by
      have : Nat.beq d (digitOf x.key l) = false := beq_false hdx
      simp [Proofs.Ytlfanphdnjoofaa.upd, this]
    have e2 : List.filter (fun y => digitOf y.key l == d) [x] = [] := by
      have : (digitOf x.key l == d) = false := by rw [beq_eq_false_iff_ne]; exact fun e => hdx e.symm
      simp [this]
    rw [e, e2, List.append_nil]
    exact (h d hd).mv m (neq (by omega))
/-- All tags from a on, below b, become t'. -/
def recolR (g : Tg) (a b t' : Nat) : Tg := fun k => if a ≤ g k ∧ g k < b then t' else g k
theorem Mv.recolR (w : World) (g : Tg) (a b t' : Nat) : Mv (Rg a b) w g w (recolR g a b t') :=
  ⟨rfl, rfl, rfl, Nat.le_refl _, fun k _ hn => if_neg hn, fun _ _ _ => rfl⟩
def PtsL (l : Nat) (w : World) (g : Tg) (ps : Nat → Sli) (xs : List Item) : Prop := ∀ d, d < 16 → Ls 7 Item.cells w g (ps d) (xs.filter fun x => digitOf x.key l == d)
theorem PtsL.mv {l : Nat} {U : Nat → Prop} {w w' : World} {g g' : Tg} {ps : Nat → Sli} {xs : List Item} (h : PtsL l w g ps xs) (m : Mv U w g w' g') (hn : ¬ U 0) : PtsL l w' g' ps xs := fun d hd => (h d hd).mv m hn
/-- Each of the kids reads as its plan. -/
def KidsM (f : Nat → Pl) (w : World) (g : Tg) (cs : List PlC) : Prop := ∀ i c, cs[i]? = some c → PlM (f i) w g c
theorem KidsM.mv {f : Nat → Pl} {U : Nat → Prop} {w w' : World} {g g' : Tg} {cs : List PlC} (h : KidsM f w g cs) (m : Mv U w g w' g') (hn : ¬ U 0) : KidsM f w' g' cs := fun i c hc => PlM.mv m hn _ _ (h i c hc)
theorem KidsM.snoc {f : Nat → Pl} {w : World} {g : Tg} {cs : List PlC} {c : PlC} (h : KidsM f w g cs) (hc : PlM (f cs.length) w g c) : KidsM f w g (cs ++ [c]) := fun i x hx => by
  rw [List.getElem?_append] at hx
  split at hx
  · exact h i x hx
  · rename_i hi
    have : i - cs.length = 0 := by
      rcases Nat.eq_zero_or_pos (i - cs.length) with h0 | h0
      · exact h0
      · rw [List.getElem?_eq_none (by simp; omega)] at hx; cases hx
    have hi2 : i = cs.length := by omega
    rw [this] at hx
    simp at hx
    subst hx hi2
    exact hc
theorem take_snoc {α : Type} {xs : List α} {k : Nat} {x : α} (h : xs[k]? = some x) : xs.take (k + 1) = xs.take k ++ [x] := by
  obtain ⟨h1, rfl⟩ := List.getElem?_eq_some_iff.1 h
  exact List.take_succ_eq_append_getElem h1
/-- Sixteen kids make a branch. -/
theorem KidsM.branch {f : Nat → Pl} {w : World} {g : Tg} {cs : List PlC} {kl : Sli} {had cnt : Int} (h : KidsM f w g cs) (hl : cs.length = 16) (hk : Ls 8 PlC.cells w g kl cs) : PlM (.branch had cnt f) w g ⟨false, ⟨0, 0⟩, had, cnt, false, nilS, kl⟩ := by
  refine ⟨kl, rfl, fun d => cs.getD d ⟨false, ⟨0, 0⟩, 0, 0, false, nilS, nilS⟩, ?_, fun d hd => h d _ ?_⟩
  · have : (List.range 16).map (fun d => cs.getD d ⟨false, ⟨0, 0⟩, 0, 0, false, nilS, nilS⟩) = cs := by
      apply List.ext_getElem
      · simp [hl]
      · intro i h1 h2
        simp [List.getD_eq_getElem?_getD, List.getElem?_eq_getElem h2]
    rw [this]; exact hk
  · show cs[d]? = some (cs.getD d _)
    rw [List.getD_eq_getElem?_getD, List.getElem?_eq_getElem (by omega)]; rfl
theorem PtsF.ice {t : Nat} {E : TypeId} {l : Nat} {w : World} {g : Tg} {ps : Nat → Sli} {xs : List Item} (h : PtsF t E l w g ps xs) : PtsL l w (recolR g t (t + 16) 0) ps xs := fun d hd => by
  have h := h d hd
  refine ⟨h.len, h.cap, h.anil, fun hx => ?_, h.size⟩
  obtain ⟨b, rest, h1, h3, h4⟩ := h.mem hx
  refine ⟨b, 0, h1, h4.lt, if_pos ⟨by omega, by omega⟩, fun j hj => ?_⟩
  rw [Nat.zero_add, h4.cell, List.getElem?_append_left hj]

/-! ### Blocks of other tags -/
theorem O.newt (t : Nat) (d : Nat) {T : Nat → Prop} {w0 : World} {g0 : Tg} {L : List KB} (E : TypeId) (cs : List Value) (hg : o.guard = none) (hd : o.dst = some d)
    (hx : (execOp (opv n ws) o).run P w = .ok (.value (.pointer (some ⟨w.heap.size, 0, none⟩))) (w.alloc (.cells cs.toArray E (0, 0)))) (hK : Kn T w0 g0 L w g)
    (h : ∀ b w' g', Kn T w0 g0 L w' g' → Bt t w' g' b E cs → Mv Nt w g w' g' → next ((d, .pointer (some ⟨b, 0, none⟩)) :: ws) w') : OpS P Q ops o n ws w next := by
  have m := Mv.alloc Nt w g (.cells cs.toArray E (0, 0)) t
  exact O.run d _ _ (by simp [Region.wanted, hg]) hd hx (h _ _ _ (hK.step m nt_le quiet) ⟨heap_alloc_new w _, tagged_same _ _ _⟩ m)
/-- A store of one cell. -/
theorem O.bst {b i : Nat} {E : TypeId} {cs : List Value} {Ty : TypeId} {x y : Operand} (v : Value) (hg : Region.wanted o (yieldF n ws ops) = true) (hd : o.dst = none) (ho : o.op = .store Ty x y)
    (hx : opv n ws x = .pointer (some ⟨b, i, none⟩)) (hy : opv n ws y = v) (hT : One P Ty) (hv : v.oneCell' = true) (hvc : v.cells = #[v]) (hB : Bt t w g b E cs) (hi : i < cs.length)
    (h : ∀ w', Bt t w' g b E (cs.set i v) → Mv (fun x => x = t) w g w' g → next ws w') : OpS P Q ops o n ws w next := by
  have hs := setCells_heap b [v] i w E cs hB.1 (by simp; omega)
  have e : cs.take i ++ [v] ++ cs.drop (i + [v].length) = cs.set i v := by
    simp [List.set_eq_take_append_cons_drop, hi]
  rw [e] at hs
  refine O.runs _ hg hd (exec_store ho hx hy hT.2 hB.1 (vs := [v]) (by rw [hvc]) rfl (Nat.succ_le_of_lt hi) (by simp [hv])) (h _ ⟨hs, hB.2⟩ ?_)
  exact (Mv.setCells w g b i [v]).mono fun x hx => by rw [hx]; exact hB.2
/-- A store of several. -/
theorem O.bsts {b i m : Nat} {E : TypeId} {cs : List Value} {Ty : TypeId} {x y : Operand} (vs : List Value) (hg : Region.wanted o (yieldF n ws ops) = true) (hd : o.dst = none) (ho : o.op = .store Ty x y)
    (hx : opv n ws x = .pointer (some ⟨b, i, none⟩)) (hy : opv n ws y = .agg vs.toArray) (hT : Agg P Ty m) (hn : vs.length = m) (hv : vs.all (·.oneCell') = true) (hB : Bt t w g b E cs) (hi : i + m ≤ cs.length)
    (h : ∀ w', Bt t w' g b E (cs.take i ++ vs ++ cs.drop (i + m)) → Mv (fun x => x = t) w g w' g → next ws w') : OpS P Q ops o n ws w next := by
  have hs := setCells_heap b vs i w E cs hB.1 (by omega)
  rw [hn] at hs
  refine O.runs _ hg hd (exec_store ho hx hy hT.2 hB.1 (vs := vs) rfl hn hi hv) (h _ ⟨hs, hB.2⟩ ?_)
  exact (Mv.setCells w g b i vs).mono fun x hx => by rw [hx]; exact hB.2
end
end Go.Proofs.Ytlfanphdnjoofaa
