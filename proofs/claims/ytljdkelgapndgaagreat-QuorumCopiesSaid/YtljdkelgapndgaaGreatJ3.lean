/-
  The quorum's plain model: nodes, messages, and what choices make of them; as the code has it, and as the document tells it. No program is named here.
-/
import Derived.Test.YtljdkelgapndgaaGreatJ2
set_option linter.all false
namespace Go.Wst.Qm
open Go Go.Wst
structure Cmd where
  term : Int
  val : Int
deriving DecidableEq
structure Nd where
  term : Int
  vote : Int
  log : List Cmd
  role : Int
  commit : Int
  votes : List Bool
  next : List Int
  mat : List Int
structure Bl where
  kind : Int
  frm : Int
  to : Int
  term : Int
  last : Int
  prev : Int
  mat : Int
  commit : Int
  lastT : Int
  prevT : Int
  ok : Bool
  cmds : List Cmd
deriving DecidableEq
structure Qu where
  nodes : List Nd
  bag : List Bl
structure Pk where
  kind : Int
  a : Int
  b : Int
abbrev top : Int := 2147483647
def ofT (l : List Cmd) : Int := match l.getLast? with
  | some c => c.term
  | none => 0
def falses : List Bool := List.replicate 5 false
def zeros : List Int := List.replicate 5 0
def Nd.new : Nd := ⟨0, -1, [], 1, 0, falses, zeros, zeros⟩
def Nd.voter (x : Nd) (t : Int) : Nd := ⟨if x.term < t then t else x.term, if x.term < t then -1 else x.vote, x.log, 1, x.commit, falses, zeros, zeros⟩
def Qu.send (q : Qu) (m : Bl) : Qu := if q.bag.length < 256 then ⟨q.nodes, q.bag ++ [m]⟩ else q
def Qu.setN (q : Qu) (n : Nat) (x : Nd) : Qu := ⟨q.nodes.set n x, q.bag⟩
def sortI (l : List Int) : List Int := l.mergeSort (fun a b => decide (a ≤ b))
def majority (l : List Int) : Int := (sortI l).getD ((l.length - 1) / 2) 0
def Nd.commits (x : Nd) (cnt : Nat) : Nd :=
  let k := majority (x.mat.take cnt)
  if x.commit < k ∧ (x.log.map (·.term))[(k - 1).toNat]? = some x.term then { x with commit := k } else x
def Nd.leads (x : Nd) (cnt n : Nat) : Nd :=
  if x.role ≠ 2 ∨ x.votes.count true ≤ cnt / 2 then x
  else { x with role := 3, votes := falses, next := List.replicate cnt (x.log.length : Int) ++ x.next.drop cnt, mat := x.mat.set n x.log.length }
def Bl.zero : Bl := ⟨0, 0, 0, 0, 0, 0, 0, 0, 0, 0, false, []⟩
def Nd.behind (x : Nd) (m : Bl) : Bool := decide (m.lastT < ofT x.log ∨ (m.lastT = ofT x.log ∧ m.last < x.log.length))
def Nd.gives (x : Nd) (m : Bl) : Bool := decide (m.term = x.term) && (decide (x.vote = -1) || decide (x.vote = m.frm)) && !x.behind m
def Qu.asked (q : Qu) (m : Bl) (x : Nd) : Qu :=
  (q.setN m.to.toNat (if x.gives m then { x with vote := m.frm } else x)).send { Bl.zero with kind := 2, frm := m.to, to := m.frm, term := x.term, ok := x.gives m }
def Qu.voted (q : Qu) (m : Bl) (x : Nd) : Qu :=
  if x.role = 2 ∧ m.term = x.term ∧ m.ok = true then q.setN m.to.toNat (Nd.leads { x with votes := x.votes.set m.frm.toNat true } q.nodes.length m.to.toNat) else q
def lay (log : List Cmd) : Nat → List Cmd → List Cmd
  | _, [] => log
  | at_, c :: l => if (log.map (·.term))[at_]? = some c.term then lay log (at_ + 1) l else log.take at_ ++ (c :: l)
def Qu.more (q : Qu) (m : Bl) (x : Nd) : Qu :=
  let re : Bl := { Bl.zero with kind := 4, frm := m.to, to := m.frm, term := x.term }
  if m.term < x.term then q.send re
  else
    let y := x.voter m.term
    if y.log.length < m.prev ∨ ofT (y.log.take m.prev.toNat) ≠ m.prevT then (q.setN m.to.toNat y).send { re with mat := min y.log.length (m.prev - 1) }
    else
      let l := m.cmds.take (256 - m.prev).toNat
      let z := { y with log := lay y.log m.prev.toNat l, commit := max y.commit (min m.commit (m.prev + l.length)) }
      (q.setN m.to.toNat z).send { re with ok := true, mat := m.prev + l.length }
def setI (l : List Int) (i : Int) (x : Int) : List Int := l.set i.toNat x
def getI (l : List Int) (i : Int) : Int := l.getD i.toNat 0
def Nd.matched (x : Nd) (m : Bl) : Nd :=
  if m.ok then
    let a := max (getI x.mat m.frm) m.mat
    { x with mat := setI x.mat m.frm a, next := setI x.next m.frm (max (getI x.next m.frm) a) }
  else { x with next := setI x.next m.frm (max (getI x.mat m.frm) (min (getI x.next m.frm) m.mat)) }
def Qu.matched (q : Qu) (m : Bl) (x : Nd) : Qu :=
  if x.role ≠ 3 ∨ m.term ≠ x.term then q else q.setN m.to.toNat ((x.matched m).commits q.nodes.length)
def Qu.node (q : Qu) (n : Int) : Nd := q.nodes.getD n.toNat Nd.new
def Qu.come (q : Qu) (m : Bl) : Qu :=
  let x0 := q.node m.to
  let x := if x0.term < m.term then x0.voter m.term else x0
  let q := q.setN m.to.toNat x
  if m.kind = 1 then q.asked m x else if m.kind = 2 then q.voted m x else if m.kind = 3 then q.more m x else q.matched m x
def others (cnt : Nat) (n : Int) : List Int := ((List.range cnt).map (fun i : Nat => (i : Int))).filter (fun i => !decide (i = n))
def Qu.seek (q : Qu) (n : Int) : Qu × Int :=
  let x := q.node n
  if x.role = 3 then (q, 160)
  else if top ≤ x.term then (q, 161)
  else
    let y := Nd.leads { x.voter (x.term + 1) with role := 2, vote := n, votes := falses.set n.toNat true } q.nodes.length n.toNat
    (((others q.nodes.length n).foldl (fun q i => q.send { Bl.zero with kind := 1, frm := n, to := i, term := y.term, last := y.log.length, lastT := ofT y.log }) (q.setN n.toNat y)), 0)
def in32 (k : Int) : Prop := -2147483648 ≤ k ∧ k ≤ 2147483647
instance (k : Int) : Decidable (in32 k) := inferInstanceAs (Decidable (_ ∧ _))
def Qu.has (q : Qu) (n : Int) : Prop := 0 ≤ n ∧ n < q.nodes.length
instance (q : Qu) (n : Int) : Decidable (q.has n) := inferInstanceAs (Decidable (_ ∧ _))
def Qu.take (q : Qu) (p : Pk) : Qu × Int :=
  let x := q.node p.a
  if ¬ in32 p.b then (q, 2)
  else if x.role ≠ 3 then (q, 160)
  else if 256 ≤ x.log.length then (q, 3)
  else (q.setN p.a.toNat (Nd.commits { x with log := x.log ++ [⟨x.term, p.b⟩], mat := setI x.mat p.a (x.log.length + 1) } q.nodes.length), 0)
def Qu.give (q : Qu) (p : Pk) : Qu × Int :=
  let x := q.node p.a
  if ¬ q.has p.b ∨ p.b = p.a then (q, 2)
  else if x.role ≠ 3 then (q, 160)
  else
    let f := getI x.next p.b
    (q.send { Bl.zero with kind := 3, frm := p.a, to := p.b, term := x.term, prev := f, prevT := ofT (x.log.take f.toNat), commit := x.commit, cmds := (x.log.drop f.toNat).take 4 }, 0)
def Qu.crash (q : Qu) (n : Int) : Qu × Int := (q.setN n.toNat { (q.node n).voter 0 with commit := 0 }, 0)
def Qu.picked (q : Qu) (p : Pk) : Qu × Int :=
  if q.bag = [] then (q, 5)
  else
    let at_ := (p.a % q.bag.length).toNat
    let m := q.bag.getD at_ Bl.zero
    let q1 : Qu := if p.kind ≠ 6 then ⟨q.nodes, q.bag.eraseIdx at_⟩ else q
    if p.kind = 7 then (q1, 0) else (q1.come m, 0)
def Qu.step (q : Qu) (p : Pk) : Qu × Int :=
  if 1 ≤ p.kind ∧ p.kind ≤ 4 ∧ q.has p.a then
    if p.kind = 1 then q.seek p.a else if p.kind = 2 then q.take p else if p.kind = 3 then q.give p else q.crash p.a
  else if 5 ≤ p.kind ∧ p.kind ≤ 7 then q.picked p
  else (q, 2)
def Qu.new (n : Nat) : Qu := ⟨List.replicate n Nd.new, []⟩
def Qu.run (q : Qu) (l : List Pk) : Qu := l.foldl (fun q p => (q.step p).1) q
def Qu.committed (q : Qu) : List Cmd := q.nodes.foldl (fun out x => if (out.length : Int) < x.commit then x.log.take x.commit.toNat else out) []

structure Nd.Ok (cnt : Nat) (x : Nd) : Prop where
  t0 : 0 ≤ x.term
  t1 : x.term ≤ top
  v0 : -1 ≤ x.vote
  v1 : x.vote < cnt
  r : 1 ≤ x.role ∧ x.role ≤ 3
  ll : x.log.length ≤ 256
  lt : ∀ c ∈ x.log, 1 ≤ c.term ∧ c.term ≤ x.term
  lm : x.log.Pairwise (fun a b => a.term ≤ b.term)
  c0 : 0 ≤ x.commit
  c1 : x.commit ≤ x.log.length
  vl : x.votes.length = 5
  nl : x.next.length = 5
  ml : x.mat.length = 5
  vn : x.role ≠ 2 → x.votes = falses
  vo : ∀ k, cnt ≤ k → x.votes.getD k false = false
  nm : x.role ≠ 3 → x.next = zeros ∧ x.mat = zeros
  nb : ∀ a ∈ x.next, 0 ≤ a ∧ a ≤ x.log.length
  mb : ∀ a ∈ x.mat, 0 ≤ a ∧ a ≤ x.log.length
  sk : x.role = 2 → ∀ c ∈ x.log, c.term < x.term
structure Bl.Ok (cnt : Nat) (m : Bl) : Prop where
  k : 1 ≤ m.kind ∧ m.kind ≤ 4
  f : 0 ≤ m.frm ∧ m.frm < cnt
  t : 0 ≤ m.to ∧ m.to < cnt
  ne : m.frm ≠ m.to
  t0 : 0 ≤ m.term
  t1 : m.term ≤ top
  p0 : 0 ≤ m.prev
  p1 : m.prev + m.cmds.length ≤ 256
  cl : m.cmds.length ≤ 4
  ct : ∀ c ∈ m.cmds, m.prevT ≤ c.term ∧ 1 ≤ c.term ∧ c.term ≤ m.term
  cm : m.cmds.Pairwise (fun a b => a.term ≤ b.term)
  c0 : 0 ≤ m.commit
  pz : m.prev = 0 → m.prevT = 0

structure An where
  role : Int
  term : Int
  vote : Int
  commit : Int
  log : List Cmd
  votes : List Int
  next : List Int
  mat : List Int
deriving DecidableEq
structure Dq where
  nodes : List An
  bag : List Bl
def An.new : An := ⟨1, 0, -1, 0, [], [], [], []⟩
def Dq.setN (q : Dq) (n : Nat) (x : An) : Dq := ⟨q.nodes.set n x, q.bag⟩
def Dq.send (q : Dq) (m : Bl) : Dq := if 256 ≤ q.bag.length then q else ⟨q.nodes, q.bag ++ [m]⟩
def Dq.node (q : Dq) (n : Int) : An := q.nodes.getD n.toNat An.new
def An.voter (x : An) (t : Int) : An := ⟨1, if x.term < t then t else x.term, if x.term < t then -1 else x.vote, x.commit, x.log, [], [], []⟩
def many (l : List Int) (k : Int) : Nat := (l.filter (fun a => decide (k ≤ a))).length
def An.findK (x : An) (cnt : Nat) : Nat → Int
  | 0 => x.commit
  | k + 1 => if x.commit < k + 1 then (if cnt / 2 + 1 ≤ many x.mat (k + 1) ∧ (x.log.map (·.term))[k]? = some x.term then k + 1 else x.findK cnt k) else x.commit
def An.commits (x : An) (cnt : Nat) : An := { x with commit := x.findK cnt x.log.length }
def ins (n : Int) : List Int → List Int
  | [] => [n]
  | a :: l => if a = n then a :: l else if n < a then n :: a :: l else a :: ins n l
def An.leads (x : An) (cnt n : Nat) : An :=
  if x.role ≠ 2 ∨ x.votes.length < cnt / 2 + 1 then x
  else An.commits { x with role := 3, votes := [], next := List.replicate cnt (x.log.length : Int), mat := (List.replicate cnt (0 : Int)).set n x.log.length } cnt
def An.behind (x : An) (m : Bl) : Bool := decide (m.lastT < ofT x.log ∨ (m.lastT = ofT x.log ∧ m.last < x.log.length))
def An.gives (x : An) (m : Bl) : Bool := decide (m.term = x.term) && (decide (x.vote = -1) || decide (x.vote = m.frm)) && !x.behind m
def Dq.asked (q : Dq) (m : Bl) (x : An) : Dq :=
  (q.setN m.to.toNat (if x.gives m then { x with vote := m.frm } else x)).send { Bl.zero with kind := 2, frm := m.to, to := m.frm, term := x.term, ok := x.gives m }
def Dq.voted (q : Dq) (m : Bl) (x : An) : Dq :=
  if x.role = 2 ∧ m.term = x.term ∧ m.ok = true then q.setN m.to.toNat (An.leads { x with votes := ins m.frm x.votes } q.nodes.length m.to.toNat) else q
def layD (log : List Cmd) : Nat → List Cmd → List Cmd
  | _, [] => log
  | at_, c :: l =>
    let a := if at_ < log.length ∧ (log.map (·.term))[at_]? ≠ some c.term then log.take at_ else log
    layD (if a.length ≤ at_ then a ++ [c] else a) (at_ + 1) l
def Dq.more (q : Dq) (m : Bl) (x : An) : Dq :=
  let re : Bl := { Bl.zero with kind := 4, frm := m.to, to := m.frm, term := x.term }
  if m.term < x.term then q.send re
  else
    let y := x.voter m.term
    if y.log.length < m.prev ∨ ofT (y.log.take m.prev.toNat) ≠ m.prevT then (q.setN m.to.toNat y).send { re with mat := min y.log.length (m.prev - 1) }
    else
      let l := m.cmds.take (256 - m.prev).toNat
      let z := { y with log := layD y.log m.prev.toNat l, commit := max y.commit (min m.commit (m.prev + l.length)) }
      (q.setN m.to.toNat z).send { re with ok := true, mat := m.prev + l.length }
def An.matched (x : An) (m : Bl) : An :=
  if m.ok then
    let a := max (getI x.mat m.frm) m.mat
    { x with mat := setI x.mat m.frm a, next := setI x.next m.frm (max (getI x.next m.frm) a) }
  else { x with next := setI x.next m.frm (max (getI x.mat m.frm) (min (getI x.next m.frm) m.mat)) }
def Dq.matched (q : Dq) (m : Bl) (x : An) : Dq :=
  if x.role ≠ 3 ∨ m.term ≠ x.term then q else q.setN m.to.toNat ((x.matched m).commits q.nodes.length)
def Dq.come (q : Dq) (m : Bl) : Dq :=
  let x0 := q.node m.to
  let x := if x0.term < m.term then x0.voter m.term else x0
  let q := q.setN m.to.toNat x
  if m.kind = 1 then q.asked m x else if m.kind = 2 then q.voted m x else if m.kind = 3 then q.more m x else q.matched m x
def Dq.seek (q : Dq) (n : Int) : Dq × Int :=
  let x := q.node n
  if x.role = 3 then (q, 160)
  else if top ≤ x.term then (q, 161)
  else
    let y := { x.voter (x.term + 1) with role := 2, vote := n, votes := [n] }
    (((others q.nodes.length n).foldl (fun q i => q.send { Bl.zero with kind := 1, frm := n, to := i, term := y.term, last := y.log.length, lastT := ofT y.log }) (q.setN n.toNat (y.leads q.nodes.length n.toNat))), 0)
def Dq.has (q : Dq) (n : Int) : Prop := 0 ≤ n ∧ n < q.nodes.length
instance (q : Dq) (n : Int) : Decidable (q.has n) := inferInstanceAs (Decidable (_ ∧ _))
def Dq.take (q : Dq) (p : Pk) : Dq × Int :=
  let x := q.node p.a
  if ¬ in32 p.b then (q, 2)
  else if x.role ≠ 3 then (q, 160)
  else if 256 ≤ x.log.length then (q, 3)
  else (q.setN p.a.toNat (An.commits { x with log := x.log ++ [⟨x.term, p.b⟩], mat := setI x.mat p.a (x.log.length + 1) } q.nodes.length), 0)
def Dq.give (q : Dq) (p : Pk) : Dq × Int :=
  let x := q.node p.a
  if ¬ q.has p.b ∨ p.b = p.a then (q, 2)
  else if x.role ≠ 3 then (q, 160)
  else
    let f := getI x.next p.b
    (q.send { Bl.zero with kind := 3, frm := p.a, to := p.b, term := x.term, prev := f, prevT := ofT (x.log.take f.toNat), commit := x.commit, cmds := (x.log.drop f.toNat).take 4 }, 0)
def Dq.crash (q : Dq) (n : Int) : Dq × Int := (q.setN n.toNat { (q.node n).voter 0 with commit := 0 }, 0)
def Dq.picked (q : Dq) (p : Pk) : Dq × Int :=
  if q.bag = [] then (q, 5)
  else
    let at_ := (p.a % q.bag.length).toNat
    let m := q.bag.getD at_ Bl.zero
    let q1 : Dq := if p.kind ≠ 6 then ⟨q.nodes, q.bag.eraseIdx at_⟩ else q
    if p.kind = 7 then (q1, 0) else (q1.come m, 0)
def Dq.step (q : Dq) (p : Pk) : Dq × Int :=
  if 1 ≤ p.kind ∧ p.kind ≤ 4 ∧ q.has p.a then
    if p.kind = 1 then q.seek p.a else if p.kind = 2 then q.take p else if p.kind = 3 then q.give p else q.crash p.a
  else if 5 ≤ p.kind ∧ p.kind ≤ 7 then q.picked p
  else (q, 2)
def Dq.new (n : Nat) : Dq := ⟨List.replicate n An.new, []⟩
def idxs (l : List Bool) : List Int := ((List.range l.length).filter (fun k => l.getD k false)).map (fun k : Nat => (k : Int))
def Nd.tell (cnt : Nat) (x : Nd) : An := ⟨x.role, x.term, x.vote, x.commit, x.log, idxs x.votes, if x.role = 3 then x.next.take cnt else [], if x.role = 3 then x.mat.take cnt else []⟩
def Qu.tell (q : Qu) : Dq := ⟨q.nodes.map (Nd.tell q.nodes.length), q.bag⟩
end Go.Wst.Qm
set_option linter.all false
namespace Go.Wst.Qm
open Go Go.Wst
theorem layD_end (log : List Cmd) (l : List Cmd) : layD log log.length l = log ++ l := by
  induction l generalizing log with
  | nil => simp [layD]
  | cons c l ih =>
    unfold layD
    have h1 : ¬ (log.length < log.length ∧ (log.map (·.term))[log.length]? ≠ some c.term) := fun e => Nat.lt_irrefl _ e.1
    simp only [if_neg h1, Nat.le_refl, if_true]
    have h2 := ih (log ++ [c])
    rw [List.length_append] at h2
    simp only [List.length_cons, List.length_nil, Nat.zero_add] at h2
    rw [h2]
    simp
theorem layD_lay (log : List Cmd) (at_ : Nat) (l : List Cmd) (h : at_ ≤ log.length) : layD log at_ l = lay log at_ l := by
  induction l generalizing log at_ with
  | nil => rfl
  | cons c l ih =>
    by_cases e : (log.map (·.term))[at_]? = some c.term
    · have hlt : at_ < log.length := by
        rw [List.getElem?_eq_some_iff] at e
        obtain ⟨h1, _⟩ := e
        simpa using h1
      have h1 : ¬ (at_ < log.length ∧ (log.map (·.term))[at_]? ≠ some c.term) := fun q => q.2 e
      have h2 : ¬ log.length ≤ at_ := by omega
      unfold layD lay
      simp only [if_neg h1, if_neg h2, if_pos e]
      exact ih log (at_ + 1) hlt
    · have e2 : lay log at_ (c :: l) = log.take at_ ++ (c :: l) := by
        unfold lay
        rw [if_neg e]
      rw [e2]
      have ht : (log.take at_).length = at_ := by rw [List.length_take]; omega
      rcases Nat.lt_or_ge at_ log.length with h3 | h3
      · unfold layD
        simp only [if_pos (And.intro h3 e : at_ < log.length ∧ (log.map (·.term))[at_]? ≠ some c.term), ht, Nat.le_refl, if_true]
        have h4 := layD_end (log.take at_ ++ [c]) l
        have h5 : (log.take at_ ++ [c]).length = at_ + 1 := by rw [List.length_append, ht]; rfl
        rw [h5] at h4
        rw [h4]
        simp
      · have h6 : at_ = log.length := by omega
        subst h6
        rw [List.take_length]
        exact layD_end log (c :: l)
theorem idxs_falses : idxs falses = [] := by decide
theorem idxs_set : ∀ (a b c d e : Bool) (k : Fin 5), idxs ([a, b, c, d, e].set k.val true) = ins (k.val : Int) (idxs [a, b, c, d, e]) := by decide
theorem idxs_count : ∀ (a b c d e : Bool), (idxs [a, b, c, d, e]).length = [a, b, c, d, e].count true := by decide
theorem five {α : Type} {l : List α} (h : l.length = 5) : ∃ a b c d e, l = [a, b, c, d, e] := by
  match l, h with
  | [a, b, c, d, e], _ => exact ⟨a, b, c, d, e, rfl⟩
theorem idxs_ins {l : List Bool} (h : l.length = 5) {k : Nat} (hk : k < 5) : idxs (l.set k true) = ins (k : Int) (idxs l) := by
  obtain ⟨a, b, c, d, e, rfl⟩ := five h
  exact idxs_set a b c d e ⟨k, hk⟩
theorem idxs_len {l : List Bool} (h : l.length = 5) : (idxs l).length = l.count true := by
  obtain ⟨a, b, c, d, e, rfl⟩ := five h
  exact idxs_count a b c d e
theorem sortI_perm (l : List Int) : (sortI l).Perm l := List.mergeSort_perm l _
theorem sortI_sorted (l : List Int) : (sortI l).Pairwise (fun a b => a ≤ b) := by
  have h := List.pairwise_mergeSort (le := fun (a b : Int) => decide (a ≤ b)) (fun a b c h1 h2 => by simp at *; omega) (fun a b => by simp; omega) l
  exact h.imp (fun h => by simpa using h)
theorem many_perm {l s : List Int} (h : s.Perm l) (k : Int) : many s k = many l k := (h.filter _).length_eq
theorem many_ge {s : List Int} (hs : s.Pairwise (fun a b => a ≤ b)) {j : Nat} (hj : j < s.length) {k : Int} (hk : k ≤ s[j]) : s.length - j ≤ many s k := by
  have h1 : many s k = ((s.take j).filter (fun a => decide (k ≤ a))).length + ((s.drop j).filter (fun a => decide (k ≤ a))).length := by
    unfold many
    conv => lhs; rw [← List.take_append_drop j s, List.filter_append, List.length_append]
  have h2 : (s.drop j).filter (fun a => decide (k ≤ a)) = s.drop j := by
    rw [List.filter_eq_self]
    intro a ha
    obtain ⟨i, hi, rfl⟩ := List.getElem_of_mem ha
    rw [List.getElem_drop]
    rw [List.length_drop] at hi
    simp only [decide_eq_true_eq]
    rcases Nat.eq_zero_or_pos i with h0 | h0
    · subst h0; simpa using hk
    · have := List.pairwise_iff_getElem.1 hs j (j + i) hj (by omega) (by omega)
      omega
  rw [h1, h2, List.length_drop]
  omega
theorem many_lt {s : List Int} (hs : s.Pairwise (fun a b => a ≤ b)) {j : Nat} (hj : j < s.length) {k : Int} (hk : s[j] < k) : many s k ≤ s.length - (j + 1) := by
  have h1 : many s k = ((s.take (j + 1)).filter (fun a => decide (k ≤ a))).length + ((s.drop (j + 1)).filter (fun a => decide (k ≤ a))).length := by
    unfold many
    conv => lhs; rw [← List.take_append_drop (j + 1) s, List.filter_append, List.length_append]
  have h2 : (s.take (j + 1)).filter (fun a => decide (k ≤ a)) = [] := by
    rw [List.filter_eq_nil_iff]
    intro a ha
    obtain ⟨i, hi, rfl⟩ := List.getElem_of_mem ha
    rw [List.length_take] at hi
    rw [List.getElem_take]
    simp only [decide_eq_true_eq]
    rcases Nat.lt_or_ge i j with h0 | h0
    · have := List.pairwise_iff_getElem.1 hs i j (by omega) hj h0
      omega
    · have : i = j := by omega
      subst this
      omega
  have h3 := List.length_filter_le (fun a => decide (k ≤ a)) (s.drop (j + 1))
  rw [List.length_drop] at h3
  rw [h1, h2, List.length_nil]
  omega
theorem majority_iff {l : List Int} (hodd : l.length % 2 = 1) (k : Int) : l.length / 2 + 1 ≤ many l k ↔ k ≤ majority l := by
  have hp := sortI_perm l
  have hl := hp.length_eq
  have hs := sortI_sorted l
  have hj : (l.length - 1) / 2 < (sortI l).length := by omega
  have hm : majority l = (sortI l)[(l.length - 1) / 2] := by
    unfold majority
    rw [List.getD_eq_getElem?_getD, List.getElem?_eq_getElem hj]
    rfl
  rw [hm, ← many_perm hp]
  constructor
  · intro h
    refine Classical.byContradiction fun h2 => ?_
    have := many_lt hs hj (k := k) (by omega)
    omega
  · intro h
    have := many_ge hs hj h
    omega
theorem majority_mem {l : List Int} (hodd : l.length % 2 = 1) : majority l ∈ l := by
  have hp := sortI_perm l
  have hj : (l.length - 1) / 2 < (sortI l).length := by have := hp.length_eq; omega
  have hm : majority l = (sortI l)[(l.length - 1) / 2] := by
    unfold majority
    rw [List.getD_eq_getElem?_getD, List.getElem?_eq_getElem hj]
    rfl
  rw [hm]
  exact hp.mem_iff.1 (List.getElem_mem hj)
theorem findK_none {x : An} {cnt : Nat} (n : Nat) (h : ∀ k : Nat, k < n → x.commit < k + 1 → ¬ (cnt / 2 + 1 ≤ many x.mat (k + 1) ∧ (x.log.map (·.term))[k]? = some x.term)) : x.findK cnt n = x.commit := by
  induction n with
  | zero => rfl
  | succ n ih =>
    unfold An.findK
    split
    · next h1 =>
      rw [if_neg (h n (by omega) h1)]
      exact ih fun k hk => h k (by omega)
    · rfl
theorem findK_at {x : An} {cnt : Nat} (n K : Nat) (hK : K < n) (hc : x.commit < K + 1) (hp : cnt / 2 + 1 ≤ many x.mat (K + 1) ∧ (x.log.map (·.term))[K]? = some x.term) (h : ∀ k : Nat, K < k → k < n → ¬ cnt / 2 + 1 ≤ many x.mat (k + 1)) : x.findK cnt n = K + 1 := by
  induction n with
  | zero => omega
  | succ n ih =>
    unfold An.findK
    by_cases e : K = n
    · subst e
      rw [if_pos hc, if_pos hp]
    · rw [if_pos (by omega), if_neg (fun q => h n (by omega) (by omega) q.1)]
      exact ih (by omega) fun k h1 h2 => h k h1 (by omega)
theorem tell_commits {x : Nd} {cnt : Nat} (hc : cnt % 2 = 1 ∧ cnt ≤ 5) (hr : x.role = 3) (hl5 : x.mat.length = 5) (hlm : x.log.Pairwise (fun a b => a.term ≤ b.term)) (hlt : ∀ c ∈ x.log, c.term ≤ x.term) (c0 : 0 ≤ x.commit) (hmb : ∀ a ∈ x.mat, a ≤ x.log.length) : (x.commits cnt).tell cnt = (x.tell cnt).commits cnt := by
  have hM : (x.mat.take cnt).length = cnt := by rw [List.length_take]; omega
  have hodd : (x.mat.take cnt).length % 2 = 1 := by rw [hM]; exact hc.1
  have hmat : (x.tell cnt).mat = x.mat.take cnt := by unfold Nd.tell; simp [hr]
  have hK := hmb _ (List.mem_of_mem_take (majority_mem hodd))
  have hiff : ∀ k : Int, cnt / 2 + 1 ≤ many (x.tell cnt).mat k ↔ k ≤ majority (x.mat.take cnt) := fun k => by
    have := majority_iff hodd k
    rw [hM] at this
    rw [hmat]
    exact this
  have key : (x.tell cnt).findK cnt x.log.length = if x.commit < majority (x.mat.take cnt) ∧ (x.log.map (·.term))[(majority (x.mat.take cnt) - 1).toNat]? = some x.term then majority (x.mat.take cnt) else x.commit := by
    split
    · next h =>
      have h1 := findK_at (x := x.tell cnt) (cnt := cnt) x.log.length (majority (x.mat.take cnt) - 1).toNat (by omega) (by show x.commit < _; omega) ⟨(hiff _).2 (by omega), h.2⟩ (fun k h1 h2 h3 => by have := (hiff _).1 h3; omega)
      rw [h1]
      omega
    · next h =>
      refine findK_none x.log.length fun k hk hck q => h ?_
      have hck' : x.commit < k + 1 := hck
      have h1 := (hiff _).1 q.1
      refine ⟨by omega, ?_⟩
      have h2 : (x.log.map (·.term))[k]? = some x.term := q.2
      have hj : (majority (x.mat.take cnt) - 1).toNat < x.log.length := by omega
      rw [List.getElem?_map, List.getElem?_eq_getElem hk] at h2
      rw [List.getElem?_map, List.getElem?_eq_getElem hj]
      simp only [Option.map_some, Option.some.injEq] at h2 ⊢
      have h3 := hlt _ (List.getElem_mem hj)
      rcases Nat.lt_or_ge k (majority (x.mat.take cnt) - 1).toNat with h4 | h4
      · have h5 := List.pairwise_iff_getElem.1 hlm k _ hk hj h4
        omega
      · have h5 : (majority (x.mat.take cnt) - 1).toNat = k := by omega
        simp only [h5]
        exact h2
  unfold An.commits
  have e1 : (x.tell cnt).log.length = x.log.length := rfl
  rw [e1, key]
  unfold Nd.commits
  simp only
  split
  · rfl
  · rfl
theorem tell_voter (x : Nd) (t : Int) (cnt : Nat) : (x.voter t).tell cnt = (x.tell cnt).voter t := by
  unfold Nd.voter Nd.tell An.voter
  simp [idxs_falses]
theorem tell_leads {x : Nd} {cnt n : Nat} (hc : cnt % 2 = 1 ∧ cnt ≤ 5) (hn : n < cnt) (hv : x.votes.length = 5) (hnx : x.next.length = 5) (hz : x.role ≠ 3 → x.mat = zeros) (hs : x.role = 2 → ∀ c ∈ x.log, c.term < x.term) : (x.leads cnt n).tell cnt = (x.tell cnt).leads cnt n := by
  have hlen : (x.tell cnt).votes.length = x.votes.count true := idxs_len hv
  have hrole : (x.tell cnt).role = x.role := rfl
  unfold Nd.leads An.leads
  rw [hlen, hrole]
  by_cases h : x.role ≠ 2 ∨ x.votes.count true ≤ cnt / 2
  · rw [if_pos h, if_pos (h.imp id (fun h => by omega))]
  · have h2 : ¬ (x.role ≠ 2 ∨ x.votes.count true < cnt / 2 + 1) := fun e => h (e.imp id (fun h => by omega))
    rw [if_neg h, if_neg h2]
    have hr : x.role = 2 := Classical.byContradiction fun e => h (.inl e)
    have hm := hz (by omega)
    unfold An.commits
    rw [findK_none]
    · unfold Nd.tell
      simp only [if_true, idxs_falses]
      have e1 : (List.replicate cnt (x.log.length : Int) ++ x.next.drop cnt).take cnt = List.replicate cnt (x.log.length : Int) := by
        rw [List.take_append_of_le_length (by simp)]
        simp
      have e2 : (x.mat.set n (x.log.length : Int)).take cnt = (List.replicate cnt (0 : Int)).set n x.log.length := by
        rw [List.take_set, hm]
        unfold zeros
        rw [List.take_replicate]
        congr 2
        omega
      rw [e1, e2]
    · rintro k hk _ ⟨_, h3⟩
      have h3' : (x.log.map (·.term))[k]? = some x.term := h3
      have hk : k < x.log.length := hk
      rw [List.getElem?_map, List.getElem?_eq_getElem hk] at h3'
      simp only [Option.map_some, Option.some.injEq] at h3'
      have := hs hr _ (List.getElem_mem hk)
      omega
theorem setI_take (l : List Int) (i x : Int) (cnt : Nat) : (setI l i x).take cnt = setI (l.take cnt) i x := List.take_set
theorem getI_take (l : List Int) {i : Int} {cnt : Nat} (h : i.toNat < cnt) : getI (l.take cnt) i = getI l i := by
  unfold getI
  rw [List.getD_eq_getElem?_getD, List.getD_eq_getElem?_getD, List.getElem?_take_of_lt h]
theorem tell_matched {x : Nd} {cnt : Nat} (hr : x.role = 3) {m : Bl} (h : m.frm.toNat < cnt) : (x.matched m).tell cnt = (x.tell cnt).matched m := by
  unfold Nd.matched An.matched
  split
  · unfold Nd.tell
    simp only [hr, if_true, setI_take, getI_take _ h]
  · unfold Nd.tell
    simp only [hr, if_true, setI_take, getI_take _ h]
theorem tell_len (q : Qu) : q.tell.nodes.length = q.nodes.length := List.length_map _
theorem tell_setN (q : Qu) (n : Nat) (x : Nd) : (q.setN n x).tell = q.tell.setN n (x.tell q.nodes.length) := by
  unfold Qu.setN Qu.tell Dq.setN
  simp only [List.length_set, List.map_set]
theorem tell_send (q : Qu) (m : Bl) : (q.send m).tell = q.tell.send m := by
  unfold Qu.send Dq.send
  by_cases h : q.bag.length < 256
  · rw [if_pos h, if_neg (by show ¬ 256 ≤ q.bag.length; omega)]
    rfl
  · rw [if_neg h, if_pos (by show 256 ≤ q.bag.length; omega)]
theorem tell_new (cnt : Nat) : Nd.new.tell cnt = An.new := by
  unfold Nd.new Nd.tell An.new
  simp [idxs_falses]
theorem tell_node (q : Qu) (n : Int) : q.tell.node n = (q.node n).tell q.nodes.length := by
  unfold Qu.node Dq.node Qu.tell
  simp only [List.getD_eq_getElem?_getD, List.getElem?_map]
  cases q.nodes[n.toNat]? with
  | none => exact (tell_new _).symm
  | some x => rfl
theorem len_setN (q : Qu) (n : Nat) (x : Nd) : (q.setN n x).nodes.length = q.nodes.length := List.length_set
theorem len_send (q : Qu) (m : Bl) : (q.send m).nodes.length = q.nodes.length := by unfold Qu.send; split <;> rfl
theorem tell_asked (q : Qu) (m : Bl) (x : Nd) : (q.asked m x).tell = q.tell.asked m (x.tell q.nodes.length) := by
  unfold Qu.asked Dq.asked
  rw [tell_send, tell_setN]
  congr 2
  have e : (x.tell q.nodes.length).gives m = x.gives m := rfl
  rw [e]
  split <;> rfl
structure Nd.Fit (cnt : Nat) (x : Nd) : Prop where
  vl : x.votes.length = 5
  nl : x.next.length = 5
  ml : x.mat.length = 5
  lm : x.log.Pairwise (fun a b => a.term ≤ b.term)
  lt : ∀ c ∈ x.log, c.term ≤ x.term
  c0 : 0 ≤ x.commit
  mb : ∀ a ∈ x.mat, a ≤ x.log.length
  nm : x.role ≠ 3 → x.mat = zeros
  sk : x.role = 2 → ∀ c ∈ x.log, c.term < x.term
theorem Nd.Fit.voter {cnt : Nat} {x : Nd} (h : x.Fit cnt) (t : Int) : (x.voter t).Fit cnt where
  vl := rfl
  nl := rfl
  ml := rfl
  lm := h.lm
  lt c hc := by have := h.lt c hc; show c.term ≤ if x.term < t then t else x.term; split <;> omega
  c0 := h.c0
  mb a ha := by
    have h1 : a ∈ zeros := ha
    have h2 : a = 0 := List.eq_of_mem_replicate h1
    omega
  nm _ := rfl
  sk h := by cases (show (1 : Int) = 2 from h)
theorem tell_voted (q : Qu) (m : Bl) (x : Nd) (hc : q.nodes.length % 2 = 1 ∧ q.nodes.length ≤ 5) (hx : x.Fit q.nodes.length) (hf : 0 ≤ m.frm ∧ m.frm < q.nodes.length) (ht : m.to.toNat < q.nodes.length) : (q.voted m x).tell = q.tell.voted m (x.tell q.nodes.length) := by
  unfold Qu.voted Dq.voted
  by_cases h : x.role = 2 ∧ m.term = x.term ∧ m.ok = true
  · rw [if_pos h, if_pos (show (x.tell q.nodes.length).role = 2 ∧ m.term = (x.tell q.nodes.length).term ∧ m.ok = true from h)]
    rw [tell_setN, tell_leads (x := ⟨x.term, x.vote, x.log, x.role, x.commit, x.votes.set m.frm.toNat true, x.next, x.mat⟩) hc ht (by simp [hx.vl]) hx.nl hx.nm hx.sk, tell_len]
    congr 2
    unfold Nd.tell
    simp only [An.mk.injEq, true_and, and_true]
    have h1 := idxs_ins hx.vl (k := m.frm.toNat) (by omega)
    rw [h1]
    congr 1
    omega
  · rw [if_neg h, if_neg (show ¬ ((x.tell q.nodes.length).role = 2 ∧ m.term = (x.tell q.nodes.length).term ∧ m.ok = true) from h)]
theorem tell_more (q : Qu) (m : Bl) (x : Nd) : (q.more m x).tell = q.tell.more m (x.tell q.nodes.length) := by
  unfold Qu.more Dq.more
  simp only
  have e : (x.tell q.nodes.length).term = x.term := rfl
  rw [e]
  split
  · exact tell_send _ _
  · rw [← tell_voter]
    have e2 : ((x.voter m.term).tell q.nodes.length).log = (x.voter m.term).log := rfl
    rw [e2]
    split
    · rw [tell_send, tell_setN]
    · next h =>
      rw [tell_send, tell_setN]
      congr 2
      unfold Nd.tell
      rw [layD_lay _ _ _ (by omega)]
theorem tell_matchedQ (q : Qu) (m : Bl) (x : Nd) (hc : q.nodes.length % 2 = 1 ∧ q.nodes.length ≤ 5) (hx : x.Fit q.nodes.length) (hf : 0 ≤ m.frm ∧ m.frm < q.nodes.length) (hm : m.ok = true → x.role = 3 → m.term = x.term → m.mat ≤ x.log.length) : (q.matched m x).tell = q.tell.matched m (x.tell q.nodes.length) := by
  unfold Qu.matched Dq.matched
  by_cases h : x.role ≠ 3 ∨ m.term ≠ x.term
  · rw [if_pos h, if_pos (show (x.tell q.nodes.length).role ≠ 3 ∨ m.term ≠ (x.tell q.nodes.length).term from h)]
  · rw [if_neg h, if_neg (show ¬ ((x.tell q.nodes.length).role ≠ 3 ∨ m.term ≠ (x.tell q.nodes.length).term) from h)]
    have hr : x.role = 3 := Classical.byContradiction fun e => h (.inl e)
    have htm : m.term = x.term := Classical.byContradiction fun e => h (.inr e)
    have hfr : (x.matched m).role = 3 ∧ (x.matched m).mat.length = 5 ∧ (x.matched m).log = x.log ∧ (x.matched m).term = x.term ∧ (x.matched m).commit = x.commit ∧ ∀ a ∈ (x.matched m).mat, a ≤ x.log.length := by
      unfold Nd.matched
      split
      · next ho =>
        refine ⟨hr, by simp [setI, hx.ml], rfl, rfl, rfl, fun a ha => ?_⟩
        have ha' : a ∈ setI x.mat m.frm (max (getI x.mat m.frm) m.mat) := ha
        rcases List.mem_or_eq_of_mem_set ha' with h1 | h1
        · exact hx.mb a h1
        · have h2 : getI x.mat m.frm ≤ x.log.length := by
            unfold getI
            rw [List.getD_eq_getElem?_getD]
            cases h3 : x.mat[m.frm.toNat]? with
            | none => simp
            | some y => exact hx.mb y (List.mem_of_getElem? h3)
          have h3 := hm ho hr htm
          omega
      · exact ⟨hr, hx.ml, rfl, rfl, rfl, hx.mb⟩
    rw [tell_setN, tell_commits hc hfr.1 hfr.2.1 (by rw [hfr.2.2.1]; exact hx.lm) (by rw [hfr.2.2.1, hfr.2.2.2.1]; exact hx.lt) (by rw [hfr.2.2.2.2.1]; exact hx.c0) (by rw [hfr.2.2.1]; exact hfr.2.2.2.2.2), tell_matched hr (by omega), tell_len]
structure Qu.MFit (q : Qu) (m : Bl) : Prop where
  f : 0 ≤ m.frm ∧ m.frm < q.nodes.length
  t : 0 ≤ m.to ∧ m.to < q.nodes.length
  k : 1 ≤ m.kind ∧ m.kind ≤ 4
  mm : m.kind = 4 → m.ok = true → (q.node m.to).role = 3 → m.term = (q.node m.to).term → m.mat ≤ (q.node m.to).log.length
structure Qu.Fit (q : Qu) : Prop where
  odd : q.nodes.length % 2 = 1 ∧ q.nodes.length ≤ 5
  nd : ∀ x ∈ q.nodes, x.Fit q.nodes.length
  bg : ∀ m ∈ q.bag, q.MFit m
theorem node_mem {q : Qu} {n : Int} (h : q.has n) : q.node n ∈ q.nodes := by
  unfold Qu.node
  rw [List.getD_eq_getElem?_getD, List.getElem?_eq_getElem (by have := h.1; have := h.2; omega)]
  exact List.getElem_mem _
theorem tell_come {q : Qu} {m : Bl} (hc : q.nodes.length % 2 = 1 ∧ q.nodes.length ≤ 5) (hn : ∀ x ∈ q.nodes, x.Fit q.nodes.length) (hm : q.MFit m) : (q.come m).tell = q.tell.come m := by
  have hx0 := hn _ (node_mem (q := q) (n := m.to) hm.t)
  unfold Qu.come Dq.come
  simp only
  rw [tell_node]
  have ex : (if ((q.node m.to).tell q.nodes.length).term < m.term then ((q.node m.to).tell q.nodes.length).voter m.term else (q.node m.to).tell q.nodes.length) = (if (q.node m.to).term < m.term then (q.node m.to).voter m.term else q.node m.to).tell q.nodes.length := by
    by_cases h : (q.node m.to).term < m.term
    · rw [if_pos h, if_pos (show ((q.node m.to).tell q.nodes.length).term < m.term from h), tell_voter]
    · rw [if_neg h, if_neg (show ¬ ((q.node m.to).tell q.nodes.length).term < m.term from h)]
  rw [ex]
  obtain ⟨x, hx⟩ : ∃ x, x = (if (q.node m.to).term < m.term then (q.node m.to).voter m.term else q.node m.to) := ⟨_, rfl⟩
  have hfit : x.Fit q.nodes.length := by rw [hx]; split; exact hx0.voter _; exact hx0
  have hmm : m.kind = 4 → m.ok = true → x.role = 3 → m.term = x.term → m.mat ≤ x.log.length := by
    rw [hx]
    split
    · intro _ _ e; cases (show (1 : Int) = 3 from e)
    · exact hm.mm
  rw [← hx]
  have hl := len_setN q m.to.toNat x
  rw [← tell_setN]
  have e0 : ∀ y : Nd, y.tell q.nodes.length = y.tell (q.setN m.to.toNat x).nodes.length := fun y => by rw [hl]
  rw [e0 x]
  by_cases h1 : m.kind = 1
  · rw [if_pos h1, if_pos h1]; exact tell_asked _ _ _
  rw [if_neg h1, if_neg h1]
  by_cases h2 : m.kind = 2
  · rw [if_pos h2, if_pos h2]
    exact tell_voted _ _ _ (by rw [hl]; exact hc) (by rw [hl]; exact hfit) (by rw [hl]; exact hm.f) (by rw [hl]; have := hm.t.1; have := hm.t.2; omega)
  rw [if_neg h2, if_neg h2]
  by_cases h3 : m.kind = 3
  · rw [if_pos h3, if_pos h3]; exact tell_more _ _ _
  rw [if_neg h3, if_neg h3]
  exact tell_matchedQ _ _ _ (by rw [hl]; exact hc) (by rw [hl]; exact hfit) (by rw [hl]; exact hm.f) (hmm (by have := hm.k; omega))
theorem tell_fold (l : List Int) (q : Qu) (g : Int → Bl) : (l.foldl (fun q i => q.send (g i)) q).tell = l.foldl (fun q i => q.send (g i)) q.tell := by
  induction l generalizing q with
  | nil => rfl
  | cons a l ih => rw [List.foldl_cons, List.foldl_cons, ih, tell_send]
theorem tell_seek {q : Qu} {n : Int} (hq : q.Fit) (hn : q.has n) : ((q.seek n).1.tell, (q.seek n).2) = q.tell.seek n := by
  have hx := hq.nd _ (node_mem hn)
  unfold Qu.seek Dq.seek
  simp only
  rw [tell_node]
  have er : ((q.node n).tell q.nodes.length).role = (q.node n).role := rfl
  have et : ((q.node n).tell q.nodes.length).term = (q.node n).term := rfl
  rw [er, et]
  by_cases h1 : (q.node n).role = 3
  · rw [if_pos h1, if_pos h1]
  rw [if_neg h1, if_neg h1]
  by_cases h2 : top ≤ (q.node n).term
  · rw [if_pos h2, if_pos h2]
  rw [if_neg h2, if_neg h2]
  have h5 : n.toNat < 5 := by have := hn.1; have := hn.2; have := hq.odd.2; omega
  have hl := tell_leads (x := ⟨((q.node n).voter ((q.node n).term + 1)).term, n, (q.node n).log, 2, (q.node n).commit, falses.set n.toNat true, zeros, zeros⟩) (n := n.toNat) hq.odd (by have := hn.1; have := hn.2; omega) (by simp [falses]) rfl (fun _ => rfl) (fun _ c hc => by
    have := hx.lt c hc
    show c.term < if (q.node n).term < (q.node n).term + 1 then (q.node n).term + 1 else (q.node n).term
    split <;> omega)
  have ei : idxs (falses.set n.toNat true) = [n] := by
    rw [idxs_ins rfl h5, idxs_falses]
    show [((n.toNat : Nat) : Int)] = [n]
    congr 1
    have := hn.1
    omega
  have hsame : ∀ (y : Nd) (c : Nat), (y.leads c n.toNat).term = y.term ∧ (y.leads c n.toNat).log = y.log := fun y c => by unfold Nd.leads; split <;> exact ⟨rfl, rfl⟩
  refine Prod.ext ?_ rfl
  simp only
  rw [tell_fold, tell_setN]
  rw [tell_len]
  have ey : (Nd.leads { (q.node n).voter ((q.node n).term + 1) with role := 2, vote := n, votes := falses.set n.toNat true } q.nodes.length n.toNat).tell q.nodes.length = An.leads { ((q.node n).tell q.nodes.length).voter ((q.node n).term + 1) with role := 2, vote := n, votes := [n] } q.nodes.length n.toNat := by
    refine hl.trans ?_
    congr 1
    unfold Nd.tell
    simp only [ei]
    rfl
  rw [ey, (hsame _ _).1, (hsame _ _).2]
  rfl
theorem tell_take {q : Qu} {p : Pk} (hq : q.Fit) (hn : q.has p.a) : ((q.take p).1.tell, (q.take p).2) = q.tell.take p := by
  have hx := hq.nd _ (node_mem hn)
  unfold Qu.take Dq.take
  simp only
  rw [tell_node]
  have er : ((q.node p.a).tell q.nodes.length).role = (q.node p.a).role := rfl
  have el : ((q.node p.a).tell q.nodes.length).log = (q.node p.a).log := rfl
  rw [er, el]
  by_cases h0 : ¬ in32 p.b
  · rw [if_pos h0, if_pos h0]
  rw [if_neg h0, if_neg h0]
  by_cases h1 : (q.node p.a).role ≠ 3
  · rw [if_pos h1, if_pos h1]
  rw [if_neg h1, if_neg h1]
  by_cases h2 : 256 ≤ (q.node p.a).log.length
  · rw [if_pos h2, if_pos h2]
  rw [if_neg h2, if_neg h2]
  have hr : (q.node p.a).role = 3 := Classical.byContradiction h1
  refine Prod.ext ?_ rfl
  simp only
  rw [tell_setN, tell_len]
  congr 1
  refine (tell_commits (x := ⟨(q.node p.a).term, (q.node p.a).vote, (q.node p.a).log ++ [(⟨(q.node p.a).term, p.b⟩ : Cmd)], (q.node p.a).role, (q.node p.a).commit, (q.node p.a).votes, (q.node p.a).next, setI (q.node p.a).mat p.a ((q.node p.a).log.length + 1)⟩) hq.odd hr (by simp [setI, hx.ml]) (by
    refine List.pairwise_append.2 ⟨hx.lm, List.pairwise_singleton _ _, fun a ha b hb => ?_⟩
    rw [List.mem_singleton.1 hb]
    exact hx.lt a ha) (fun c hc => by
    rcases List.mem_append.1 hc with h | h
    · exact hx.lt c h
    · rw [List.mem_singleton.1 h]; exact Int.le_refl _) hx.c0 (fun a ha => by
    simp only [List.length_append, List.length_singleton]
    rcases List.mem_or_eq_of_mem_set ha with h | h
    · have := hx.mb a h; omega
    · omega)).trans ?_
  congr 1
  unfold Nd.tell
  simp only [hr, if_true, setI_take]
theorem tell_give {q : Qu} {p : Pk} (hn : q.has p.a) : ((q.give p).1.tell, (q.give p).2) = q.tell.give p := by
  unfold Qu.give Dq.give
  simp only
  rw [tell_node]
  have er : ((q.node p.a).tell q.nodes.length).role = (q.node p.a).role := rfl
  have el : ((q.node p.a).tell q.nodes.length).log = (q.node p.a).log := rfl
  have ec : ((q.node p.a).tell q.nodes.length).commit = (q.node p.a).commit := rfl
  have et : ((q.node p.a).tell q.nodes.length).term = (q.node p.a).term := rfl
  have eh : q.tell.has p.b ↔ q.has p.b := by unfold Qu.has Dq.has; rw [tell_len]
  by_cases h0 : ¬ q.has p.b ∨ p.b = p.a
  · rw [if_pos h0, if_pos (show ¬ q.tell.has p.b ∨ p.b = p.a by rw [eh]; exact h0)]
  rw [if_neg h0, if_neg (show ¬ (¬ q.tell.has p.b ∨ p.b = p.a) by rw [eh]; exact h0), er]
  by_cases h1 : (q.node p.a).role ≠ 3
  · rw [if_pos h1, if_pos h1]
  rw [if_neg h1, if_neg h1, el, ec, et]
  have hr : (q.node p.a).role = 3 := Classical.byContradiction h1
  have hb : q.has p.b := Classical.byContradiction fun e => h0 (.inl e)
  have eg : getI ((q.node p.a).tell q.nodes.length).next p.b = getI (q.node p.a).next p.b := by
    have e : ((q.node p.a).tell q.nodes.length).next = (q.node p.a).next.take q.nodes.length := by unfold Nd.tell; simp [hr]
    rw [e]
    exact getI_take _ (by have := hb.1; have := hb.2; omega)
  rw [eg]
  refine Prod.ext ?_ rfl
  exact tell_send _ _
theorem tell_crash (q : Qu) (n : Int) : ((q.crash n).1.tell, (q.crash n).2) = q.tell.crash n := by
  unfold Qu.crash Dq.crash
  rw [tell_node, tell_setN, ← tell_voter]
  rfl
theorem tell_picked {q : Qu} {p : Pk} (hq : q.Fit) : ((q.picked p).1.tell, (q.picked p).2) = q.tell.picked p := by
  unfold Qu.picked Dq.picked
  have eb : q.tell.bag = q.bag := rfl
  simp only
  rw [eb]
  by_cases h0 : q.bag = []
  · rw [if_pos h0, if_pos h0]
  rw [if_neg h0, if_neg h0]
  have hlen : 0 < q.bag.length := List.length_pos_iff.2 h0
  have hat : (p.a % q.bag.length).toNat < q.bag.length := by
    have h1 := Int.emod_nonneg p.a (b := (q.bag.length : Int)) (by omega)
    have h2 := Int.emod_lt_of_pos p.a (b := (q.bag.length : Int)) (by omega)
    omega
  have hm : q.bag.getD (p.a % q.bag.length).toNat Bl.zero ∈ q.bag := by
    rw [List.getD_eq_getElem?_getD, List.getElem?_eq_getElem hat]
    exact List.getElem_mem _
  obtain ⟨m, hme⟩ : ∃ m, m = q.bag.getD (p.a % q.bag.length).toNat Bl.zero := ⟨_, rfl⟩
  rw [← hme] at hm ⊢
  obtain ⟨q1, hq1⟩ : ∃ q1 : Qu, q1 = if p.kind ≠ 6 then ⟨q.nodes, q.bag.eraseIdx (p.a % q.bag.length).toNat⟩ else q := ⟨_, rfl⟩
  have en : q1.nodes = q.nodes := by rw [hq1]; split <;> rfl
  have e1 : (if p.kind ≠ 6 then (⟨q.tell.nodes, q.bag.eraseIdx (p.a % q.bag.length).toNat⟩ : Dq) else q.tell) = q1.tell := by
    rw [hq1]
    split <;> rfl
  rw [← hq1, e1]
  by_cases h7 : p.kind = 7
  · rw [if_pos h7, if_pos h7]
  rw [if_neg h7, if_neg h7]
  refine Prod.ext ?_ rfl
  refine tell_come (by rw [en]; exact hq.odd) (by rw [en]; exact hq.nd) ?_
  have := hq.bg m hm
  have en2 : q1.node m.to = q.node m.to := by unfold Qu.node; rw [en]
  exact ⟨by rw [en]; exact this.f, by rw [en]; exact this.t, this.k, by rw [en2]; exact this.mm⟩
theorem tell_step {q : Qu} (hq : q.Fit) (p : Pk) : ((q.step p).1.tell, (q.step p).2) = q.tell.step p := by
  unfold Qu.step Dq.step
  have eh : q.tell.has p.a ↔ q.has p.a := by unfold Qu.has Dq.has; rw [tell_len]
  by_cases h0 : 1 ≤ p.kind ∧ p.kind ≤ 4 ∧ q.has p.a
  · rw [if_pos h0, if_pos (show 1 ≤ p.kind ∧ p.kind ≤ 4 ∧ q.tell.has p.a by rw [eh]; exact h0)]
    by_cases h1 : p.kind = 1
    · rw [if_pos h1, if_pos h1]; exact tell_seek hq h0.2.2
    rw [if_neg h1, if_neg h1]
    by_cases h2 : p.kind = 2
    · rw [if_pos h2, if_pos h2]; exact tell_take hq h0.2.2
    rw [if_neg h2, if_neg h2]
    by_cases h3 : p.kind = 3
    · rw [if_pos h3, if_pos h3]; exact tell_give h0.2.2
    rw [if_neg h3, if_neg h3]
    exact tell_crash q p.a
  · rw [if_neg h0, if_neg (show ¬ (1 ≤ p.kind ∧ p.kind ≤ 4 ∧ q.tell.has p.a) by rw [eh]; exact h0)]
    by_cases h1 : 5 ≤ p.kind ∧ p.kind ≤ 7
    · rw [if_pos h1, if_pos h1]; exact tell_picked hq
    · rw [if_neg h1, if_neg h1]
end Go.Wst.Qm
set_option linter.all false
namespace Go.Wst.Qm
open Go Go.Wst
def PM (L : Int → List Cmd) (l : List Cmd) : Prop := ∀ (i : Nat) (h : i < l.length), l.take (i + 1) = (L l[i].term).take (i + 1)
section
variable {L : Int → List Cmd} {l m : List Cmd}
theorem PM.nil : PM L [] := fun i h => by cases h
theorem PM.take (h : PM L l) (n : Nat) : PM L (l.take n) := fun i hi => by
  rw [List.length_take] at hi
  rw [List.getElem_take, List.take_take, Nat.min_eq_left (by omega)]
  exact h i (by omega)
theorem PM.len (h : PM L l) {i : Nat} (hi : i < l.length) : i < (L l[i].term).length := by
  have h1 := congrArg List.length (h i hi)
  rw [List.length_take, List.length_take] at h1
  omega
theorem PM.agree (h : PM L l) (k : PM L m) {i : Nat} (hl : i < l.length) (hm : i < m.length) (he : l[i].term = m[i].term) : l.take (i + 1) = m.take (i + 1) := by
  rw [h i hl, k i hm, he]
theorem take_le {n k : Nat} (h : l.take n = m.take n) (hk : k ≤ n) : l.take k = m.take k := by
  have := congrArg (List.take k) h
  rwa [List.take_take, List.take_take, Nat.min_eq_left hk] at this
theorem take_get {n i : Nat} (h : l.take n = m.take n) (hi : i < n) : l[i]? = m[i]? := by
  have := congrArg (·[i]?) h
  simpa [List.getElem?_take, hi] using this
theorem lay_spec (hl : PM L l) (hm : PM L m) : ∀ (n p : Nat), p ≤ l.length → p + n ≤ m.length → l.take p = m.take p →
    (lay l p ((m.drop p).take n) = l ∧ l.take (p + n) = m.take (p + n) ∧ p + n ≤ l.length) ∨ (∃ j, p ≤ j ∧ j < p + n ∧ lay l p ((m.drop p).take n) = m.take (p + n) ∧ l.take j = m.take j ∧ ∀ k, j < k → k ≤ l.length → l.take k ≠ m.take k) := by
  intro n
  induction n with
  | zero => intro p hp hpm he; exact .inl ⟨rfl, by simpa using he, by omega⟩
  | succ n ih =>
    intro p hp hpm he
    have hpl : p < m.length := by omega
    have hd : (m.drop p).take (n + 1) = m[p] :: (m.drop (p + 1)).take n := by
      rw [List.drop_eq_getElem_cons hpl, List.take_succ_cons]
    rw [hd]
    by_cases e : (l.map (·.term))[p]? = some m[p].term
    · have hpl2 : p < l.length := by
        rw [List.getElem?_eq_some_iff] at e
        obtain ⟨h1, _⟩ := e
        simpa using h1
      have e2 : l[p].term = m[p].term := by
        rw [List.getElem?_map, List.getElem?_eq_getElem hpl2] at e
        simpa using e
      have h1 := hl.agree hm hpl2 hpl e2
      have hlay : lay l p (m[p] :: (m.drop (p + 1)).take n) = lay l (p + 1) ((m.drop (p + 1)).take n) := by
        conv => lhs; unfold lay
        rw [if_pos e]
      rw [hlay]
      have h2 := ih (p + 1) (by omega) (by omega) h1
      have e3 : p + 1 + n = p + (n + 1) := by omega
      rw [e3] at h2
      rcases h2 with h2 | ⟨j, h3, h4⟩
      · exact .inl h2
      · exact .inr ⟨j, by omega, h4⟩
    · refine .inr ⟨p, Nat.le_refl _, by omega, ?_, he, fun k hk hkl hek => e ?_⟩
      · have hlay : lay l p (m[p] :: (m.drop (p + 1)).take n) = l.take p ++ (m[p] :: (m.drop (p + 1)).take n) := by
          conv => lhs; unfold lay
          rw [if_neg e]
        rw [hlay, he, ← hd, ← List.take_add]
      · have h1 := take_get hek hk
        rw [List.getElem?_map, h1, List.getElem?_eq_getElem hpl]
        rfl
end
theorem nodup_le : ∀ (n : Nat) (S : List Nat), S.Nodup → (∀ x ∈ S, x < n) → S.length ≤ n := by
  intro n
  induction n with
  | zero =>
    intro S _ h
    cases S with
    | nil => exact Nat.le_refl _
    | cons a l => exact absurd (h a (List.mem_cons_self ..)) (Nat.not_lt_zero _)
  | succ n ih =>
    intro S hn h
    by_cases hm : n ∈ S
    · have h1 := ih (S.erase n) (hn.erase n) (fun x hx => by
        have h2 := h x (List.mem_of_mem_erase hx)
        have h3 : x ≠ n := fun e => by subst e; exact (List.Nodup.not_mem_erase hn) hx
        omega)
      rw [List.length_erase_of_mem hm] at h1
      omega
    · have h1 := ih S hn (fun x hx => by
        have h2 := h x hx
        have h3 : x ≠ n := fun e => by subst e; exact hm hx
        omega)
      omega
structure Mj (cnt : Nat) (S : List Nat) : Prop where
  nd : S.Nodup
  lt : ∀ n ∈ S, n < cnt
  big : cnt / 2 + 1 ≤ S.length
theorem Mj.meet {cnt : Nat} {S S' : List Nat} (h : Mj cnt S) (k : Mj cnt S') : ∃ n, n ∈ S ∧ n ∈ S' := by
  refine Classical.byContradiction fun e => ?_
  have h1 : (S ++ S').Nodup := List.nodup_append.2 ⟨h.nd, k.nd, fun a ha b hb e2 => e ⟨a, ha, e2 ▸ hb⟩⟩
  have h2 := nodup_le cnt (S ++ S') h1 (fun x hx => (List.mem_append.1 hx).elim (h.lt x) (k.lt x))
  rw [List.length_append] at h2
  have h3 := h.big
  have h4 := k.big
  omega
structure Gh where
  L : Int → List Cmd
  ld : Int → Option Nat
  V : Nat → Int → Nat → Prop
  C : Int → Nat → List Cmd
  A : Nat → Int → Nat → Prop
def Gh.At (G : Gh) (T : Int) (k : Nat) : Prop := 1 ≤ k ∧ ((G.L T)[k - 1]?).map (·.term) = some T
def Gh.Cl (G : Gh) (T : Int) (k : Nat) (T' : Int) : Prop := ∀ T'', T < T'' → T'' < T' → G.ld T'' ≠ none → (G.L T'').take k = (G.L T).take k
def Gh.Good (G : Gh) (n : Nat) (T' : Int) (l : List Cmd) : Prop := ∀ T k, T < T' → G.A n T k → G.At T k → G.Cl T k T' → l.take k = (G.L T).take k
def Gh.Chosen (G : Gh) (cnt : Nat) (T : Int) (k : Nat) : Prop := G.At T k ∧ ∃ S, Mj cnt S ∧ ∀ n ∈ S, G.A n T k
structure Safe (cnt : Nat) (tm : Nat → Int) (lg : Nat → List Cmd) (G : Gh) : Prop where
  l0 : ∀ t, G.ld t = none → G.L t = []
  pL : ∀ t, PM G.L (G.L t)
  mL : ∀ t, (G.L t).Pairwise (fun a b => a.term ≤ b.term)
  tL : ∀ t, ∀ c ∈ G.L t, c.term ≤ t
  pos : ∀ t, ∀ c ∈ G.L t, 1 ≤ c.term
  pn : ∀ n, n < cnt → PM G.L (lg n)
  tn : ∀ n, n < cnt → ∀ c ∈ lg n, c.term ≤ tm n
  pC : ∀ t c, PM G.L (G.C t c)
  tC : ∀ t c, ∀ x ∈ G.C t c, x.term < t
  aT : ∀ n t k, G.A n t k → n < cnt ∧ t ≤ tm n ∧ k ≤ (G.L t).length
  rt : ∀ n T k, G.A n T k → G.At T k → (∀ T'', T < T'' → T'' ≤ tm n → G.ld T'' ≠ none → (G.L T'').take k = (G.L T).take k) → (lg n).take k = (G.L T).take k
  vT : ∀ n t c, G.V n t c → n < cnt ∧ t ≤ tm n
  vC : ∀ n t c, G.V n t c → c < cnt ∧ t ≤ tm c
  v1 : ∀ n t c c', G.V n t c → G.V n t c' → c = c'
  iv : ∀ n t c, G.V n t c → G.ld t = none → G.Good n t (G.C t c)
  ie : ∀ t c, G.ld t = some c → ∃ S, Mj cnt S ∧ ∀ n ∈ S, G.V n t c ∧ G.Good n t (G.L t)
section
variable {cnt : Nat} {tm : Nat → Int} {lg : Nat → List Cmd} {G : Gh}
theorem Safe.lc (h : Safe cnt tm lg G) {T : Int} {k : Nat} (hc : G.Chosen cnt T k) : ∀ T', T < T' → G.ld T' ≠ none → (G.L T').take k = (G.L T).take k := by
  obtain ⟨hat, S, hS, hA⟩ := hc
  have key : ∀ (d : Nat) (T' : Int), (T' - T).toNat ≤ d → T < T' → G.ld T' ≠ none → (G.L T').take k = (G.L T).take k := by
    intro d
    induction d with
    | zero => intro T' h1 h2; omega
    | succ d ih =>
      intro T' h1 h2 h3
      cases hl : G.ld T' with
      | none => exact absurd hl h3
      | some c =>
        obtain ⟨S', hS', hV⟩ := h.ie T' c hl
        obtain ⟨n, hn, hn'⟩ := hS.meet hS'
        exact (hV n hn').2 T k h2 (hA n hn) hat fun T'' h4 h5 h6 => ih T'' (by omega) h4 h6
  exact fun T' h1 h2 => key _ T' (Nat.le_refl _) h1 h2
theorem Safe.chosen_le (h : Safe cnt tm lg G) {T T' : Int} {k k' : Nat} (hc : G.Chosen cnt T k) (hc' : G.Chosen cnt T' k') (hT : T ≤ T') : (G.L T').take k = (G.L T).take k := by
  rcases Int.lt_or_eq_of_le hT with h1 | h1
  · refine h.lc hc T' h1 fun e => ?_
    have h2 := h.l0 T' e
    have h3 := hc'.1.2
    rw [h2] at h3
    simp at h3
  · rw [h1]
theorem Safe.one (h : Safe cnt tm lg G) {t : Int} {c c' : Nat} (hl : G.ld t = some c) {S : List Nat} (hS : Mj cnt S) (hV : ∀ n ∈ S, G.V n t c') : c' = c := by
  obtain ⟨S', hS', hV'⟩ := h.ie t c hl
  obtain ⟨n, hn, hn'⟩ := hS.meet hS'
  exact h.v1 n t c' c (hV n hn) (hV' n hn').1
theorem Safe.up (h : Safe cnt tm lg G) {tm' : Nat → Int} (hu : ∀ n, tm n ≤ tm' n) : Safe cnt tm' lg G where
  l0 := h.l0
  pL := h.pL
  mL := h.mL
  tL := h.tL
  pos := h.pos
  pn := h.pn
  tn n hn c hc := Int.le_trans (h.tn n hn c hc) (hu n)
  pC := h.pC
  tC := h.tC
  aT n t k ha := ⟨(h.aT n t k ha).1, Int.le_trans (h.aT n t k ha).2.1 (hu n), (h.aT n t k ha).2.2⟩
  rt n T k ha hat hs := h.rt n T k ha hat fun T'' h1 h2 h3 => hs T'' h1 (Int.le_trans h2 (hu n)) h3
  vT n t c hv := ⟨(h.vT n t c hv).1, Int.le_trans (h.vT n t c hv).2 (hu n)⟩
  vC n t c hv := ⟨(h.vC n t c hv).1, Int.le_trans (h.vC n t c hv).2 (hu c)⟩
  v1 := h.v1
  iv := h.iv
  ie := h.ie
theorem mono_of (h : Safe cnt tm lg G) {l : List Cmd} (hl : PM G.L l) : l.Pairwise (fun a b => a.term ≤ b.term) := by
  rw [List.pairwise_iff_getElem]
  intro i j hi hj hij
  have h1 := hl j hj
  have h2 := hl.len hj
  have h3 := take_get h1 (i := i) (by omega)
  have h4 := take_get h1 (i := j) (by omega)
  rw [List.getElem?_eq_getElem hi, List.getElem?_eq_getElem (by omega)] at h3
  rw [List.getElem?_eq_getElem hj, List.getElem?_eq_getElem h2] at h4
  simp only [Option.some.injEq] at h3 h4
  have h5 := List.pairwise_iff_getElem.1 (h.mL l[j].term) i j (by omega) h2 hij
  rw [← h3, ← h4] at h5
  exact h5
theorem Safe.seek (h : Safe cnt tm lg G) {n : Nat} {T : Int} (hn : n < cnt) (hT : tm n < T) :
    Safe cnt (fun i => if i = n then T else tm i) lg ⟨G.L, G.ld, fun i t c => G.V i t c ∨ (i = n ∧ t = T ∧ c = n), fun t c => if t = T ∧ c = n then lg n else G.C t c, G.A⟩ := by
  have h0 := h.up (tm' := fun i => if i = n then T else tm i) (fun i => by
    by_cases e : i = n
    · rw [if_pos e]; subst e; omega
    · rw [if_neg e]; exact Int.le_refl _)
  refine ⟨h0.l0, h0.pL, h0.mL, h0.tL, h0.pos, h0.pn, h0.tn, fun t c => ?_, fun t c => ?_, h0.aT, h0.rt, fun i t c hv => ?_, fun i t c hv => ?_, fun i t c c' hv hv' => ?_, fun i t c hv hl => ?_, fun t c hl => ?_⟩
  · show PM G.L (if t = T ∧ c = n then lg n else G.C t c)
    split
    · exact h.pn n hn
    · exact h.pC t c
  · show ∀ x ∈ (if t = T ∧ c = n then lg n else G.C t c), x.term < t
    split
    · next e => intro x hx; have := h.tn n hn x hx; omega
    · exact h.tC t c
  · rcases hv with hv | ⟨rfl, rfl, rfl⟩
    · exact h0.vT i t c hv
    · exact ⟨hn, by simp⟩
  · rcases hv with hv | ⟨rfl, rfl, rfl⟩
    · exact h0.vC i t c hv
    · exact ⟨hn, by simp⟩
  · rcases hv with hv | ⟨rfl, rfl, rfl⟩ <;> rcases hv' with hv' | ⟨h1, h2, h3⟩
    · exact h.v1 i t c c' hv hv'
    · subst h1; subst h2
      have := (h.vT _ _ _ hv).2; omega
    · have := (h.vT _ _ _ hv').2; omega
    · exact h3.symm
  · intro T0 k h1 h2 h3 h4
    show (if t = T ∧ c = n then lg n else G.C t c).take k = (G.L T0).take k
    rcases hv with hv | ⟨rfl, rfl, rfl⟩
    · have hne : ¬ (t = T ∧ c = n) := by
        rintro ⟨rfl, rfl⟩
        have := (h.vC _ _ _ hv).2; omega
      rw [if_neg hne]
      exact h.iv i t c hv hl T0 k h1 h2 h3 h4
    · rw [if_pos ⟨rfl, rfl⟩]
      exact h.rt _ T0 k h2 h3 fun T'' h5 h6 h7 => h4 T'' h5 (by omega) h7
  · obtain ⟨S, hS, hV⟩ := h.ie t c hl
    exact ⟨S, hS, fun i hi => ⟨.inl (hV i hi).1, (hV i hi).2⟩⟩
theorem ofT_eq {l : List Cmd} (h : 0 < l.length) : ofT l = l[l.length - 1].term := by
  unfold ofT
  rw [List.getLast?_eq_getElem?, List.getElem?_eq_getElem (by omega)]
theorem At_get {T : Int} {k : Nat} (h : G.At T k) : ∃ h' : k - 1 < (G.L T).length, (G.L T)[k - 1].term = T := by
  obtain ⟨h1, h2⟩ := h
  rw [Option.map_eq_some_iff] at h2
  obtain ⟨c, h3, h4⟩ := h2
  obtain ⟨h5, h6⟩ := List.getElem?_eq_some_iff.1 h3
  exact ⟨h5, by rw [h6]; exact h4⟩
theorem Safe.enough (h : Safe cnt tm lg G) {n : Nat} {Cd : List Cmd} (hn : n < cnt) (hp : PM G.L Cd) (ht : ∀ x ∈ Cd, x.term < tm n) (hl : G.ld (tm n) = none)
    (hb : ofT (lg n) < ofT Cd ∨ (ofT (lg n) = ofT Cd ∧ (lg n).length ≤ Cd.length)) : G.Good n (tm n) Cd := by
  intro T k hT ha hat hcl
  have hk1 := hat.1
  have hr := h.rt n T k ha hat fun T'' h1 h2 h3 => hcl T'' h1 (by
    rcases Int.lt_or_eq_of_le h2 with h4 | h4
    · exact h4
    · subst h4; exact absurd hl h3) h3
  obtain ⟨hkL, hkT⟩ := At_get hat
  have hkn : k ≤ (lg n).length := by
    have := congrArg List.length hr
    rw [List.length_take, List.length_take] at this
    omega
  have hmn := mono_of h (h.pn n hn)
  have hmC := mono_of h hp
  have hgT : (lg n)[k - 1].term = T := by
    have h1 := take_get hr (i := k - 1) (by omega)
    rw [List.getElem?_eq_getElem (by omega), List.getElem?_eq_getElem hkL] at h1
    simp only [Option.some.injEq] at h1
    rw [h1]; exact hkT
  have hlast : T ≤ (lg n)[(lg n).length - 1].term := by
    rcases Nat.lt_or_ge (k - 1) ((lg n).length - 1) with h1 | h1
    · have := List.pairwise_iff_getElem.1 hmn (k - 1) ((lg n).length - 1) (by omega) (by omega) h1
      omega
    · have : (lg n).length - 1 = k - 1 := by omega
      simp only [this]
      omega
  have hT1 : 1 ≤ T := by
    have := h.pos T _ (List.getElem_mem hkL)
    omega
  rw [ofT_eq (show 0 < (lg n).length by omega)] at hb
  have hCpos : 0 < Cd.length := by
    rcases Nat.eq_zero_or_pos Cd.length with h1 | h1
    · exfalso
      have h2 : Cd = [] := List.length_eq_zero_iff.1 h1
      subst h2
      have h3 : ofT ([] : List Cmd) = 0 := rfl
      rw [h3] at hb
      rcases hb with hb | hb <;> omega
    · exact h1
  rw [ofT_eq hCpos] at hb
  rcases hb with hb | ⟨hb, hlen⟩
  · have hC := hp (Cd.length - 1) (by omega)
    have hCl := hp.len (i := Cd.length - 1) (by omega)
    have e1 : Cd.length - 1 + 1 = Cd.length := by omega
    rw [e1, List.take_length] at hC
    have hlt := ht _ (List.getElem_mem (show Cd.length - 1 < Cd.length by omega))
    have hne : G.ld Cd[Cd.length - 1].term ≠ none := fun e => by
      rw [h.l0 _ e] at hCl
      exact absurd hCl (Nat.not_lt_zero _)
    have h1 := hcl Cd[Cd.length - 1].term (by omega) hlt hne
    have hkC : k ≤ Cd.length := by
      refine Classical.byContradiction fun e => ?_
      have h2 := take_get h1 (i := Cd.length - 1) (by omega)
      have h3 := take_get h1 (i := k - 1) (by omega)
      have hk2 : k - 1 < (G.L Cd[Cd.length - 1].term).length := by
        have := congrArg List.length h1
        rw [List.length_take, List.length_take] at this
        omega
      rw [List.getElem?_eq_getElem hk2, List.getElem?_eq_getElem hkL] at h3
      simp only [Option.some.injEq] at h3
      have h4 := congrArg (·[Cd.length - 1]?) hC
      simp only [List.getElem?_take] at h4
      rw [if_pos (by omega), List.getElem?_eq_getElem (show Cd.length - 1 < Cd.length by omega), List.getElem?_eq_getElem hCl] at h4
      simp only [Option.some.injEq] at h4
      have h5 := List.pairwise_iff_getElem.1 (h.mL Cd[Cd.length - 1].term) (Cd.length - 1) (k - 1) hCl hk2 (by omega)
      rw [← h4, h3] at h5
      omega
    rw [hC, List.take_take, Nat.min_eq_left hkC]
    exact h1
  · have h1 := hp (Cd.length - 1) (by omega)
    have h2 := h.pn n hn ((lg n).length - 1) (by omega)
    have e1 : Cd.length - 1 + 1 = Cd.length := by omega
    have e2 : (lg n).length - 1 + 1 = (lg n).length := by omega
    rw [e1, List.take_length] at h1
    rw [e2, List.take_length, hb] at h2
    have h3 : Cd.take k = (lg n).take k := by
      rw [h1, h2, List.take_take, List.take_take, Nat.min_eq_left (by omega), Nat.min_eq_left hkn]
    rw [h3]
    exact hr
theorem Safe.vote (h : Safe cnt tm lg G) {n c : Nat} (hn : n < cnt) (hc : c < cnt) (hct : tm n ≤ tm c) (h1 : ∀ c', G.V n (tm n) c' → c' = c)
    (hb : ofT (lg n) < ofT (G.C (tm n) c) ∨ (ofT (lg n) = ofT (G.C (tm n) c) ∧ (lg n).length ≤ (G.C (tm n) c).length)) :
    Safe cnt tm lg ⟨G.L, G.ld, fun i t d => G.V i t d ∨ (i = n ∧ t = tm n ∧ d = c), G.C, G.A⟩ := by
  refine ⟨h.l0, h.pL, h.mL, h.tL, h.pos, h.pn, h.tn, h.pC, h.tC, h.aT, h.rt, fun i t d hv => ?_, fun i t d hv => ?_, fun i t d d' hv hv' => ?_, fun i t d hv hl => ?_, fun t d hl => ?_⟩
  · rcases hv with hv | ⟨rfl, rfl, rfl⟩
    · exact h.vT i t d hv
    · exact ⟨hn, Int.le_refl _⟩
  · rcases hv with hv | ⟨rfl, rfl, rfl⟩
    · exact h.vC i t d hv
    · exact ⟨hc, hct⟩
  · rcases hv with hv | ⟨rfl, rfl, rfl⟩ <;> rcases hv' with hv' | ⟨h2, h3, h4⟩
    · exact h.v1 i t d d' hv hv'
    · subst h2; subst h3
      exact (h1 d hv).trans h4.symm
    · exact (h1 d' hv').symm
    · exact h4.symm
  · rcases hv with hv | ⟨rfl, rfl, rfl⟩
    · exact h.iv i t d hv hl
    · exact h.enough hn (h.pC _ _) (h.tC _ _) hl hb
  · obtain ⟨S, hS, hV⟩ := h.ie t d hl
    exact ⟨S, hS, fun i hi => ⟨.inl (hV i hi).1, (hV i hi).2⟩⟩
theorem pos_of (h : Safe cnt tm lg G) {l : List Cmd} (hl : PM G.L l) : ∀ c ∈ l, 1 ≤ c.term := fun c hc => by
  obtain ⟨i, hi, rfl⟩ := List.getElem_of_mem hc
  have h1 := take_get (hl i hi) (i := i) (by omega)
  have h2 := hl.len hi
  rw [List.getElem?_eq_getElem hi, List.getElem?_eq_getElem h2] at h1
  simp only [Option.some.injEq] at h1
  have h3 := h.pos l[i].term _ (List.getElem_mem h2)
  rw [← h1] at h3
  exact h3
theorem Safe.elect (h : Safe cnt tm lg G) {n : Nat} {t : Int} (hn : n < cnt) (ht : t = tm n) (hld : G.ld t = none) (hC : lg n = G.C t n) {S : List Nat} (hS : Mj cnt S) (hV : ∀ i ∈ S, G.V i t n) :
    Safe cnt tm lg ⟨fun s => if s = t then lg n else G.L s, fun s => if s = t then some n else G.ld s, G.V, G.C, fun i s k => G.A i s k ∨ (i = n ∧ s = t ∧ k ≤ (lg n).length)⟩ := by
  have hLt := h.l0 t hld
  have hLn : ∀ s, s ≠ t → (if s = t then lg n else G.L s) = G.L s := fun s e => if_neg e
  have hst : ∀ l, PM G.L l → PM (fun s => if s = t then lg n else G.L s) l := fun l hl i hi => by
    have hne : l[i].term ≠ t := fun e => by
      have := hl.len hi
      rw [e, hLt] at this
      exact absurd this (Nat.not_lt_zero _)
    show _ = (if l[i].term = t then lg n else G.L l[i].term).take (i + 1)
    rw [if_neg hne]
    exact hl i hi
  have hA : ∀ i T k, (G.A i T k ∨ (i = n ∧ T = t ∧ k ≤ (lg n).length)) → 1 ≤ k → T ≠ t → G.A i T k := fun i T k e _ hne => e.elim id (fun e => absurd e.2.1 hne)
  have hlt : ∀ c ∈ lg n, c.term < t := by rw [hC]; exact h.tC t n
  have hgood : ∀ i t' l, t' ≠ t → t' ≤ t ∨ True → G.Good i t' l → Gh.Good ⟨fun s => if s = t then lg n else G.L s, fun s => if s = t then some n else G.ld s, G.V, G.C, fun i s k => G.A i s k ∨ (i = n ∧ s = t ∧ k ≤ (lg n).length)⟩ i t' l := fun i t' l hne _ hg T k h1 h2 h3 h4 => by
    have hTt : T ≠ t := fun e => by
      subst e
      have h5 : ((lg n)[k - 1]?).map (·.term) = some T := by
        have := h3.2
        simpa using this
      rw [Option.map_eq_some_iff] at h5
      obtain ⟨c, h6, h7⟩ := h5
      have := hlt c (List.mem_of_getElem? h6)
      omega
    show l.take k = (if T = t then lg n else G.L T).take k
    rw [if_neg hTt]
    refine hg T k h1 (hA i T k h2 h3.1 hTt) ⟨h3.1, by have := h3.2; simpa [hTt] using this⟩ fun T'' h5 h6 h7 => ?_
    have hne2 : T'' ≠ t := fun e => by subst e; exact h7 hld
    have h8 := h4 T'' h5 h6 (by simpa [hne2] using h7)
    simpa [hne2, hTt] using h8
  refine ⟨fun s hs => ?_, fun s => ?_, fun s => ?_, fun s => ?_, fun s => ?_, fun i hi => hst _ (h.pn i hi), h.tn, fun s c => hst _ (h.pC s c), h.tC, fun i s k ha => ?_, fun i T k ha hat hs => ?_, h.vT, h.vC, h.v1, fun i s c hv hl => ?_, fun s c hl => ?_⟩
  · have hs' : (if s = t then some n else G.ld s) = none := hs
    by_cases e : s = t
    · rw [if_pos e] at hs'; cases hs'
    · rw [if_neg e] at hs'
      show (if s = t then lg n else G.L s) = []
      rw [if_neg e]; exact h.l0 s hs'
  · show PM _ (if s = t then lg n else G.L s)
    split
    · exact hst _ (h.pn n hn)
    · exact hst _ (h.pL s)
  · show (if s = t then lg n else G.L s).Pairwise _
    split
    · exact mono_of h (h.pn n hn)
    · exact h.mL s
  · show ∀ c ∈ (if s = t then lg n else G.L s), c.term ≤ s
    split
    · next e => intro c hc; have := hlt c hc; omega
    · exact h.tL s
  · show ∀ c ∈ (if s = t then lg n else G.L s), 1 ≤ c.term
    split
    · exact pos_of h (h.pn n hn)
    · exact h.pos s
  · show i < cnt ∧ s ≤ tm i ∧ k ≤ (if s = t then lg n else G.L s).length
    rcases ha with ha | ⟨rfl, rfl, hk⟩
    · have h1 := h.aT i s k ha
      refine ⟨h1.1, h1.2.1, ?_⟩
      split
      · next e => have h2 := h1.2.2; rw [e, hLt] at h2; simp at h2; omega
      · exact h1.2.2
    · exact ⟨hn, by omega, by rw [if_pos rfl]; exact hk⟩
  · show (lg i).take k = (if T = t then lg n else G.L T).take k
    by_cases e : T = t
    · rcases ha with ha | ⟨rfl, _, hk⟩
      · have h2 := (h.aT i T k ha).2.2
        rw [e, hLt] at h2
        have h3 := hat.1
        simp at h2
        omega
      · rw [if_pos e]
    · rw [if_neg e]
      refine h.rt i T k (hA i T k ha hat.1 e) ⟨hat.1, by have := hat.2; simpa [e] using this⟩ fun T'' h5 h6 h7 => ?_
      have hne2 : T'' ≠ t := fun e => by subst e; exact h7 hld
      have h8 := hs T'' h5 h6 (by simpa [hne2] using h7)
      simpa [hne2, e] using h8
  · have hl' : (if s = t then some n else G.ld s) = none := hl
    by_cases e : s = t
    · rw [if_pos e] at hl'; cases hl'
    · rw [if_neg e] at hl'
      exact hgood i s _ e (.inr trivial) (h.iv i s c hv hl')
  · have hl' : (if s = t then some n else G.ld s) = some c := hl
    by_cases e : s = t
    · rw [if_pos e] at hl'
      cases hl'
      subst e
      refine ⟨S, hS, fun i hi => ⟨hV i hi, ?_⟩⟩
      show Gh.Good _ i s (if s = s then lg n else G.L s)
      rw [if_pos rfl]
      have hg := h.iv i s n (hV i hi) hld
      rw [← hC] at hg
      intro T k h1 h2 h3 h4
      have hTt : T ≠ s := by omega
      show (lg n).take k = (if T = s then lg n else G.L T).take k
      rw [if_neg hTt]
      refine hg T k h1 (hA i T k h2 h3.1 hTt) ⟨h3.1, by have := h3.2; simpa [hTt] using this⟩ fun T'' h5 h6 h7 => ?_
      have hne2 : T'' ≠ s := by omega
      have h8 := h4 T'' h5 h6 (by simpa [hne2] using h7)
      simpa [hne2, hTt] using h8
    · rw [if_neg e] at hl'
      obtain ⟨S', hS', hV'⟩ := h.ie s c hl'
      refine ⟨S', hS', fun i hi => ⟨(hV' i hi).1, ?_⟩⟩
      show Gh.Good _ i s (if s = t then lg n else G.L s)
      rw [if_neg e]
      exact hgood i s _ e (.inr trivial) (hV' i hi).2
theorem take_len {l m : List Cmd} {k : Nat} (h : l.take k = m.take k) (hk : k ≤ m.length) : k ≤ l.length := by
  have := congrArg List.length h
  rw [List.length_take, List.length_take] at this
  omega
theorem take_snoc_le {l : List Cmd} {c : Cmd} {k : Nat} (hk : k ≤ l.length) : (l ++ [c]).take k = l.take k := List.take_append_of_le_length hk
theorem Safe.append (h : Safe cnt tm lg G) {n : Nat} {t : Int} {c : Cmd} (hn : n < cnt) (ht : t = tm n) (hld : G.ld t = some n) (hlg : lg n = G.L t) (hc : c.term = t) (hc1 : 1 ≤ c.term) :
    Safe cnt tm (fun i => if i = n then G.L t ++ [c] else lg i) ⟨fun s => if s = t then G.L t ++ [c] else G.L s, G.ld, G.V, G.C, fun i s k => G.A i s k ∨ (i = n ∧ s = t ∧ k ≤ (G.L t).length + 1)⟩ := by
  have hst : ∀ l, PM G.L l → PM (fun s => if s = t then G.L t ++ [c] else G.L s) l := fun l hl i hi => by
    have h1 := hl i hi
    have h2 := hl.len hi
    show _ = (if l[i].term = t then G.L t ++ [c] else G.L l[i].term).take (i + 1)
    by_cases e : l[i].term = t
    · rw [if_pos e, h1, e]
      rw [e] at h2
      exact (take_snoc_le (by omega)).symm
    · rw [if_neg e]; exact h1
  have hnew : PM (fun s => if s = t then G.L t ++ [c] else G.L s) (G.L t ++ [c]) := fun i hi => by
    rw [List.length_append, List.length_singleton] at hi
    rcases Nat.lt_or_ge i (G.L t).length with h1 | h1
    · rw [take_snoc_le (by omega)]
      have h2 := hst _ (h.pL t) i h1
      rw [h2]
      congr 2
      rw [List.getElem_append_left h1]
    · have h2 : i = (G.L t).length := by omega
      subst h2
      have e : ((G.L t ++ [c])[(G.L t).length]'(by simp)).term = t := by
        rw [List.getElem_append_right (Nat.le_refl _)]
        simpa using hc
      show _ = (if ((G.L t ++ [c])[(G.L t).length]'(by simp)).term = t then G.L t ++ [c] else G.L _).take _
      rw [if_pos e]
  have hAt : ∀ T k, k ≤ (G.L T).length → (1 ≤ k ∧ (((if T = t then G.L t ++ [c] else G.L T))[k - 1]?).map (·.term) = some T) → G.At T k := fun T k hk hat => by
    refine ⟨hat.1, ?_⟩
    have h1 := hat.2
    have h2 := hat.1
    by_cases e : T = t
    · subst e
      rw [if_pos rfl, List.getElem?_append_left (by omega)] at h1
      exact h1
    · rw [if_neg e] at h1; exact h1
  have heq : ∀ T k, k ≤ (G.L T).length → ((if T = t then G.L t ++ [c] else G.L T)).take k = (G.L T).take k := fun T k hk => by
    by_cases e : T = t
    · subst e; rw [if_pos rfl]; exact take_snoc_le hk
    · rw [if_neg e]
  have hback : ∀ T T'' k, T < T'' → k ≤ (G.L T).length → G.At T k → ((if T'' = t then G.L t ++ [c] else G.L T'')).take k = ((if T = t then G.L t ++ [c] else G.L T)).take k → (G.L T'').take k = (G.L T).take k := fun T T'' k hlt hk hat e => by
    rw [heq T k hk] at e
    by_cases e2 : T'' = t
    · subst e2
      rw [if_pos rfl] at e
      obtain ⟨h3, h4⟩ := At_get hat
      have h5 := take_len e hk
      rw [List.length_append, List.length_singleton] at h5
      have hk1 := hat.1
      have h6 : k ≤ (G.L T'').length := by
        refine Classical.byContradiction fun e3 => ?_
        have h7 := take_get e (i := k - 1) (by omega)
        have h8 : k - 1 = (G.L T'').length := by omega
        have h9 : (G.L T'' ++ [c])[k - 1]? = some c := by rw [h8]; simp
        rw [List.getElem?_eq_getElem h3, h9] at h7
        simp only [Option.some.injEq] at h7
        have h10 : (G.L T)[k - 1].term = c.term := by rw [← h7]
        omega
      rw [take_snoc_le h6] at e
      exact e
    · rw [if_neg e2] at e; exact e
  have hgood : ∀ i t' l, i < cnt → t' ≤ tm i → G.Good i t' l → Gh.Good ⟨fun s => if s = t then G.L t ++ [c] else G.L s, G.ld, G.V, G.C, fun i s k => G.A i s k ∨ (i = n ∧ s = t ∧ k ≤ (G.L t).length + 1)⟩ i t' l := fun i t' l hi ht' hg T k h1 h2 h3 h4 => by
    rcases h2 with h2 | ⟨rfl, rfl, _⟩
    · have hk := (h.aT i T k h2).2.2
      have hat := hAt T k hk h3
      show l.take k = (if T = t then G.L t ++ [c] else G.L T).take k
      rw [heq T k hk]
      exact hg T k h1 h2 hat fun T'' h5 h6 h7 => hback T T'' k h5 hk hat (h4 T'' h5 h6 h7)
    · omega
  refine ⟨fun s hs => ?_, fun s => ?_, fun s => ?_, fun s => ?_, fun s => ?_, fun i hi => ?_, fun i hi => ?_, fun s d => hst _ (h.pC s d), h.tC, fun i s k ha => ?_, fun i T k ha hat hs => ?_, h.vT, h.vC, h.v1, fun i s d hv hl => ?_, fun s d hl => ?_⟩
  · show (if s = t then G.L t ++ [c] else G.L s) = []
    by_cases e : s = t
    · subst e
      have : G.ld s = none := hs
      rw [hld] at this; cases this
    · rw [if_neg e]; exact h.l0 s hs
  · show PM _ (if s = t then G.L t ++ [c] else G.L s)
    split
    · exact hnew
    · exact hst _ (h.pL s)
  · show (if s = t then G.L t ++ [c] else G.L s).Pairwise _
    split
    · refine List.pairwise_append.2 ⟨h.mL t, List.pairwise_singleton _ _, fun a ha b hb => ?_⟩
      rw [List.mem_singleton.1 hb, hc]
      exact h.tL t a ha
    · exact h.mL s
  · show ∀ d ∈ (if s = t then G.L t ++ [c] else G.L s), d.term ≤ s
    split
    · next e =>
      intro d hd
      rcases List.mem_append.1 hd with hd | hd
      · have := h.tL t d hd; omega
      · rw [List.mem_singleton.1 hd]; omega
    · exact h.tL s
  · show ∀ d ∈ (if s = t then G.L t ++ [c] else G.L s), 1 ≤ d.term
    split
    · intro d hd
      rcases List.mem_append.1 hd with hd | hd
      · exact h.pos t d hd
      · rw [List.mem_singleton.1 hd]; exact hc1
    · exact h.pos s
  · show PM _ (if i = n then G.L t ++ [c] else lg i)
    split
    · exact hnew
    · exact hst _ (h.pn i hi)
  · show ∀ d ∈ (if i = n then G.L t ++ [c] else lg i), d.term ≤ tm i
    split
    · next e =>
      subst e
      intro d hd
      rcases List.mem_append.1 hd with hd | hd
      · have := h.tL t d hd; omega
      · rw [List.mem_singleton.1 hd]; omega
    · exact h.tn i hi
  · show i < cnt ∧ s ≤ tm i ∧ k ≤ (if s = t then G.L t ++ [c] else G.L s).length
    rcases ha with ha | ⟨rfl, rfl, hk⟩
    · have h1 := h.aT i s k ha
      refine ⟨h1.1, h1.2.1, ?_⟩
      split
      · next e => subst e; rw [List.length_append]; have := h1.2.2; omega
      · exact h1.2.2
    · exact ⟨hn, by omega, by rw [if_pos rfl, List.length_append]; exact hk⟩
  · show (if i = n then G.L t ++ [c] else lg i).take k = (if T = t then G.L t ++ [c] else G.L T).take k
    rcases ha with ha | ⟨rfl, rfl, _⟩
    · have hk := (h.aT i T k ha).2.2
      have hat' := hAt T k hk hat
      rw [heq T k hk]
      have hr := h.rt i T k ha hat' fun T'' h5 h6 h7 => hback T T'' k h5 hk hat' (hs T'' h5 h6 h7)
      by_cases e : i = n
      · rw [if_pos e]
        subst e
        rw [hlg] at hr
        rw [take_snoc_le (take_len hr hk)]
        exact hr
      · rw [if_neg e]; exact hr
    · rw [if_pos rfl, if_pos rfl]
  · have h1 := h.vT i s d hv
    exact hgood i s _ h1.1 h1.2 (h.iv i s d hv hl)
  · obtain ⟨S', hS', hV'⟩ := h.ie s d hl
    refine ⟨S', hS', fun i hi => ⟨(hV' i hi).1, ?_⟩⟩
    have h1 := h.vT i s d (hV' i hi).1
    have hg := hgood i s _ h1.1 h1.2 (hV' i hi).2
    show Gh.Good _ i s (if s = t then G.L t ++ [c] else G.L s)
    by_cases e : s = t
    · rw [if_pos e]
      intro T k h2 h3 h4 h5
      have h6 := hg T k h2 h3 h4 h5
      have h7 : (G.L s).take k = ((if T = t then G.L t ++ [c] else G.L T)).take k := h6
      have hTt : T ≠ t := by omega
      rw [if_neg hTt] at h7
      show (G.L t ++ [c]).take k = (if T = t then G.L t ++ [c] else G.L T).take k
      rw [if_neg hTt]
      have hkT : k ≤ (G.L T).length := by
        rcases h3 with h3 | ⟨_, h3, _⟩
        · exact (h.aT i T k h3).2.2
        · exact absurd h3 hTt
      rw [← e, take_snoc_le (take_len h7 hkT)]
      exact h7
    · rw [if_neg e]; exact hg
theorem lay_keeps {l m : List Cmd} (hl : PM G.L l) (hm : PM G.L m) {p n : Nat} (hp : p ≤ l.length) (hpm : p + n ≤ m.length) (he : l.take p = m.take p) :
    PM G.L (lay l p ((m.drop p).take n)) ∧ (∀ c ∈ lay l p ((m.drop p).take n), c ∈ l ∨ c ∈ m) ∧ (lay l p ((m.drop p).take n)).take (p + n) = m.take (p + n) ∧ p + n ≤ (lay l p ((m.drop p).take n)).length ∧
      ∀ k, k ≤ l.length → l.take k = m.take k → (lay l p ((m.drop p).take n)).take k = l.take k := by
  rcases lay_spec hl hm n p hp hpm he with ⟨h1, h2, h3⟩ | ⟨j, h1, h2, h3, h4, h5⟩
  · rw [h1]
    exact ⟨hl, fun c hc => .inl hc, h2, h3, fun k _ _ => rfl⟩
  · rw [h3]
    refine ⟨hm.take _, fun c hc => .inr (List.mem_of_mem_take hc), by rw [List.take_take, Nat.min_self], by rw [List.length_take]; omega, fun k hk e => ?_⟩
    rcases Nat.lt_or_ge (p + n) k with h6 | h6
    · exact absurd e (h5 k (by omega) hk)
    · rw [List.take_take, Nat.min_eq_left h6]
      exact e.symm
theorem Safe.lay (h : Safe cnt tm lg G) {n : Nat} {t : Int} (hn : n < cnt) (ht : t = tm n) (hld : G.ld t ≠ none) {p k0 : Nat} (hp : p ≤ (lg n).length) (hpm : p + k0 ≤ (G.L t).length) (he : (lg n).take p = (G.L t).take p) :
    Safe cnt tm (fun i => if i = n then Qm.lay (lg n) p (((G.L t).drop p).take k0) else lg i) ⟨G.L, G.ld, G.V, G.C, fun i s k => G.A i s k ∨ (i = n ∧ s = t ∧ k ≤ p + k0)⟩ := by
  obtain ⟨hP, hmem, htk, hlen, hkeep⟩ := lay_keeps (h.pn n hn) (h.pL t) hp hpm he
  have hgood : ∀ i t' l, t' ≤ tm i → G.Good i t' l → Gh.Good ⟨G.L, G.ld, G.V, G.C, fun i s k => G.A i s k ∨ (i = n ∧ s = t ∧ k ≤ p + k0)⟩ i t' l := fun i t' l ht' hg T k h1 h2 h3 h4 => by
    rcases h2 with h2 | ⟨rfl, rfl, _⟩
    · exact hg T k h1 h2 h3 h4
    · omega
  refine ⟨h.l0, h.pL, h.mL, h.tL, h.pos, fun i hi => ?_, fun i hi => ?_, h.pC, h.tC, fun i s k ha => ?_, fun i T k ha hat hs => ?_, h.vT, h.vC, h.v1, fun i s d hv hl => hgood i s _ (h.vT i s d hv).2 (h.iv i s d hv hl), fun s d hl => ?_⟩
  · show PM _ (if i = n then Qm.lay (lg n) p (((G.L t).drop p).take k0) else lg i)
    split
    · exact hP
    · exact h.pn i hi
  · show ∀ c ∈ (if i = n then Qm.lay (lg n) p (((G.L t).drop p).take k0) else lg i), c.term ≤ tm i
    split
    · next e =>
      subst e
      intro c hc
      rcases hmem c hc with h1 | h1
      · exact h.tn i hi c h1
      · have := h.tL t c h1; omega
    · exact h.tn i hi
  · rcases ha with ha | ⟨rfl, rfl, hk⟩
    · exact h.aT i s k ha
    · exact ⟨hn, by omega, by show k ≤ (G.L s).length; omega⟩
  · show (if i = n then Qm.lay (lg n) p (((G.L t).drop p).take k0) else lg i).take k = (G.L T).take k
    rcases ha with ha | ⟨rfl, rfl, hk⟩
    · have h1 := h.aT i T k ha
      have hr := h.rt i T k ha hat hs
      by_cases e : i = n
      · subst e
        rw [if_pos rfl]
        have hM : (G.L t).take k = (G.L T).take k := by
          rcases Int.lt_or_eq_of_le h1.2.1 with h2 | h2
          · exact hs t (by omega) (by omega) hld
          · rw [ht, h2]
        rw [hkeep k (take_len hr h1.2.2) (hr.trans hM.symm)]
        exact hr
      · rw [if_neg e]; exact hr
    · rw [if_pos rfl]
      exact take_le htk hk
  · obtain ⟨S', hS', hV'⟩ := h.ie s d hl
    exact ⟨S', hS', fun i hi => ⟨(hV' i hi).1, hgood i s _ (h.vT i s d (hV' i hi).1).2 (hV' i hi).2⟩⟩
theorem Gh.Chosen.mono {G' : Gh} {T : Int} {k : Nat} (hc : G.Chosen cnt T k) (hA : ∀ i T k, G.A i T k → G'.A i T k) (hL : ∀ T k, k ≤ (G.L T).length → (G'.L T).take k = (G.L T).take k) : G'.Chosen cnt T k ∧ (G'.L T).take k = (G.L T).take k := by
  obtain ⟨hat, S, hS, hV⟩ := hc
  obtain ⟨h1, h2⟩ := At_get hat
  have hk := hat.1
  have e := hL T k (by omega)
  refine ⟨⟨⟨hk, ?_⟩, S, hS, fun n hn => hA n T k (hV n hn)⟩, e⟩
  rw [take_get e (i := k - 1) (by omega)]
  exact hat.2
theorem Safe.start (cnt : Nat) : Safe cnt (fun _ => 0) (fun _ => []) ⟨fun _ => [], fun _ => none, fun _ _ _ => False, fun _ _ => [], fun _ _ _ => False⟩ where
  l0 _ _ := rfl
  pL _ := PM.nil
  mL _ := List.Pairwise.nil
  tL _ c hc := by cases hc
  pos _ c hc := by cases hc
  pn _ _ := PM.nil
  tn _ _ c hc := by cases hc
  pC _ _ := PM.nil
  tC _ _ c hc := by cases hc
  aT _ _ _ ha := ha.elim
  rt _ _ _ ha := ha.elim
  vT _ _ _ hv := hv.elim
  vC _ _ _ hv := hv.elim
  v1 _ _ _ _ hv := hv.elim
  iv _ _ _ hv := hv.elim
  ie _ _ hl := by cases hl
end
end Go.Wst.Qm
set_option linter.all false
namespace Go.Wst.Qm
open Go Go.Wst
def Qu.nd (q : Qu) (n : Nat) : Nd := q.nodes.getD n Nd.new
def Qu.tm (q : Qu) (n : Nat) : Int := (q.nd n).term
def Qu.lg (q : Qu) (n : Nat) : List Cmd := (q.nd n).log
def Gh.Sure (G : Gh) (cnt : Nat) (t : Int) (l : List Cmd) (c : Int) : Prop := c = 0 ∨ ∃ T k, T ≤ t ∧ G.Chosen cnt T k ∧ c ≤ k ∧ l.take c.toNat = (G.L T).take c.toNat
structure NdI (cnt : Nat) (G : Gh) (n : Nat) (x : Nd) : Prop where
  ok : x.Ok cnt
  v1 : ∀ c, G.V n x.term c → x.vote = c
  v2 : ∀ c : Nat, x.vote = c → G.V n x.term c
  s1 : x.role = 2 → G.ld x.term ≠ some n ∧ G.C x.term n = x.log ∧ (∀ i, x.votes.getD i false = true → G.V i x.term n) ∧ 1 ≤ x.term
  l1 : x.role = 3 → G.ld x.term = some n ∧ x.log = G.L x.term ∧ ∀ i, i < cnt → ∀ k : Nat, 1 ≤ k → (k : Int) ≤ x.mat.getD i 0 → G.A i x.term k
  cm : G.Sure cnt x.term x.log x.commit
structure BlI (cnt : Nat) (tm : Nat → Int) (G : Gh) (m : Bl) : Prop where
  ok : m.Ok cnt
  ask : m.kind = 1 → m.term ≤ tm m.frm.toNat ∧ m.lastT = ofT (G.C m.term m.frm.toNat) ∧ m.last = (G.C m.term m.frm.toNat).length
  vot : m.kind = 2 → m.ok = true → G.V m.frm.toNat m.term m.to.toNat
  mor : m.kind = 3 → G.ld m.term = some m.frm.toNat ∧ m.prev.toNat + m.cmds.length ≤ (G.L m.term).length ∧ m.cmds = ((G.L m.term).drop m.prev.toNat).take m.cmds.length ∧ m.prevT = ofT ((G.L m.term).take m.prev.toNat) ∧ G.Sure cnt m.term (G.L m.term) m.commit
  mat : m.kind = 4 → m.ok = true → G.ld m.term = some m.to.toNat ∧ 0 ≤ m.mat ∧ ∀ k : Nat, 1 ≤ k → (k : Int) ≤ m.mat → G.A m.frm.toNat m.term k
structure Inv (q : Qu) (G : Gh) : Prop where
  odd : q.nodes.length % 2 = 1 ∧ q.nodes.length ≤ 5
  nd : ∀ n, n < q.nodes.length → NdI q.nodes.length G n (q.nd n)
  bg : ∀ m ∈ q.bag, BlI q.nodes.length q.tm G m
  bl : q.bag.length ≤ 256
  safe : Safe q.nodes.length q.tm q.lg G
  ldT : ∀ t c, G.ld t = some c → c < q.nodes.length ∧ t ≤ q.tm c
  ld1 : ∀ t c, G.ld t = some c → 1 ≤ t
theorem Gh.Sure.mono {G G' : Gh} {cnt : Nat} {t t' : Int} {l l' : List Cmd} {c : Int} (h : G.Sure cnt t l c) (ht : t ≤ t') (hl : l'.take c.toNat = l.take c.toNat) (hA : ∀ i T k, G.A i T k → G'.A i T k) (hL : ∀ T k, k ≤ (G.L T).length → (G'.L T).take k = (G.L T).take k) : G'.Sure cnt t' l' c := by
  rcases h with h | ⟨T, k, h1, h2, h3, h4⟩
  · exact .inl h
  · have h5 := h2.mono hA hL
    refine .inr ⟨T, k, Int.le_trans h1 ht, h5.1, h3, ?_⟩
    rw [hl, h4]
    exact (take_le h5.2 (by omega)).symm
theorem Inv.fit {q : Qu} {G : Gh} (h : Inv q G) : q.Fit where
  odd := h.odd
  nd x hx := by
    obtain ⟨n, hn, rfl⟩ := List.getElem_of_mem hx
    have h1 := (h.nd n hn).ok
    have e : q.nd n = q.nodes[n] := by unfold Qu.nd; rw [List.getD_eq_getElem?_getD, List.getElem?_eq_getElem hn]; rfl
    rw [e] at h1
    exact ⟨h1.vl, h1.nl, h1.ml, h1.lm, fun c hc => (h1.lt c hc).2, h1.c0, fun a ha => (h1.mb a ha).2, fun hr => (h1.nm hr).2, h1.sk⟩
  bg m hm := by
    have h1 := h.bg m hm
    refine ⟨h1.ok.f, h1.ok.t, h1.ok.k, fun hk ho hr ht => ?_⟩
    have h2 := h1.mat hk ho
    have hto : m.to.toNat < q.nodes.length := by have := h1.ok.t.1; have := h1.ok.t.2; omega
    have h3 := (h.nd m.to.toNat hto).l1 hr
    have e : q.node m.to = q.nd m.to.toNat := rfl
    rw [e] at ht ⊢
    rw [h3.2.1, ← ht]
    have h5 := h2.2.1
    rcases Nat.eq_zero_or_pos m.mat.toNat with h6 | h6
    · omega
    · have h4 := (h.safe.aT _ _ _ (h2.2.2 m.mat.toNat h6 (by omega))).2.2
      omega
theorem Inv.commit_le {q : Qu} {G : Gh} (h : Inv q G) {n : Nat} (hn : n < q.nodes.length) : (q.nd n).commit ≤ (q.nd n).log.length := (h.nd n hn).ok.c1
theorem Inv.new {n : Nat} (hn : n = 1 ∨ n = 3 ∨ n = 5) : Inv (Qu.new n) ⟨fun _ => [], fun _ => none, fun _ _ _ => False, fun _ _ => [], fun _ _ _ => False⟩ := by
  have hl : (Qu.new n).nodes.length = n := List.length_replicate
  have hnd : ∀ i, (Qu.new n).nd i = Nd.new := fun i => by
    unfold Qu.nd Qu.new
    rw [List.getD_eq_getElem?_getD, List.getElem?_replicate]
    split <;> rfl
  refine ⟨by rw [hl]; omega, fun i hi => ?_, fun m hm => (by cases hm), Nat.zero_le _, ?_, (fun t c e => by cases e), (fun t c e => by cases e)⟩
  · rw [hnd i, hl]
    refine ⟨⟨Int.le_refl _, by decide, Int.le_refl _, by show (-1 : Int) < n; omega, by decide, by decide, (fun c hc => by cases hc), List.Pairwise.nil, Int.le_refl _, Int.le_refl _, rfl, rfl, rfl, fun _ => rfl, fun k hk => ?_, fun _ => ⟨rfl, rfl⟩, fun a ha => ?_, fun a ha => ?_, (fun _ c hc => by cases hc)⟩, fun c e => e.elim, fun c e => ?_, fun e => ?_, fun e => ?_, .inl rfl⟩
    · show falses.getD k false = false
      unfold falses
      rw [List.getD_eq_getElem?_getD, List.getElem?_replicate]
      split <;> rfl
    · have h1 : a = 0 := List.eq_of_mem_replicate ha
      subst h1; exact ⟨Int.le_refl _, Int.le_refl _⟩
    · have h1 : a = 0 := List.eq_of_mem_replicate ha
      subst h1; exact ⟨Int.le_refl _, Int.le_refl _⟩
    · have e' : (-1 : Int) = c := e
      omega
    · cases (show (1 : Int) = 2 from e)
    · cases (show (1 : Int) = 3 from e)
  · have e1 : (Qu.new n).tm = fun _ => 0 := funext fun i => by unfold Qu.tm; rw [hnd]; rfl
    have e2 : (Qu.new n).lg = fun _ => [] := funext fun i => by unfold Qu.lg; rw [hnd]; rfl
    rw [e1, e2]
    exact Safe.start _
structure Grow (G G' : Gh) (n : Nat) (tn : Int) : Prop where
  v : ∀ i t c, G.V i t c → G'.V i t c
  vn : ∀ i t c, i ≠ n → G'.V i t c → G.V i t c
  a : ∀ i t k, G.A i t k → G'.A i t k
  l : ∀ T k, k ≤ (G.L T).length → (G'.L T).take k = (G.L T).take k
  ld : ∀ t c, G.ld t = some c → G'.ld t = some c
  ldn : ∀ t i, i ≠ n → G'.ld t = some i → G.ld t = some i
  c : ∀ t i, i ≠ n → G'.C t i = G.C t i
  cn : ∀ t, t ≤ tn → G'.C t n = G.C t n
  ll : ∀ t i, G.ld t = some i → i ≠ n → G'.L t = G.L t
theorem Grow.refl (G : Gh) (n : Nat) (tn : Int) : Grow G G n tn := ⟨fun _ _ _ h => h, fun _ _ _ _ h => h, fun _ _ _ h => h, fun _ _ _ => rfl, fun _ _ h => h, fun _ _ _ h => h, fun _ _ _ => rfl, fun _ _ => rfl, fun _ _ _ _ => rfl⟩
theorem NdI.grow {cnt : Nat} {G G' : Gh} {i n : Nat} {tn : Int} {x : Nd} (h : NdI cnt G i x) (g : Grow G G' n tn) (hi : i ≠ n) : NdI cnt G' i x where
  ok := h.ok
  v1 c hv := h.v1 c (g.vn i _ c hi hv)
  v2 c e := g.v i _ c (h.v2 c e)
  s1 e := by
    obtain ⟨h1, h2, h3, h4⟩ := h.s1 e
    exact ⟨fun e2 => h1 (g.ldn _ i hi e2), (g.c _ i hi).trans h2, fun j hj => g.v _ _ _ (h3 j hj), h4⟩
  l1 e := by
    obtain ⟨h1, h2, h3⟩ := h.l1 e
    exact ⟨g.ld _ _ h1, by rw [g.ll _ i h1 hi]; exact h2, fun j hj k h4 h5 => g.a _ _ _ (h3 j hj k h4 h5)⟩
  cm := h.cm.mono (Int.le_refl _) rfl g.a g.l
theorem BlI.grow {cnt : Nat} {tm tm' : Nat → Int} {G G' : Gh} {n : Nat} {m : Bl} (h : BlI cnt tm G m) (g : Grow G G' n (tm n)) (ht : ∀ i, tm i ≤ tm' i) : BlI cnt tm' G' m where
  ok := h.ok
  ask e := by
    obtain ⟨h1, h2, h3⟩ := h.ask e
    have hc : G'.C m.term m.frm.toNat = G.C m.term m.frm.toNat := by
      by_cases e2 : m.frm.toNat = n
      · rw [e2] at h1 ⊢; exact g.cn _ h1
      · exact g.c _ _ e2
    rw [hc]
    exact ⟨Int.le_trans h1 (ht _), h2, h3⟩
  vot e o := g.v _ _ _ (h.vot e o)
  mor e := by
    obtain ⟨h1, h2, h3, h4, h5⟩ := h.mor e
    have hl := g.l m.term (m.prev.toNat + m.cmds.length) h2
    have hlen := take_len hl.symm
    have h2' : m.prev.toNat + m.cmds.length ≤ (G'.L m.term).length := take_len hl h2
    refine ⟨g.ld _ _ h1, h2', ?_, ?_, ?_⟩
    · have e1 : ∀ l : List Cmd, (l.drop m.prev.toNat).take m.cmds.length = (l.take (m.prev.toNat + m.cmds.length)).drop m.prev.toNat := fun l => by
        rw [List.drop_take]; congr 1; omega
      rw [e1, hl, ← e1]
      exact h3
    · rw [take_le hl (by omega)]
      exact h4
    · refine h5.mono (Int.le_refl _) ?_ g.a g.l
      rcases h5 with h5 | ⟨T, k, h6, h7, h8, h9⟩
      · rw [h5]; rfl
      · obtain ⟨h10, h11⟩ := At_get h7.1
        have hk := h7.1.1
        exact g.l _ _ (take_len h9 (by omega))
  mat e o := by
    obtain ⟨h1, h2, h3⟩ := h.mat e o
    exact ⟨g.ld _ _ h1, h2, fun k h4 h5 => g.a _ _ _ (h3 k h4 h5)⟩
theorem nd_setN (q : Qu) {n : Nat} (hn : n < q.nodes.length) (y : Nd) (i : Nat) : (q.setN n y).nd i = if i = n then y else q.nd i := by
  unfold Qu.nd Qu.setN
  simp only
  rw [List.getD_eq_getElem?_getD, List.getD_eq_getElem?_getD, List.getElem?_set]
  by_cases e : n = i
  · subst e; simp [hn]
  · rw [if_neg e, if_neg (fun e2 => e e2.symm)]
theorem Inv.put {q : Qu} {G G' : Gh} (h : Inv q G) {n : Nat} (hn : n < q.nodes.length) {y : Nd} (g : Grow G G' n (q.tm n)) (ht : q.tm n ≤ y.term) (hy : NdI q.nodes.length G' n y)
    (hs : Safe q.nodes.length (fun i => if i = n then y.term else q.tm i) (fun i => if i = n then y.log else q.lg i) G') (hl : ∀ t, G'.ld t = some n → t ≤ y.term) (h1 : ∀ t, G'.ld t = some n → G.ld t = some n ∨ 1 ≤ t := by intro t e; exact .inl e) : Inv (q.setN n y) G' := by
  have hle := len_setN q n y
  have htm : (q.setN n y).tm = fun i => if i = n then y.term else q.tm i := funext fun i => by
    unfold Qu.tm; rw [nd_setN q hn]; split <;> rfl
  have hlg : (q.setN n y).lg = fun i => if i = n then y.log else q.lg i := funext fun i => by
    unfold Qu.lg; rw [nd_setN q hn]; split <;> rfl
  have hup : ∀ i, q.tm i ≤ (q.setN n y).tm i := fun i => by
    rw [htm]
    by_cases e : i = n
    · subst e; simp [ht]
    · simp [e]
  refine ⟨by rw [hle]; exact h.odd, fun i hi => ?_, fun m hm => ?_, h.bl, by rw [hle, htm, hlg]; exact hs, fun t c e => ?_, fun t c e => ?_⟩
  · rw [hle] at hi ⊢
    rw [nd_setN q hn]
    by_cases e : i = n
    · subst e; rw [if_pos rfl]; exact hy
    · rw [if_neg e]; exact (h.nd i hi).grow g e
  · rw [hle]
    exact (h.bg m hm).grow g hup
  · rw [hle]
    by_cases e2 : c = n
    · subst e2
      refine ⟨hn, ?_⟩
      rw [htm]
      simpa using hl t e
    · have h1 := h.ldT t c (g.ldn t c e2 e)
      exact ⟨h1.1, Int.le_trans h1.2 (hup c)⟩
  · by_cases e2 : c = n
    · subst e2
      exact (h1 t e).elim (h.ld1 t _) id
    · exact h.ld1 t c (g.ldn t c e2 e)
theorem Inv.send {q : Qu} {G : Gh} (h : Inv q G) {m : Bl} (hm : BlI q.nodes.length q.tm G m) : Inv (q.send m) G := by
  unfold Qu.send
  split
  · next hb =>
    refine ⟨h.odd, h.nd, fun x hx => ?_, by show (q.bag ++ [m]).length ≤ 256; rw [List.length_append]; exact hb, h.safe, h.ldT, h.ld1⟩
    rcases List.mem_append.1 hx with hx | hx
    · exact h.bg x hx
    · rw [List.mem_singleton.1 hx]; exact hm
  · exact h
end Go.Wst.Qm
set_option linter.all false
namespace Go.Wst.Qm
open Go Go.Wst
theorem zeros_ok {x : Nd} : ∀ a ∈ zeros, 0 ≤ a ∧ a ≤ (x.log.length : Int) := fun a ha => by
  have h1 : a = 0 := List.eq_of_mem_replicate ha
  subst h1
  exact ⟨Int.le_refl _, by omega⟩
theorem falses_get (k : Nat) : falses.getD k false = false := by
  unfold falses
  rw [List.getD_eq_getElem?_getD, List.getElem?_replicate]
  split <;> rfl
theorem voter_term (x : Nd) (t : Int) : x.term ≤ (x.voter t).term ∧ t ≤ (x.voter t).term ∧ ((x.voter t).term = x.term ∨ (x.voter t).term = t) := by
  show x.term ≤ (if x.term < t then t else x.term) ∧ t ≤ (if x.term < t then t else x.term) ∧ ((if x.term < t then t else x.term) = x.term ∨ (if x.term < t then t else x.term) = t)
  split <;> omega
theorem Nd.Ok.voter {cnt : Nat} {x : Nd} (h : x.Ok cnt) {t : Int} (ht : t ≤ top) : (x.voter t).Ok cnt where
  t0 := by have := (voter_term x t).1; have := h.t0; omega
  t1 := by have h1 := (voter_term x t).2.2; have h2 := h.t1; rcases h1 with h1 | h1 <;> rw [h1] <;> assumption
  v0 := by show -1 ≤ (if x.term < t then -1 else x.vote); split; exact Int.le_refl _; exact h.v0
  v1 := by show (if x.term < t then -1 else x.vote) < (cnt : Int); split; omega; exact h.v1
  r := ⟨by show (1 : Int) ≤ 1; decide, by show (1 : Int) ≤ 3; decide⟩
  ll := h.ll
  lt c hc := ⟨(h.lt c hc).1, by have h1 := (h.lt c hc).2; have h2 := (voter_term x t).1; omega⟩
  lm := h.lm
  c0 := h.c0
  c1 := h.c1
  vl := rfl
  nl := rfl
  ml := rfl
  vn _ := rfl
  vo k _ := falses_get k
  nm _ := ⟨rfl, rfl⟩
  nb := zeros_ok (x := x)
  mb := zeros_ok (x := x)
  sk e := by cases (show (1 : Int) = 2 from e)
theorem NdI.voter {q : Qu} {G : Gh} (h : Inv q G) {n : Nat} (hn : n < q.nodes.length) {t : Int} (ht : t ≤ top) : NdI q.nodes.length G n ((q.nd n).voter t) where
  ok := (h.nd n hn).ok.voter ht
  v1 c hv := by
    have h1 := (h.safe.vT _ _ _ hv).2
    have h2 : (if (q.nd n).term < t then t else (q.nd n).term) ≤ (q.nd n).term := h1
    have h3 : ¬ (q.nd n).term < t := fun e => by rw [if_pos e] at h2; omega
    have e1 : ((q.nd n).voter t).term = (q.nd n).term := if_neg h3
    have e2 : ((q.nd n).voter t).vote = (q.nd n).vote := if_neg h3
    rw [e1] at hv
    rw [e2]
    exact (h.nd n hn).v1 c hv
  v2 c e := by
    by_cases h3 : (q.nd n).term < t
    · have e2 : ((q.nd n).voter t).vote = -1 := if_pos h3
      rw [e2] at e
      omega
    · have e1 : ((q.nd n).voter t).term = (q.nd n).term := if_neg h3
      have e2 : ((q.nd n).voter t).vote = (q.nd n).vote := if_neg h3
      rw [e2] at e
      rw [e1]
      exact (h.nd n hn).v2 c e
  s1 e := by cases (show (1 : Int) = 2 from e)
  l1 e := by cases (show (1 : Int) = 3 from e)
  cm := (h.nd n hn).cm.mono (voter_term _ _).1 rfl (fun _ _ _ h => h) (fun _ _ _ => rfl)
theorem same_lg {q : Qu} {n : Nat} {l : List Cmd} (e : l = (q.nd n).log) : (fun i => if i = n then l else q.lg i) = q.lg := funext fun i => by
  by_cases h : i = n
  · subst h; rw [if_pos rfl]; exact e
  · rw [if_neg h]
theorem same_tm {q : Qu} {n : Nat} {t : Int} (e : t = (q.nd n).term) : (fun i => if i = n then t else q.tm i) = q.tm := funext fun i => by
  by_cases h : i = n
  · subst h; rw [if_pos rfl]; exact e
  · rw [if_neg h]
theorem Inv.voter {q : Qu} {G : Gh} (h : Inv q G) {n : Nat} (hn : n < q.nodes.length) {t : Int} (ht : t ≤ top) : Inv (q.setN n ((q.nd n).voter t)) G := by
  refine h.put hn (.refl G n _) (voter_term _ _).1 (NdI.voter h hn ht) ?_ fun t' e => Int.le_trans (h.ldT t' n e).2 (voter_term _ _).1
  have e1 : (fun i => if i = n then ((q.nd n).voter t).log else q.lg i) = q.lg := same_lg rfl
  rw [e1]
  exact h.safe.up fun i => by
    by_cases e : i = n
    · subst e; rw [if_pos rfl]; exact (voter_term _ _).1
    · rw [if_neg e]; exact Int.le_refl _
theorem Inv.crash {q : Qu} {G : Gh} (h : Inv q G) {n : Int} (hn : q.has n) : Inv (q.crash n).1 G := by
  have hn' : n.toNat < q.nodes.length := by have := hn.1; have := hn.2; omega
  have hv := NdI.voter h hn' (t := 0) (by decide)
  have e : ((q.nd n.toNat).voter 0).term = (q.nd n.toNat).term := by
    have h0 := (h.nd _ hn').ok.t0
    rcases (voter_term (q.nd n.toNat) 0).2.2 with h1 | h1
    · exact h1
    · have := (voter_term (q.nd n.toNat) 0).1; omega
  refine h.put (y := { (q.nd n.toNat).voter 0 with commit := 0 }) hn' (.refl G _ _) (voter_term _ _).1 ⟨⟨hv.ok.t0, hv.ok.t1, hv.ok.v0, hv.ok.v1, hv.ok.r, hv.ok.ll, hv.ok.lt, hv.ok.lm, Int.le_refl _, by show (0 : Int) ≤ _; omega, hv.ok.vl, hv.ok.nl, hv.ok.ml, hv.ok.vn, hv.ok.vo, hv.ok.nm, hv.ok.nb, hv.ok.mb, hv.ok.sk⟩, hv.v1, hv.v2, hv.s1, hv.l1, .inl rfl⟩ ?_ fun t' e => Int.le_trans (h.ldT t' _ e).2 (voter_term _ _).1
  show Safe _ (fun i => if i = n.toNat then ((q.nd n.toNat).voter 0).term else q.tm i) (fun i => if i = n.toNat then (q.nd n.toNat).log else q.lg i) G
  have e1 : (fun i => if i = n.toNat then (q.nd n.toNat).log else q.lg i) = q.lg := same_lg rfl
  have e2 : (fun i => if i = n.toNat then ((q.nd n.toNat).voter 0).term else q.tm i) = q.tm := same_tm e
  rw [e1, e2]
  exact h.safe
def Gh.addV (G : Gh) (n : Nat) (t : Int) (c : Nat) : Gh := ⟨G.L, G.ld, fun i s d => G.V i s d ∨ (i = n ∧ s = t ∧ d = c), G.C, G.A⟩
theorem Inv.same {q : Qu} {G : Gh} (h : Inv q G) {n : Nat} (hn : n < q.nodes.length) : Inv (q.setN n (q.nd n)) G := by
  refine h.put hn (.refl G n _) (Int.le_refl _) (h.nd n hn) ?_ fun t' e => (h.ldT t' n e).2
  have e1 : (fun i => if i = n then (q.nd n).log else q.lg i) = q.lg := same_lg rfl
  have e2 : (fun i => if i = n then (q.nd n).term else q.tm i) = q.tm := same_tm rfl
  rw [e1, e2]
  exact h.safe
theorem Inv.asked {q : Qu} {G : Gh} (h : Inv q G) {m : Bl} (hm : BlI q.nodes.length q.tm G m) (hk : m.kind = 1) : ∃ G', Inv (q.asked m (q.nd m.to.toNat)) G' ∧ Grow G G' m.to.toNat (q.tm m.to.toNat) := by
  have hto : m.to.toNat < q.nodes.length := by have := hm.ok.t.1; have := hm.ok.t.2; omega
  have hfr : m.frm.toNat < q.nodes.length := by have := hm.ok.f.1; have := hm.ok.f.2; omega
  have hx := h.nd _ hto
  have hre : ∀ (G' : Gh) (tm' : Nat → Int), ((q.nd m.to.toNat).gives m = true → G'.V m.to.toNat (q.nd m.to.toNat).term m.frm.toNat) → BlI q.nodes.length tm' G' { Bl.zero with kind := 2, frm := m.to, to := m.frm, term := (q.nd m.to.toNat).term, ok := (q.nd m.to.toNat).gives m } := fun G' tm' hv =>
    ⟨⟨by show (1 : Int) ≤ 2 ∧ (2 : Int) ≤ 4; decide, hm.ok.t, hm.ok.f, fun e => hm.ok.ne e.symm, hx.ok.t0, hx.ok.t1, Int.le_refl _, by show (0 : Int) + 0 ≤ 256; decide, Nat.zero_le _, (fun c hc => by cases hc), List.Pairwise.nil, Int.le_refl _, fun _ => rfl⟩,
      (fun e => by cases (show (2 : Int) = 1 from e)), fun _ o => hv o, (fun e => by cases (show (2 : Int) = 3 from e)), (fun e => by cases (show (2 : Int) = 4 from e))⟩
  unfold Qu.asked
  by_cases hg : (q.nd m.to.toNat).gives m = true
  · rw [if_pos hg]
    have hg' := hg
    unfold Nd.gives at hg'
    simp only [Bool.and_eq_true, Bool.or_eq_true, decide_eq_true_eq, Bool.not_eq_true', decide_eq_false_iff_not, Nd.behind] at hg'
    obtain ⟨⟨hterm, hvote⟩, hbeh⟩ := hg'
    have hask := hm.ask hk
    have h1 : ∀ c', G.V m.to.toNat (q.tm m.to.toNat) c' → c' = m.frm.toNat := fun c' hv => by
      have h2 : (q.nd m.to.toNat).vote = c' := hx.v1 c' hv
      rcases hvote with e | e <;> omega
    have hgr : Grow G (G.addV m.to.toNat (q.tm m.to.toNat) m.frm.toNat) m.to.toNat (q.tm m.to.toNat) :=
      ⟨fun _ _ _ h => .inl h, fun i t c hi e => e.elim id (fun e => absurd e.1 hi), fun _ _ _ h => h, fun _ _ _ => rfl, fun _ _ h => h, fun _ _ _ h => h, fun _ _ _ => rfl, fun _ _ => rfl, fun _ _ _ _ => rfl⟩
    have hs := h.safe.vote hto hfr (by have h3 := hask.1; have e : q.tm m.to.toNat = m.term := hterm.symm; rw [e]; exact h3) h1 (by
      have e : q.tm m.to.toNat = m.term := hterm.symm
      rw [e, ← hask.2.1]
      have h4 := hask.2.2
      have h5 : q.lg m.to.toNat = (q.nd m.to.toNat).log := rfl
      rw [h5]
      omega)
    refine ⟨G.addV m.to.toNat (q.tm m.to.toNat) m.frm.toNat, ?_, hgr⟩
    have hp : Inv (q.setN m.to.toNat { q.nd m.to.toNat with vote := m.frm }) (G.addV m.to.toNat (q.tm m.to.toNat) m.frm.toNat) := by
      refine h.put hto hgr (Int.le_refl _) ⟨⟨hx.ok.t0, hx.ok.t1, by show -1 ≤ m.frm; have := hm.ok.f.1; omega, hm.ok.f.2, hx.ok.r, hx.ok.ll, hx.ok.lt, hx.ok.lm, hx.ok.c0, hx.ok.c1, hx.ok.vl, hx.ok.nl, hx.ok.ml, hx.ok.vn, hx.ok.vo, hx.ok.nm, hx.ok.nb, hx.ok.mb, hx.ok.sk⟩, fun c hv => ?_, fun c e => ?_, fun e => ?_, fun e => ?_, ?_⟩ ?_ fun t' e => (h.ldT t' _ e).2
      · show m.frm = c
        rcases hv with hv | ⟨_, _, e⟩
        · have h2 : (q.nd m.to.toNat).vote = c := hx.v1 c hv
          rcases hvote with e | e <;> omega
        · have := hm.ok.f.1; omega
      · have e' : m.frm = c := e
        exact .inr ⟨rfl, rfl, by omega⟩
      · obtain ⟨h2, h3, h4, h5⟩ := hx.s1 e
        exact ⟨h2, h3, fun i hi => .inl (h4 i hi), h5⟩
      · exact hx.l1 e
      · exact hx.cm
      · show Safe _ (fun i => if i = m.to.toNat then (q.nd m.to.toNat).term else q.tm i) (fun i => if i = m.to.toNat then (q.nd m.to.toNat).log else q.lg i) _
        have e1 : (fun i => if i = m.to.toNat then (q.nd m.to.toNat).log else q.lg i) = q.lg := same_lg rfl
        have e2 : (fun i => if i = m.to.toNat then (q.nd m.to.toNat).term else q.tm i) = q.tm := same_tm rfl
        rw [e1, e2]
        exact hs
    exact hp.send (by rw [len_setN]; exact hre _ _ fun _ => .inr ⟨rfl, rfl, rfl⟩)
  · rw [if_neg hg]
    exact ⟨G, (h.same hto).send (by rw [len_setN]; exact hre _ _ fun e => absurd e hg), .refl _ _ _⟩
end Go.Wst.Qm
set_option linter.all false
namespace Go.Wst.Qm
open Go Go.Wst
def Gh.addA (G : Gh) (n : Nat) (t : Int) (K : Nat) : Gh := ⟨G.L, G.ld, G.V, G.C, fun i s k => G.A i s k ∨ (i = n ∧ s = t ∧ k ≤ K)⟩
theorem Gh.Sure.le {G : Gh} {cnt : Nat} {t : Int} {l : List Cmd} {c d : Int} (h : G.Sure cnt t l c) (h0 : 0 ≤ d) (hd : d ≤ c) : G.Sure cnt t l d := by
  rcases h with h | ⟨T, k, h1, h2, h3, h4⟩
  · exact .inl (by omega)
  · exact .inr ⟨T, k, h1, h2, by omega, take_le h4 (by omega)⟩
theorem ofT_take {l : List Cmd} {p : Nat} (h0 : 0 < p) (hp : p ≤ l.length) : ofT (l.take p) = (l[p - 1]'(by omega)).term := by
  have hl : (l.take p).length = p := by rw [List.length_take]; omega
  rw [ofT_eq (by omega)]
  simp only [hl, List.getElem_take]
theorem Safe.sure {cnt : Nat} {tm : Nat → Int} {lg : Nat → List Cmd} {G : Gh} (h : Safe cnt tm lg G) {t : Int} {l : List Cmd} {c : Int} (hs : G.Sure cnt t l c) (hld : G.ld t ≠ none) : l.take c.toNat = (G.L t).take c.toNat := by
  rcases hs with e | ⟨T, k, h1, h2, h3, h4⟩
  · rw [e]; rfl
  · rw [h4]
    rcases Int.lt_or_eq_of_le h1 with h5 | h5
    · exact (take_le (h.lc h2 t h5 hld) (by omega)).symm
    · rw [h5]
theorem lay_len {l m : List Cmd} {G : Gh} (hl : PM G.L l) (hm : PM G.L m) {p n N : Nat} (hp : p ≤ l.length) (hpm : p + n ≤ m.length) (he : l.take p = m.take p) (h1 : l.length ≤ N) (h2 : p + n ≤ N) : (lay l p ((m.drop p).take n)).length ≤ N := by
  rcases lay_spec hl hm n p hp hpm he with ⟨h3, _⟩ | ⟨j, _, _, h3, _⟩
  · rw [h3]; exact h1
  · rw [h3, List.length_take]; omega
theorem re_ok {cnt : Nat} {m : Bl} (hm : m.Ok cnt) {t a : Int} {o : Bool} (h0 : 0 ≤ t) (h1 : t ≤ top) : Bl.Ok cnt { Bl.zero with kind := 4, frm := m.to, to := m.frm, term := t, mat := a, ok := o } :=
  ⟨by show (1 : Int) ≤ 4 ∧ (4 : Int) ≤ 4; decide, hm.t, hm.f, fun e => hm.ne e.symm, h0, h1, Int.le_refl _, by show (0 : Int) + 0 ≤ 256; decide, Nat.zero_le _, (fun c hc => by cases hc), List.Pairwise.nil, Int.le_refl _, fun _ => rfl⟩
theorem re_no {cnt : Nat} {tm : Nat → Int} {G : Gh} {m : Bl} (hm : m.Ok cnt) {t a : Int} (h0 : 0 ≤ t) (h1 : t ≤ top) : BlI cnt tm G { Bl.zero with kind := 4, frm := m.to, to := m.frm, term := t, mat := a } :=
  ⟨re_ok hm h0 h1, (fun e => by cases (show (4 : Int) = 1 from e)), (fun e => by cases (show (4 : Int) = 2 from e)), (fun e => by cases (show (4 : Int) = 3 from e)), fun _ o => by cases (show false = true from o)⟩
theorem Inv.more {q : Qu} {G : Gh} (h : Inv q G) {m : Bl} (hm : BlI q.nodes.length q.tm G m) (hk : m.kind = 3) (hle : m.term ≤ (q.nd m.to.toNat).term) : ∃ G', Inv (q.more m (q.nd m.to.toNat)) G' ∧ Grow G G' m.to.toNat (q.tm m.to.toNat) := by
  have hto : m.to.toNat < q.nodes.length := by have := hm.ok.t.1; have := hm.ok.t.2; omega
  have hx := h.nd _ hto
  unfold Qu.more
  simp only
  by_cases h1 : m.term < (q.nd m.to.toNat).term
  · rw [if_pos h1]
    exact ⟨G, h.send (re_no hm.ok hx.ok.t0 hx.ok.t1), .refl _ _ _⟩
  rw [if_neg h1]
  have ht : m.term = (q.nd m.to.toNat).term := by omega
  have hvt : ((q.nd m.to.toNat).voter m.term).term = (q.nd m.to.toNat).term := if_neg (by omega)
  have hvl : ((q.nd m.to.toNat).voter m.term).log = (q.nd m.to.toNat).log := rfl
  by_cases h2 : ((q.nd m.to.toNat).voter m.term).log.length < m.prev ∨ ofT (((q.nd m.to.toNat).voter m.term).log.take m.prev.toNat) ≠ m.prevT
  · rw [if_pos h2]
    exact ⟨G, (h.voter hto hm.ok.t1).send (by rw [len_setN]; exact re_no hm.ok hx.ok.t0 hx.ok.t1), .refl _ _ _⟩
  rw [if_neg h2, hvl]
  rw [hvl] at h2
  have hp0 := hm.ok.p0
  have hprev : m.prev.toNat ≤ (q.nd m.to.toNat).log.length := by
    have : ¬ (((q.nd m.to.toNat).log.length : Int) < m.prev) := fun e => h2 (.inl e)
    omega
  have hpt : ofT ((q.nd m.to.toNat).log.take m.prev.toNat) = m.prevT := Classical.byContradiction fun e => h2 (.inr e)
  obtain ⟨hld, hlen, hcm, hpT, hsm⟩ := hm.mor hk
  have hldn : G.ld m.term ≠ none := by rw [hld]; nofun
  have hPn := h.safe.pn _ hto
  have hPL := h.safe.pL m.term
  have hpre : (q.nd m.to.toNat).log.take m.prev.toNat = (G.L m.term).take m.prev.toNat := by
    rcases Nat.eq_zero_or_pos m.prev.toNat with e | e
    · rw [e]; rfl
    · have h3 : ((q.nd m.to.toNat).log[m.prev.toNat - 1]'(by omega)).term = ((G.L m.term)[m.prev.toNat - 1]'(by omega)).term := by
        rw [← ofT_take e hprev, ← ofT_take e (by omega), hpt, hpT]
      have h4 := PM.agree hPn hPL (i := m.prev.toNat - 1) (show m.prev.toNat - 1 < (q.nd m.to.toNat).log.length by omega) (by omega) h3
      have e2 : m.prev.toNat - 1 + 1 = m.prev.toNat := by omega
      rw [e2] at h4
      exact h4
  have hl : m.cmds.take (256 - m.prev).toNat = m.cmds := List.take_of_length_le (by have := hm.ok.p1; omega)
  rw [hl]
  obtain ⟨hP, hmem, htk, hrl, hkeep⟩ := lay_keeps hPn hPL (n := m.cmds.length) hprev hlen hpre
  have hN := lay_len hPn hPL (n := m.cmds.length) (N := 256) hprev hlen hpre hx.ok.ll (by have := hm.ok.p1; omega)
  have hsafe := h.safe.lay hto (t := m.term) ht hldn (k0 := m.cmds.length) hprev hlen hpre
  rw [← hcm] at hP hmem htk hrl hkeep hN hsafe
  obtain ⟨z, hz⟩ : ∃ z, z = lay (q.nd m.to.toNat).log m.prev.toNat m.cmds := ⟨_, rfl⟩
  have hlgz : lay (q.lg m.to.toNat) m.prev.toNat m.cmds = z := hz.symm
  rw [hlgz] at hP hmem htk hrl hkeep hsafe
  rw [← hz]
  have hN' : z.length ≤ 256 := by rw [hz]; exact hN
  have hv := NdI.voter h hto (t := m.term) hm.ok.t1
  have hc0 := hx.ok.c0
  have hc1 := hx.ok.c1
  have hsure := h.safe.sure hx.cm (by rw [← ht]; exact hldn)
  have hkc : z.take (q.nd m.to.toNat).commit.toNat = (q.nd m.to.toNat).log.take (q.nd m.to.toNat).commit.toNat :=
    hkeep _ (show _ ≤ (q.nd m.to.toNat).log.length by omega) (by rw [ht]; exact hsure)
  have hcz : (q.nd m.to.toNat).commit.toNat ≤ z.length := take_len hkc (by omega)
  have hmc0 := hm.ok.c0
  have hgr : Grow G (G.addA m.to.toNat m.term (m.prev.toNat + m.cmds.length)) m.to.toNat (q.tm m.to.toNat) :=
    ⟨fun _ _ _ h => h, fun _ _ _ _ h => h, fun _ _ _ h => .inl h, fun _ _ _ => rfl, fun _ _ h => h, fun _ _ _ h => h, fun _ _ _ => rfl, fun _ _ => rfl, fun _ _ _ _ => rfl⟩
  refine ⟨G.addA m.to.toNat m.term (m.prev.toNat + m.cmds.length), ?_, hgr⟩
  have hI : Inv (q.setN m.to.toNat { (q.nd m.to.toNat).voter m.term with log := z, commit := max ((q.nd m.to.toNat).voter m.term).commit (min m.commit (m.prev + m.cmds.length)) }) (G.addA m.to.toNat m.term (m.prev.toNat + m.cmds.length)) := by
    refine h.put hto hgr (by show (q.nd m.to.toNat).term ≤ ((q.nd m.to.toNat).voter m.term).term; omega) ⟨⟨hv.ok.t0, hv.ok.t1, hv.ok.v0, hv.ok.v1, hv.ok.r, hN', fun c hc => ⟨pos_of h.safe hP c hc, ?_⟩, mono_of h.safe hP, ?_, ?_, hv.ok.vl, hv.ok.nl, hv.ok.ml, hv.ok.vn, hv.ok.vo, hv.ok.nm, zeros_ok (x := ⟨0, 0, z, 0, 0, [], [], []⟩), zeros_ok (x := ⟨0, 0, z, 0, 0, [], [], []⟩), fun e => by cases (show (1 : Int) = 2 from e)⟩, hv.v1, hv.v2, (fun e => by cases (show (1 : Int) = 2 from e)), (fun e => by cases (show (1 : Int) = 3 from e)), ?_⟩ ?_ fun t' e => by
      have h5 := (h.ldT t' _ e).2
      show t' ≤ ((q.nd m.to.toNat).voter m.term).term
      rw [hvt]; exact h5
    · show c.term ≤ ((q.nd m.to.toNat).voter m.term).term
      rw [hvt]
      rcases hmem c hc with h5 | h5
      · exact (hx.ok.lt c h5).2
      · have := h.safe.tL m.term c h5; omega
    · show 0 ≤ max (q.nd m.to.toNat).commit (min m.commit (m.prev + m.cmds.length))
      omega
    · show max (q.nd m.to.toNat).commit (min m.commit (m.prev + m.cmds.length)) ≤ (z.length : Int)
      omega
    · show Gh.Sure _ _ ((q.nd m.to.toNat).voter m.term).term z (max (q.nd m.to.toNat).commit (min m.commit (m.prev + m.cmds.length)))
      rw [hvt]
      rcases Int.le_total (q.nd m.to.toNat).commit (min m.commit (m.prev + m.cmds.length)) with h5 | h5
      · rw [Int.max_eq_right h5]
        have h6 := hsm.le (d := min m.commit (m.prev + m.cmds.length)) (by omega) (by omega)
        exact h6.mono (by omega) (take_le htk (by omega)) hgr.a hgr.l
      · rw [Int.max_eq_left h5]
        exact hx.cm.mono (Int.le_refl _) hkc hgr.a hgr.l
    · show Safe _ (fun i => if i = m.to.toNat then ((q.nd m.to.toNat).voter m.term).term else q.tm i) (fun i => if i = m.to.toNat then z else q.lg i) _
      have e2 : (fun i => if i = m.to.toNat then ((q.nd m.to.toNat).voter m.term).term else q.tm i) = q.tm := same_tm hvt
      rw [e2]
      exact hsafe
  refine hI.send ?_
  rw [len_setN]
  refine ⟨re_ok hm.ok hx.ok.t0 hx.ok.t1, (fun e => by cases (show (4 : Int) = 1 from e)), (fun e => by cases (show (4 : Int) = 2 from e)), (fun e => by cases (show (4 : Int) = 3 from e)), fun _ _ => ⟨?_, ?_, ?_⟩⟩
  · show G.ld (q.nd m.to.toNat).term = some m.frm.toNat
    rw [← ht]; exact hld
  · show 0 ≤ m.prev + (m.cmds.length : Int)
    omega
  · intro k _ hk2
    have hk3 : (k : Int) ≤ m.prev + (m.cmds.length : Int) := hk2
    exact .inr ⟨rfl, ht.symm, by omega⟩
theorem getI_mem {l : List Int} {i : Int} (h : i.toNat < l.length) : getI l i ∈ l := by
  unfold getI
  rw [List.getD_eq_getElem?_getD, List.getElem?_eq_getElem h]
  exact List.getElem_mem h
theorem Inv.give {q : Qu} {G : Gh} (h : Inv q G) {p : Pk} (hn : q.has p.a) : Inv (q.give p).1 G := by
  have hn' : p.a.toNat < q.nodes.length := by have := hn.1; have := hn.2; omega
  have hx := h.nd _ hn'
  have e0 : q.node p.a = q.nd p.a.toNat := rfl
  unfold Qu.give
  simp only
  rw [e0]
  by_cases h0 : ¬ q.has p.b ∨ p.b = p.a
  · rw [if_pos h0]; exact h
  rw [if_neg h0]
  by_cases h1 : (q.nd p.a.toNat).role ≠ 3
  · rw [if_pos h1]; exact h
  rw [if_neg h1]
  have hb : q.has p.b := Classical.byContradiction fun e => h0 (.inl e)
  have hr : (q.nd p.a.toNat).role = 3 := Classical.byContradiction h1
  obtain ⟨hld, hlog, _⟩ := hx.l1 hr
  have hf := hx.ok.nb _ (getI_mem (l := (q.nd p.a.toNat).next) (i := p.b) (by have := hb.1; have := hb.2; have := h.odd.2; rw [hx.ok.nl]; omega))
  obtain ⟨f, hfe⟩ : ∃ f, f = getI (q.nd p.a.toNat).next p.b := ⟨_, rfl⟩
  rw [← hfe] at hf ⊢
  have hll := hx.ok.ll
  have hcl : (((q.nd p.a.toNat).log.drop f.toNat).take 4).length = min 4 ((q.nd p.a.toNat).log.length - f.toNat) := by rw [List.length_take, List.length_drop]
  have hmo := hx.ok.lm
  refine h.send ⟨⟨by show (1 : Int) ≤ 3 ∧ (3 : Int) ≤ 4; decide, hn, hb, fun e => h0 (.inr e.symm), hx.ok.t0, hx.ok.t1, hf.1, ?_, ?_, fun c hc => ⟨?_, ?_⟩, ?_, hx.ok.c0, fun e => ?_⟩, (fun e => by cases (show (3 : Int) = 1 from e)), (fun e => by cases (show (3 : Int) = 2 from e)), fun _ => ⟨hld, ?_, ?_, ?_, ?_⟩, (fun e => by cases (show (3 : Int) = 4 from e))⟩
  · show f + ((((q.nd p.a.toNat).log.drop f.toNat).take 4).length : Int) ≤ 256
    rw [hcl]; omega
  · show (((q.nd p.a.toNat).log.drop f.toNat).take 4).length ≤ 4
    rw [hcl]; omega
  · show ofT ((q.nd p.a.toNat).log.take f.toNat) ≤ c.term
    have hc' : c ∈ (q.nd p.a.toNat).log.drop f.toNat := List.mem_of_mem_take hc
    rcases Nat.eq_zero_or_pos f.toNat with e | e
    · rw [e]
      have h2 := (hx.ok.lt c (List.mem_of_mem_drop hc')).1
      have h3 : ofT ((q.nd p.a.toNat).log.take 0) = 0 := rfl
      omega
    · rw [ofT_take e (by omega)]
      obtain ⟨i, hi, rfl⟩ := List.getElem_of_mem hc'
      rw [List.length_drop] at hi
      rw [List.getElem_drop]
      exact List.pairwise_iff_getElem.1 hmo _ _ (by omega) (by omega) (by omega)
  · exact hx.ok.lt c (List.mem_of_mem_drop (List.mem_of_mem_take hc))
  · exact hmo.sublist ((List.take_sublist _ _).trans (List.drop_sublist _ _))
  · have e' : f = 0 := e
    show ofT ((q.nd p.a.toNat).log.take f.toNat) = 0
    rw [e']; rfl
  · show f.toNat + (((q.nd p.a.toNat).log.drop f.toNat).take 4).length ≤ (G.L (q.nd p.a.toNat).term).length
    rw [hcl, ← hlog]; omega
  · show ((q.nd p.a.toNat).log.drop f.toNat).take 4 = ((G.L (q.nd p.a.toNat).term).drop f.toNat).take (((q.nd p.a.toNat).log.drop f.toNat).take 4).length
    rw [← hlog, List.length_take, ← List.take_take, List.take_length]
  · show ofT ((q.nd p.a.toNat).log.take f.toNat) = ofT ((G.L (q.nd p.a.toNat).term).take f.toNat)
    rw [← hlog]
  · show G.Sure _ _ (G.L (q.nd p.a.toNat).term) (q.nd p.a.toNat).commit
    rw [← hlog]; exact hx.cm
theorem setN_setN (q : Qu) (n : Nat) (x y : Nd) : (q.setN n x).setN n y = q.setN n y := by
  unfold Qu.setN
  simp only [List.set_set]
theorem take_range {l : List Int} {cnt : Nat} (h : cnt ≤ l.length) : l.take cnt = (List.range cnt).map (fun i => l.getD i 0) := by
  refine List.ext_getElem (by simp; omega) fun i h1 h2 => ?_
  rw [List.length_take] at h1
  rw [List.getElem_take, List.getElem_map, List.getElem_range, List.getD_eq_getElem?_getD, List.getElem?_eq_getElem (by omega)]
  rfl
theorem Inv.commits {q : Qu} {G : Gh} (h : Inv q G) {n : Nat} (hn : n < q.nodes.length) (hr : (q.nd n).role = 3) : Inv (q.setN n ((q.nd n).commits q.nodes.length)) G := by
  have hx := h.nd n hn
  obtain ⟨hld, hlog, hA⟩ := hx.l1 hr
  unfold Nd.commits
  simp only
  split
  · next hc =>
    obtain ⟨K, hK⟩ : ∃ K, K = majority ((q.nd n).mat.take q.nodes.length) := ⟨_, rfl⟩
    rw [← hK] at hc ⊢
    have hc0 := hx.ok.c0
    have hm5 := hx.ok.ml
    have hM : ((q.nd n).mat.take q.nodes.length).length = q.nodes.length := by rw [List.length_take]; have := h.odd.2; omega
    have hodd : ((q.nd n).mat.take q.nodes.length).length % 2 = 1 := by rw [hM]; exact h.odd.1
    have hbig := (majority_iff hodd K).2 (by rw [hK]; exact Int.le_refl _)
    rw [hM] at hbig
    have hKm := hx.ok.mb _ (List.mem_of_mem_take (majority_mem hodd))
    rw [← hK] at hKm
    have hch : G.Chosen q.nodes.length (q.nd n).term K.toNat := by
      refine ⟨⟨by omega, ?_⟩, (List.range q.nodes.length).filter (fun i => decide (K ≤ (q.nd n).mat.getD i 0)), ⟨List.nodup_range.filter _, fun i hi => by simpa using (List.mem_filter.1 hi).1, ?_⟩, fun i hi => ?_⟩
      · have e : (K - 1).toNat = K.toNat - 1 := by omega
        have h2 := hc.2
        rw [e, hlog, List.getElem?_map] at h2
        exact h2
      · rw [take_range (by have := h.odd.2; omega)] at hbig
        unfold many at hbig
        rw [List.filter_map, List.length_map] at hbig
        exact hbig
      · obtain ⟨h3, h4⟩ := List.mem_filter.1 hi
        simp only [decide_eq_true_eq] at h4
        exact hA i (by simpa using h3) K.toNat (by omega) (by omega)
    have hsure : G.Sure q.nodes.length (q.nd n).term (q.nd n).log K := .inr ⟨_, K.toNat, Int.le_refl _, hch, by omega, by rw [hlog]⟩
    refine h.put hn (.refl G n _) (Int.le_refl _) ⟨⟨hx.ok.t0, hx.ok.t1, hx.ok.v0, hx.ok.v1, hx.ok.r, hx.ok.ll, hx.ok.lt, hx.ok.lm, by show 0 ≤ K; omega, hKm.2, hx.ok.vl, hx.ok.nl, hx.ok.ml, hx.ok.vn, hx.ok.vo, hx.ok.nm, hx.ok.nb, hx.ok.mb, hx.ok.sk⟩, hx.v1, hx.v2, hx.s1, hx.l1, hsure⟩ ?_ fun t' e => (h.ldT t' n e).2
    show Safe _ (fun i => if i = n then (q.nd n).term else q.tm i) (fun i => if i = n then (q.nd n).log else q.lg i) G
    have e1 : (fun i => if i = n then (q.nd n).log else q.lg i) = q.lg := same_lg rfl
    have e2 : (fun i => if i = n then (q.nd n).term else q.tm i) = q.tm := same_tm rfl
    rw [e1, e2]
    exact h.safe
  · exact h.same hn
theorem getD_setI {l : List Int} {f x : Int} (i : Nat) (hf : f.toNat < l.length) : (setI l f x).getD i 0 = if i = f.toNat then x else l.getD i 0 := by
  unfold setI
  rw [List.getD_eq_getElem?_getD, List.getD_eq_getElem?_getD, List.getElem?_set]
  by_cases e : f.toNat = i
  · subst e; simp [hf]
  · rw [if_neg e, if_neg (fun e2 => e e2.symm)]
theorem mem_setI {l : List Int} {f x a : Int} (h : a ∈ setI l f x) : a ∈ l ∨ a = x := List.mem_or_eq_of_mem_set h
theorem Inv.matched {q : Qu} {G : Gh} (h : Inv q G) {m : Bl} (hm : BlI q.nodes.length q.tm G m) (hk : m.kind = 4) : Inv (q.matched m (q.nd m.to.toNat)) G := by
  have hto : m.to.toNat < q.nodes.length := by have := hm.ok.t.1; have := hm.ok.t.2; omega
  have hfr : m.frm.toNat < q.nodes.length := by have := hm.ok.f.1; have := hm.ok.f.2; omega
  have hx := h.nd _ hto
  have h5 := h.odd.2
  unfold Qu.matched
  by_cases h1 : (q.nd m.to.toNat).role ≠ 3 ∨ m.term ≠ (q.nd m.to.toNat).term
  · rw [if_pos h1]; exact h
  rw [if_neg h1]
  have hr : (q.nd m.to.toNat).role = 3 := Classical.byContradiction fun e => h1 (.inl e)
  have ht : m.term = (q.nd m.to.toNat).term := Classical.byContradiction fun e => h1 (.inr e)
  obtain ⟨hld, hlog, hA⟩ := hx.l1 hr
  have hml : m.frm.toNat < (q.nd m.to.toNat).mat.length := by rw [hx.ok.ml]; omega
  have hnl : m.frm.toNat < (q.nd m.to.toNat).next.length := by rw [hx.ok.nl]; omega
  have hmm := hx.ok.mb _ (getI_mem hml)
  have hnn := hx.ok.nb _ (getI_mem hnl)
  have hmat : m.ok = true → 0 ≤ m.mat ∧ m.mat ≤ (q.nd m.to.toNat).log.length := fun ho => by
    obtain ⟨_, h2, h3⟩ := hm.mat hk ho
    refine ⟨h2, ?_⟩
    rcases Nat.eq_zero_or_pos m.mat.toNat with h6 | h6
    · omega
    · have h4 := (h.safe.aT _ _ _ (h3 m.mat.toNat h6 (by omega))).2.2
      rw [hlog, ← ht]; omega
  have hy : Inv (q.setN m.to.toNat ((q.nd m.to.toNat).matched m)) G ∧ ((q.nd m.to.toNat).matched m).role = 3 := by
    unfold Nd.matched
    by_cases ho : m.ok = true
    · rw [if_pos ho]
      have h7 := hmat ho
      refine ⟨h.put hto (.refl G _ _) (Int.le_refl _) ⟨⟨hx.ok.t0, hx.ok.t1, hx.ok.v0, hx.ok.v1, hx.ok.r, hx.ok.ll, hx.ok.lt, hx.ok.lm, hx.ok.c0, hx.ok.c1, hx.ok.vl, (by simp [setI, hx.ok.nl]), (by simp [setI, hx.ok.ml]), hx.ok.vn, hx.ok.vo, (fun e => absurd hr e), fun a ha => ?_, fun a ha => ?_, hx.ok.sk⟩, hx.v1, hx.v2, hx.s1, fun _ => ⟨hld, hlog, fun i hi k hk1 hk2 => ?_⟩, hx.cm⟩ ?_ fun t' e => (h.ldT t' _ e).2, hr⟩
      · rcases mem_setI ha with e | e
        · exact hx.ok.nb a e
        · show 0 ≤ a ∧ a ≤ ((q.nd m.to.toNat).log.length : Int)
          omega
      · rcases mem_setI ha with e | e
        · exact hx.ok.mb a e
        · show 0 ≤ a ∧ a ≤ ((q.nd m.to.toNat).log.length : Int)
          omega
      · have hk3 : (k : Int) ≤ (setI (q.nd m.to.toNat).mat m.frm (max (getI (q.nd m.to.toNat).mat m.frm) m.mat)).getD i 0 := hk2
        rw [getD_setI i hml] at hk3
        by_cases e : i = m.frm.toNat
        · rw [if_pos e] at hk3
          rcases Int.le_total (getI (q.nd m.to.toNat).mat m.frm) m.mat with h8 | h8
          · rw [Int.max_eq_right h8] at hk3
            have h9 := (hm.mat hk ho).2.2 k hk1 hk3
            rw [e, ← ht]; exact h9
          · rw [Int.max_eq_left h8] at hk3
            subst e
            exact hA _ hi k hk1 hk3
        · rw [if_neg e] at hk3
          exact hA i hi k hk1 hk3
      · show Safe _ (fun i => if i = m.to.toNat then (q.nd m.to.toNat).term else q.tm i) (fun i => if i = m.to.toNat then (q.nd m.to.toNat).log else q.lg i) G
        have e1 : (fun i => if i = m.to.toNat then (q.nd m.to.toNat).log else q.lg i) = q.lg := same_lg rfl
        have e2 : (fun i => if i = m.to.toNat then (q.nd m.to.toNat).term else q.tm i) = q.tm := same_tm rfl
        rw [e1, e2]; exact h.safe
    · rw [if_neg ho]
      refine ⟨h.put hto (.refl G _ _) (Int.le_refl _) ⟨⟨hx.ok.t0, hx.ok.t1, hx.ok.v0, hx.ok.v1, hx.ok.r, hx.ok.ll, hx.ok.lt, hx.ok.lm, hx.ok.c0, hx.ok.c1, hx.ok.vl, (by simp [setI, hx.ok.nl]), hx.ok.ml, hx.ok.vn, hx.ok.vo, (fun e => absurd hr e), fun a ha => ?_, hx.ok.mb, hx.ok.sk⟩, hx.v1, hx.v2, hx.s1, hx.l1, hx.cm⟩ ?_ fun t' e => (h.ldT t' _ e).2, hr⟩
      · rcases mem_setI ha with e | e
        · exact hx.ok.nb a e
        · show 0 ≤ a ∧ a ≤ ((q.nd m.to.toNat).log.length : Int)
          omega
      · show Safe _ (fun i => if i = m.to.toNat then (q.nd m.to.toNat).term else q.tm i) (fun i => if i = m.to.toNat then (q.nd m.to.toNat).log else q.lg i) G
        have e1 : (fun i => if i = m.to.toNat then (q.nd m.to.toNat).log else q.lg i) = q.lg := same_lg rfl
        have e2 : (fun i => if i = m.to.toNat then (q.nd m.to.toNat).term else q.tm i) = q.tm := same_tm rfl
        rw [e1, e2]; exact h.safe
  have hl := len_setN q m.to.toNat ((q.nd m.to.toNat).matched m)
  have hnd : (q.setN m.to.toNat ((q.nd m.to.toNat).matched m)).nd m.to.toNat = (q.nd m.to.toNat).matched m := by rw [nd_setN q hto, if_pos rfl]
  have h9 := hy.1.commits (n := m.to.toNat) (by rw [hl]; exact hto) (by rw [hnd]; exact hy.2)
  rw [hnd, setN_setN, hl] at h9
  exact h9
def Gh.addL (G : Gh) (n : Nat) (t : Int) (c : Cmd) : Gh := ⟨fun s => if s = t then G.L t ++ [c] else G.L s, G.ld, G.V, G.C, fun i s k => G.A i s k ∨ (i = n ∧ s = t ∧ k ≤ (G.L t).length + 1)⟩
theorem Inv.take {q : Qu} {G : Gh} (h : Inv q G) {p : Pk} (hn : q.has p.a) : ∃ G', Inv (q.take p).1 G' ∧ Grow G G' p.a.toNat (q.tm p.a.toNat) := by
  have hn' : p.a.toNat < q.nodes.length := by have := hn.1; have := hn.2; omega
  have hx := h.nd _ hn'
  have h5 := h.odd.2
  have e0 : q.node p.a = q.nd p.a.toNat := rfl
  unfold Qu.take
  simp only
  rw [e0]
  by_cases h0 : ¬ in32 p.b
  · rw [if_pos h0]; exact ⟨G, h, .refl _ _ _⟩
  rw [if_neg h0]
  by_cases h1 : (q.nd p.a.toNat).role ≠ 3
  · rw [if_pos h1]; exact ⟨G, h, .refl _ _ _⟩
  rw [if_neg h1]
  by_cases h2 : 256 ≤ (q.nd p.a.toNat).log.length
  · rw [if_pos h2]; exact ⟨G, h, .refl _ _ _⟩
  rw [if_neg h2]
  have hr : (q.nd p.a.toNat).role = 3 := Classical.byContradiction h1
  obtain ⟨hld, hlog, hA⟩ := hx.l1 hr
  have ht1 := h.ld1 _ _ hld
  have hs := h.safe.append (c := ⟨(q.nd p.a.toNat).term, p.b⟩) hn' rfl hld hlog rfl ht1
  have hml : p.a.toNat < (q.nd p.a.toNat).mat.length := by rw [hx.ok.ml]; omega
  have hgr : Grow G (G.addL p.a.toNat (q.nd p.a.toNat).term ⟨(q.nd p.a.toNat).term, p.b⟩) p.a.toNat (q.tm p.a.toNat) :=
    ⟨fun _ _ _ h => h, fun _ _ _ _ h => h, fun _ _ _ h => .inl h, fun T k hk => by
      show (if T = (q.nd p.a.toNat).term then _ else G.L T).take k = (G.L T).take k
      by_cases e : T = (q.nd p.a.toNat).term
      · rw [if_pos e, e]; rw [e] at hk; exact take_snoc_le hk
      · rw [if_neg e], fun _ _ h => h, fun _ _ _ h => h, fun _ _ _ => rfl, fun _ _ => rfl, fun t i e hi => by
      show (if t = (q.nd p.a.toNat).term then _ else G.L t) = G.L t
      have hne : t ≠ (q.nd p.a.toNat).term := fun e2 => by rw [e2, hld] at e; cases e; exact hi rfl
      rw [if_neg hne]⟩
  obtain ⟨y, hy⟩ : ∃ y : Nd, y = ⟨(q.nd p.a.toNat).term, (q.nd p.a.toNat).vote, (q.nd p.a.toNat).log ++ [⟨(q.nd p.a.toNat).term, p.b⟩], (q.nd p.a.toNat).role, (q.nd p.a.toNat).commit, (q.nd p.a.toNat).votes, (q.nd p.a.toNat).next, setI (q.nd p.a.toNat).mat p.a ((q.nd p.a.toNat).log.length + 1)⟩ := ⟨_, rfl⟩
  have hyr : y.role = 3 := by rw [hy]; exact hr
  have hI : Inv (q.setN p.a.toNat y) (G.addL p.a.toNat (q.nd p.a.toNat).term ⟨(q.nd p.a.toNat).term, p.b⟩) := by
    have hll : ((q.nd p.a.toNat).log ++ [(⟨(q.nd p.a.toNat).term, p.b⟩ : Cmd)]).length = (q.nd p.a.toNat).log.length + 1 := by simp
    have hc1 := hx.ok.c1
    rw [hy]
    refine h.put hn' hgr (Int.le_refl _) ⟨⟨hx.ok.t0, hx.ok.t1, hx.ok.v0, hx.ok.v1, hx.ok.r, ?_, fun c hc => ?_, ?_, hx.ok.c0, ?_, hx.ok.vl, hx.ok.nl, (by simp [setI, hx.ok.ml]), hx.ok.vn, hx.ok.vo, (fun e => absurd hr e), fun a ha => ?_, fun a ha => ?_, fun e => ?_⟩, hx.v1, hx.v2, fun e => ?_, fun _ => ⟨hld, ?_, fun i hi k hk1 hk2 => ?_⟩, ?_⟩ ?_ fun t' e => (h.ldT t' _ e).2
    · show ((q.nd p.a.toNat).log ++ [(⟨(q.nd p.a.toNat).term, p.b⟩ : Cmd)]).length ≤ 256
      rw [hll]; omega
    · rcases List.mem_append.1 hc with e | e
      · exact hx.ok.lt c e
      · rw [List.mem_singleton.1 e]; exact ⟨ht1, Int.le_refl _⟩
    · refine List.pairwise_append.2 ⟨hx.ok.lm, List.pairwise_singleton _ _, fun a ha b hb => ?_⟩
      rw [List.mem_singleton.1 hb]
      exact (hx.ok.lt a ha).2
    · show (q.nd p.a.toNat).commit ≤ (((q.nd p.a.toNat).log ++ [(⟨(q.nd p.a.toNat).term, p.b⟩ : Cmd)]).length : Int)
      rw [hll]; omega
    · show 0 ≤ a ∧ a ≤ (((q.nd p.a.toNat).log ++ [(⟨(q.nd p.a.toNat).term, p.b⟩ : Cmd)]).length : Int)
      rw [hll]
      have := hx.ok.nb a ha
      omega
    · show 0 ≤ a ∧ a ≤ (((q.nd p.a.toNat).log ++ [(⟨(q.nd p.a.toNat).term, p.b⟩ : Cmd)]).length : Int)
      rw [hll]
      rcases mem_setI ha with e | e
      · have := hx.ok.mb a e; omega
      · omega
    · have e' : (q.nd p.a.toNat).role = 2 := e
      omega
    · have e' : (q.nd p.a.toNat).role = 2 := e
      omega
    · show (q.nd p.a.toNat).log ++ [(⟨(q.nd p.a.toNat).term, p.b⟩ : Cmd)] = (if (q.nd p.a.toNat).term = (q.nd p.a.toNat).term then G.L (q.nd p.a.toNat).term ++ [(⟨(q.nd p.a.toNat).term, p.b⟩ : Cmd)] else _)
      rw [if_pos rfl, ← hlog]
    · have hk3 : (k : Int) ≤ (setI (q.nd p.a.toNat).mat p.a ((q.nd p.a.toNat).log.length + 1)).getD i 0 := hk2
      rw [getD_setI i hml] at hk3
      by_cases e : i = p.a.toNat
      · rw [if_pos e] at hk3
        exact .inr ⟨e, rfl, by rw [← hlog]; omega⟩
      · rw [if_neg e] at hk3
        exact .inl (hA i hi k hk1 hk3)
    · show Gh.Sure _ _ _ _ (q.nd p.a.toNat).commit
      have hc0 := hx.ok.c0
      exact hx.cm.mono (Int.le_refl _) (take_snoc_le (by omega)) hgr.a hgr.l
    · show Safe _ (fun i => if i = p.a.toNat then (q.nd p.a.toNat).term else q.tm i) (fun i => if i = p.a.toNat then (q.nd p.a.toNat).log ++ [(⟨(q.nd p.a.toNat).term, p.b⟩ : Cmd)] else q.lg i) _
      have e2 : (fun i => if i = p.a.toNat then (q.nd p.a.toNat).term else q.tm i) = q.tm := same_tm rfl
      rw [e2, hlog]
      exact hs
  have hl := len_setN q p.a.toNat y
  have hnd : (q.setN p.a.toNat y).nd p.a.toNat = y := by rw [nd_setN q hn', if_pos rfl]
  have h9 := hI.commits (n := p.a.toNat) (by rw [hl]; exact hn') (by rw [hnd]; exact hyr)
  rw [hnd, setN_setN, hl, hy] at h9
  exact ⟨_, h9, hgr⟩
end Go.Wst.Qm
set_option linter.all false
namespace Go.Wst.Qm
open Go Go.Wst
def Gh.addE (G : Gh) (n : Nat) (t : Int) (l : List Cmd) : Gh := ⟨fun s => if s = t then l else G.L s, fun s => if s = t then some n else G.ld s, G.V, G.C, fun i s k => G.A i s k ∨ (i = n ∧ s = t ∧ k ≤ l.length)⟩
theorem Inv.leads {q : Qu} {G : Gh} (h : Inv q G) {n : Nat} (hn : n < q.nodes.length) : ∃ G', Inv (q.setN n ((q.nd n).leads q.nodes.length n)) G' ∧ Grow G G' n (q.tm n) := by
  have hx := h.nd n hn
  have h5 := h.odd.2
  unfold Nd.leads
  by_cases h0 : (q.nd n).role ≠ 2 ∨ (q.nd n).votes.count true ≤ q.nodes.length / 2
  · rw [if_pos h0]; exact ⟨G, h.same hn, .refl _ _ _⟩
  rw [if_neg h0]
  have hr : (q.nd n).role = 2 := Classical.byContradiction fun e => h0 (.inl e)
  have hcount : q.nodes.length / 2 + 1 ≤ (q.nd n).votes.count true := by
    have : ¬ (q.nd n).votes.count true ≤ q.nodes.length / 2 := fun e => h0 (.inr e)
    omega
  obtain ⟨hld, hC, hV, ht1⟩ := hx.s1 hr
  have hS : Mj q.nodes.length ((List.range (q.nd n).votes.length).filter (fun k => (q.nd n).votes.getD k false)) := by
    refine ⟨List.nodup_range.filter _, fun i hi => ?_, ?_⟩
    · have h1 := (List.mem_filter.1 hi).2
      refine Classical.byContradiction fun e => ?_
      have h2 := hx.ok.vo i (by omega)
      rw [h2] at h1
      cases h1
    · have h1 := idxs_len hx.ok.vl
      unfold idxs at h1
      rw [List.length_map] at h1
      rw [h1]; exact hcount
  have hVS : ∀ i ∈ (List.range (q.nd n).votes.length).filter (fun k => (q.nd n).votes.getD k false), G.V i (q.nd n).term n := fun i hi => hV i (List.mem_filter.1 hi).2
  have hnone : G.ld (q.nd n).term = none := by
    cases e : G.ld (q.nd n).term with
    | none => rfl
    | some c =>
      have h1 := h.safe.one e hS hVS
      rw [← h1] at e
      exact absurd e hld
  have hs := h.safe.elect (n := n) (t := (q.nd n).term) hn rfl hnone hC.symm hS hVS
  have hgr : Grow G (G.addE n (q.nd n).term (q.nd n).log) n (q.tm n) := by
    refine ⟨fun _ _ _ h => h, fun _ _ _ _ h => h, fun _ _ _ h => .inl h, fun T k hk => ?_, fun t c e => ?_, fun t i hi e => ?_, fun _ _ _ => rfl, fun _ _ => rfl, fun t i e hi => ?_⟩
    · show (if T = (q.nd n).term then (q.nd n).log else G.L T).take k = (G.L T).take k
      by_cases e : T = (q.nd n).term
      · rw [e, h.safe.l0 _ hnone] at hk
        have : k = 0 := by simpa using hk
        subst this; rfl
      · rw [if_neg e]
    · show (if t = (q.nd n).term then some n else G.ld t) = some c
      rw [if_neg (fun e2 => by rw [e2, hnone] at e; cases e)]; exact e
    · have e' : (if t = (q.nd n).term then some n else G.ld t) = some i := e
      by_cases e2 : t = (q.nd n).term
      · rw [if_pos e2] at e'; cases e'; exact absurd rfl hi
      · rw [if_neg e2] at e'; exact e'
    · show (if t = (q.nd n).term then (q.nd n).log else G.L t) = G.L t
      rw [if_neg (fun e2 => by rw [e2, hnone] at e; cases e)]
  refine ⟨G.addE n (q.nd n).term (q.nd n).log, ?_, hgr⟩
  have hzm := (hx.ok.nm (by omega)).2
  refine h.put hn hgr (Int.le_refl _) ⟨⟨hx.ok.t0, hx.ok.t1, hx.ok.v0, hx.ok.v1, (by show (1 : Int) ≤ 3 ∧ (3 : Int) ≤ 3; decide), hx.ok.ll, hx.ok.lt, hx.ok.lm, hx.ok.c0, hx.ok.c1, rfl, ?_, (by simp [hx.ok.ml]), fun _ => rfl, fun k _ => falses_get k, (fun e => absurd rfl e), fun a ha => ?_, fun a ha => ?_, (fun e => by cases (show (3 : Int) = 2 from e))⟩, hx.v1, hx.v2, (fun e => by cases (show (3 : Int) = 2 from e)), fun _ => ⟨?_, ?_, fun i hi k hk1 hk2 => ?_⟩, ?_⟩ ?_ (fun t' e => ?_) (fun t' e => ?_)
  · show (List.replicate q.nodes.length ((q.nd n).log.length : Int) ++ (q.nd n).next.drop q.nodes.length).length = 5
    rw [List.length_append, List.length_replicate, List.length_drop, hx.ok.nl]; omega
  · show 0 ≤ a ∧ a ≤ ((q.nd n).log.length : Int)
    rcases List.mem_append.1 ha with e | e
    · have := List.eq_of_mem_replicate e; omega
    · exact hx.ok.nb a (List.mem_of_mem_drop e)
  · show 0 ≤ a ∧ a ≤ ((q.nd n).log.length : Int)
    rcases List.mem_or_eq_of_mem_set ha with e | e
    · exact hx.ok.mb a e
    · omega
  · show (if (q.nd n).term = (q.nd n).term then some n else _) = some n
    rw [if_pos rfl]
  · show (q.nd n).log = (if (q.nd n).term = (q.nd n).term then (q.nd n).log else _)
    rw [if_pos rfl]
  · have hk3 : (k : Int) ≤ ((q.nd n).mat.set n ((q.nd n).log.length : Int)).getD i 0 := hk2
    rw [List.getD_eq_getElem?_getD, List.getElem?_set, hzm] at hk3
    by_cases e : n = i
    · subst e
      have h6 : n < zeros.length := by show n < 5; omega
      simp only [h6, if_true] at hk3
      exact .inr ⟨rfl, rfl, by simpa using hk3⟩
    · rw [if_neg e] at hk3
      exfalso
      unfold zeros at hk3
      rw [List.getElem?_replicate] at hk3
      split at hk3 <;> simp at hk3 <;> omega
  · exact hx.cm.mono (Int.le_refl _) rfl hgr.a hgr.l
  · show Safe _ (fun i => if i = n then (q.nd n).term else q.tm i) (fun i => if i = n then (q.nd n).log else q.lg i) _
    have e1 : (fun i => if i = n then (q.nd n).log else q.lg i) = q.lg := same_lg rfl
    have e2 : (fun i => if i = n then (q.nd n).term else q.tm i) = q.tm := same_tm rfl
    rw [e1, e2]
    exact hs
  · have e' : (if t' = (q.nd n).term then some n else G.ld t') = some n := e
    show t' ≤ (q.nd n).term
    by_cases e2 : t' = (q.nd n).term
    · omega
    · rw [if_neg e2] at e'; exact (h.ldT t' n e').2
  · have e' : (if t' = (q.nd n).term then some n else G.ld t') = some n := e
    by_cases e2 : t' = (q.nd n).term
    · exact .inr (by omega)
    · rw [if_neg e2] at e'; exact .inl e'
theorem Inv.voted {q : Qu} {G : Gh} (h : Inv q G) {m : Bl} (hm : BlI q.nodes.length q.tm G m) (hk : m.kind = 2) : ∃ G', Inv (q.voted m (q.nd m.to.toNat)) G' ∧ Grow G G' m.to.toNat (q.tm m.to.toNat) := by
  have hto : m.to.toNat < q.nodes.length := by have := hm.ok.t.1; have := hm.ok.t.2; omega
  have hfr : m.frm.toNat < q.nodes.length := by have := hm.ok.f.1; have := hm.ok.f.2; omega
  have hx := h.nd _ hto
  have h5 := h.odd.2
  unfold Qu.voted
  by_cases h1 : (q.nd m.to.toNat).role = 2 ∧ m.term = (q.nd m.to.toNat).term ∧ m.ok = true
  · rw [if_pos h1]
    obtain ⟨hr, ht, ho⟩ := h1
    obtain ⟨hld, hC, hV, ht1⟩ := hx.s1 hr
    obtain ⟨y, hy⟩ : ∃ y : Nd, y = { q.nd m.to.toNat with votes := (q.nd m.to.toNat).votes.set m.frm.toNat true } := ⟨_, rfl⟩
    rw [← hy]
    have hget : ∀ k, ((q.nd m.to.toNat).votes.set m.frm.toNat true).getD k false = if k = m.frm.toNat then true else (q.nd m.to.toNat).votes.getD k false := fun k => by
      rw [List.getD_eq_getElem?_getD, List.getD_eq_getElem?_getD, List.getElem?_set]
      by_cases e : m.frm.toNat = k
      · have h6 : m.frm.toNat < (q.nd m.to.toNat).votes.length := by rw [hx.ok.vl]; omega
        rw [if_pos e, if_pos h6, if_pos e.symm]
        rfl
      · rw [if_neg e, if_neg (fun e2 => e e2.symm)]
    have hI : Inv (q.setN m.to.toNat y) G := by
      rw [hy]
      refine h.put hto (.refl G _ _) (Int.le_refl _) ⟨⟨hx.ok.t0, hx.ok.t1, hx.ok.v0, hx.ok.v1, hx.ok.r, hx.ok.ll, hx.ok.lt, hx.ok.lm, hx.ok.c0, hx.ok.c1, (by simp [hx.ok.vl]), hx.ok.nl, hx.ok.ml, (fun e => absurd hr e), fun k hk => ?_, hx.ok.nm, hx.ok.nb, hx.ok.mb, hx.ok.sk⟩, hx.v1, hx.v2, fun _ => ⟨hld, hC, fun i hi => ?_, ht1⟩, hx.l1, hx.cm⟩ ?_ fun t' e => (h.ldT t' _ e).2
      · show ((q.nd m.to.toNat).votes.set m.frm.toNat true).getD k false = false
        rw [hget, if_neg (by omega)]
        exact hx.ok.vo k hk
      · have hi' : ((q.nd m.to.toNat).votes.set m.frm.toNat true).getD i false = true := hi
        rw [hget] at hi'
        by_cases e : i = m.frm.toNat
        · have h6 := hm.vot hk ho
          rw [e]
          show G.V _ (q.nd m.to.toNat).term _
          rw [← ht]; exact h6
        · rw [if_neg e] at hi'
          exact hV i hi'
      · show Safe _ (fun i => if i = m.to.toNat then (q.nd m.to.toNat).term else q.tm i) (fun i => if i = m.to.toNat then (q.nd m.to.toNat).log else q.lg i) G
        have e1 : (fun i => if i = m.to.toNat then (q.nd m.to.toNat).log else q.lg i) = q.lg := same_lg rfl
        have e2 : (fun i => if i = m.to.toNat then (q.nd m.to.toNat).term else q.tm i) = q.tm := same_tm rfl
        rw [e1, e2]; exact h.safe
    have hl := len_setN q m.to.toNat y
    have hnd : (q.setN m.to.toNat y).nd m.to.toNat = y := by rw [nd_setN q hto, if_pos rfl]
    have htm : (q.setN m.to.toNat y).tm m.to.toNat = q.tm m.to.toNat := by unfold Qu.tm; rw [hnd, hy]
    obtain ⟨G', h9, hg⟩ := hI.leads (n := m.to.toNat) (by rw [hl]; exact hto)
    rw [hnd, setN_setN, hl] at h9
    rw [htm] at hg
    exact ⟨G', h9, hg⟩
  · rw [if_neg h1]; exact ⟨G, h, .refl _ _ _⟩
theorem Inv.come {q : Qu} {G : Gh} (h : Inv q G) {m : Bl} (hm : BlI q.nodes.length q.tm G m) : ∃ G', Inv (q.come m) G' := by
  have hto : m.to.toNat < q.nodes.length := by have := hm.ok.t.1; have := hm.ok.t.2; omega
  have e0 : q.node m.to = q.nd m.to.toNat := rfl
  unfold Qu.come
  simp only
  rw [e0]
  obtain ⟨x, hx⟩ : ∃ x, x = (if (q.nd m.to.toNat).term < m.term then (q.nd m.to.toNat).voter m.term else q.nd m.to.toNat) := ⟨_, rfl⟩
  rw [← hx]
  have hI : Inv (q.setN m.to.toNat x) G := by
    rw [hx]; split
    · exact h.voter hto hm.ok.t1
    · exact h.same hto
  have hxt : (q.nd m.to.toNat).term ≤ x.term ∧ m.term ≤ x.term := by
    rw [hx]; split
    · exact ⟨(voter_term _ _).1, (voter_term _ _).2.1⟩
    · omega
  have hl := len_setN q m.to.toNat x
  have hnd : (q.setN m.to.toNat x).nd m.to.toNat = x := by rw [nd_setN q hto, if_pos rfl]
  have hm' : BlI (q.setN m.to.toNat x).nodes.length (q.setN m.to.toNat x).tm G m := by
    rw [hl]
    refine hm.grow (.refl G 0 _) fun i => ?_
    unfold Qu.tm
    rw [nd_setN q hto]
    by_cases e : i = m.to.toNat
    · rw [if_pos e, e]; exact hxt.1
    · rw [if_neg e]; exact Int.le_refl _
  have hnd' : x = (q.setN m.to.toNat x).nd m.to.toNat := hnd.symm
  by_cases h1 : m.kind = 1
  · rw [if_pos h1]
    obtain ⟨G', h2, _⟩ := hI.asked hm' h1
    rw [hnd] at h2
    exact ⟨G', h2⟩
  rw [if_neg h1]
  by_cases h2 : m.kind = 2
  · rw [if_pos h2]
    obtain ⟨G', h3, _⟩ := hI.voted hm' h2
    rw [hnd] at h3
    exact ⟨G', h3⟩
  rw [if_neg h2]
  by_cases h3 : m.kind = 3
  · rw [if_pos h3]
    obtain ⟨G', h4, _⟩ := hI.more hm' h3 (by rw [hnd]; exact hxt.2)
    rw [hnd] at h4
    exact ⟨G', h4⟩
  rw [if_neg h3]
  have h4 := hI.matched hm' (by have := hm.ok.k; omega)
  rw [hnd] at h4
  exact ⟨G, h4⟩
end Go.Wst.Qm
set_option linter.all false
namespace Go.Wst.Qm
open Go Go.Wst
theorem send_nodes (q : Qu) (m : Bl) : (q.send m).nodes = q.nodes := by unfold Qu.send; split <;> rfl
theorem Inv.sendAll {q : Qu} {G : Gh} (h : Inv q G) (l : List Int) (g : Int → Bl) (hg : ∀ i ∈ l, BlI q.nodes.length q.tm G (g i)) : Inv (l.foldl (fun q i => q.send (g i)) q) G := by
  induction l generalizing q with
  | nil => exact h
  | cons a l ih =>
    rw [List.foldl_cons]
    refine ih (h.send (hg a (List.mem_cons_self ..))) fun i hi => ?_
    have e1 := send_nodes q (g a)
    have e2 : (q.send (g a)).tm = q.tm := by unfold Qu.tm Qu.nd; rw [e1]
    rw [e1, e2]
    exact hg i (List.mem_cons_of_mem _ hi)
def Gh.addS (G : Gh) (n : Nat) (T : Int) (l : List Cmd) : Gh := ⟨G.L, G.ld, fun i t c => G.V i t c ∨ (i = n ∧ t = T ∧ c = n), fun t c => if t = T ∧ c = n then l else G.C t c, G.A⟩
theorem Inv.picked {q : Qu} {G : Gh} (h : Inv q G) (p : Pk) : ∃ G', Inv (q.picked p).1 G' := by
  unfold Qu.picked
  simp only
  by_cases h0 : q.bag = []
  · rw [if_pos h0]; exact ⟨G, h⟩
  rw [if_neg h0]
  have hlen : 0 < q.bag.length := List.length_pos_iff.2 h0
  have hat : (p.a % q.bag.length).toNat < q.bag.length := by
    have h1 := Int.emod_nonneg p.a (b := (q.bag.length : Int)) (by omega)
    have h2 := Int.emod_lt_of_pos p.a (b := (q.bag.length : Int)) (by omega)
    omega
  have hm : q.bag.getD (p.a % q.bag.length).toNat Bl.zero ∈ q.bag := by
    rw [List.getD_eq_getElem?_getD, List.getElem?_eq_getElem hat]
    exact List.getElem_mem _
  obtain ⟨q1, hq1⟩ : ∃ q1 : Qu, q1 = if p.kind ≠ 6 then ⟨q.nodes, q.bag.eraseIdx (p.a % q.bag.length).toNat⟩ else q := ⟨_, rfl⟩
  have hI : Inv q1 G ∧ q1.nodes = q.nodes := by
    rw [hq1]
    split
    · exact ⟨⟨h.odd, h.nd, fun x hx => h.bg x (List.mem_of_mem_eraseIdx hx), by show (q.bag.eraseIdx _).length ≤ 256; have := h.bl; rw [List.length_eraseIdx]; split <;> omega, h.safe, h.ldT, h.ld1⟩, rfl⟩
    · exact ⟨h, rfl⟩
  rw [← hq1]
  by_cases h7 : p.kind = 7
  · rw [if_pos h7]; exact ⟨G, hI.1⟩
  rw [if_neg h7]
  have e2 : q1.tm = q.tm := by unfold Qu.tm Qu.nd; rw [hI.2]
  exact hI.1.come (by rw [hI.2, e2]; exact h.bg _ hm)
theorem Inv.seek {q : Qu} {G : Gh} (h : Inv q G) {n : Int} (hn : q.has n) : ∃ G', Inv (q.seek n).1 G' := by
  have hn' : n.toNat < q.nodes.length := by have := hn.1; have := hn.2; omega
  have hx := h.nd _ hn'
  have h5 := h.odd.2
  have e0 : q.node n = q.nd n.toNat := rfl
  unfold Qu.seek
  simp only
  rw [e0]
  by_cases h1 : (q.nd n.toNat).role = 3
  · rw [if_pos h1]; exact ⟨G, h⟩
  rw [if_neg h1]
  by_cases h2 : top ≤ (q.nd n.toNat).term
  · rw [if_pos h2]; exact ⟨G, h⟩
  rw [if_neg h2]
  have ht0 := hx.ok.t0
  have hvt : ((q.nd n.toNat).voter ((q.nd n.toNat).term + 1)).term = (q.nd n.toNat).term + 1 := if_pos (by omega)
  obtain ⟨y, hy⟩ : ∃ y : Nd, y = { (q.nd n.toNat).voter ((q.nd n.toNat).term + 1) with role := 2, vote := n, votes := falses.set n.toNat true } := ⟨_, rfl⟩
  rw [← hy]
  have hyt : y.term = (q.nd n.toNat).term + 1 := by rw [hy]; exact hvt
  have hyl : y.log = (q.nd n.toNat).log := by rw [hy]; rfl
  have hgr : Grow G (G.addS n.toNat ((q.nd n.toNat).term + 1) (q.nd n.toNat).log) n.toNat (q.tm n.toNat) := by
    refine ⟨fun _ _ _ h => .inl h, fun i t c hi e => e.elim id (fun e => absurd e.1 hi), fun _ _ _ h => h, fun _ _ _ => rfl, fun _ _ h => h, fun _ _ _ h => h, fun t i hi => if_neg (fun e => hi e.2), fun t ht => if_neg (fun e => ?_), fun _ _ _ _ => rfl⟩
    have e1 := e.1
    have ht' : t ≤ (q.nd n.toNat).term := ht
    omega
  have hs := h.safe.seek (n := n.toNat) (T := (q.nd n.toNat).term + 1) hn' (show (q.nd n.toNat).term < _ by omega)
  have hv := NdI.voter h hn' (t := (q.nd n.toNat).term + 1) (by have := hx.ok.t1; unfold top at *; omega)
  have hget : ∀ k, (falses.set n.toNat true).getD k false = if k = n.toNat then true else false := fun k => by
    rw [List.getD_eq_getElem?_getD, List.getElem?_set]
    by_cases e : n.toNat = k
    · have h6 : n.toNat < falses.length := by show n.toNat < 5; omega
      rw [if_pos e, if_pos h6, if_pos e.symm]; rfl
    · rw [if_neg e, if_neg (fun e2 => e e2.symm), ← List.getD_eq_getElem?_getD]; exact falses_get k
  have hI : Inv (q.setN n.toNat y) (G.addS n.toNat ((q.nd n.toNat).term + 1) (q.nd n.toNat).log) := by
    refine h.put hn' hgr (by show (q.nd n.toNat).term ≤ y.term; omega) ?_ ?_ fun t' e => ?_
    · rw [hy]
      refine ⟨⟨hv.ok.t0, hv.ok.t1, (by show -1 ≤ n; have := hn.1; omega), hn.2, (by show (1 : Int) ≤ 2 ∧ (2 : Int) ≤ 3; decide), hv.ok.ll, hv.ok.lt, hv.ok.lm, hv.ok.c0, hv.ok.c1, (by simp [falses]), rfl, rfl, (fun e => absurd rfl e), fun k hk => ?_, fun _ => ⟨rfl, rfl⟩, hv.ok.nb, hv.ok.mb, fun _ c hc => ?_⟩, fun c e => ?_, fun c e => ?_, fun _ => ⟨fun e => ?_, ?_, fun i hi => ?_, ?_⟩, (fun e => by cases (show (2 : Int) = 3 from e)), ?_⟩
      · show (falses.set n.toNat true).getD k false = false
        rw [hget, if_neg (by omega)]
      · show c.term < ((q.nd n.toNat).voter ((q.nd n.toNat).term + 1)).term
        rw [hvt]; have := (hx.ok.lt c hc).2; omega
      · show n = c
        rcases e with e | ⟨_, _, e⟩
        · have h3 := (h.safe.vT _ _ _ e).2
          have h3' : ((q.nd n.toNat).voter ((q.nd n.toNat).term + 1)).term ≤ (q.nd n.toNat).term := h3
          omega
        · have := hn.1; omega
      · have e' : n = c := e
        exact .inr ⟨rfl, hvt, by omega⟩
      · have e' : G.ld ((q.nd n.toNat).voter ((q.nd n.toNat).term + 1)).term = some n.toNat := e
        rw [hvt] at e'
        have h3 : (q.nd n.toNat).term + 1 ≤ (q.nd n.toNat).term := (h.ldT _ _ e').2
        omega
      · show (if ((q.nd n.toNat).voter ((q.nd n.toNat).term + 1)).term = (q.nd n.toNat).term + 1 ∧ n.toNat = n.toNat then _ else _) = _
        rw [if_pos ⟨hvt, rfl⟩]
        rfl
      · have hi' : (falses.set n.toNat true).getD i false = true := hi
        rw [hget] at hi'
        by_cases e : i = n.toNat
        · exact .inr ⟨e, hvt, rfl⟩
        · rw [if_neg e] at hi'; cases hi'
      · show 1 ≤ ((q.nd n.toNat).voter ((q.nd n.toNat).term + 1)).term
        omega
      · exact hx.cm.mono (by show (q.nd n.toNat).term ≤ ((q.nd n.toNat).voter ((q.nd n.toNat).term + 1)).term; omega) rfl hgr.a hgr.l
    · rw [hyt, hyl]
      have e1 : (fun i => if i = n.toNat then (q.nd n.toNat).log else q.lg i) = q.lg := same_lg rfl
      rw [e1]
      exact hs
    · have h3 : t' ≤ (q.nd n.toNat).term := (h.ldT t' _ e).2
      omega
  have hl := len_setN q n.toNat y
  have hnd : (q.setN n.toNat y).nd n.toNat = y := by rw [nd_setN q hn', if_pos rfl]
  have htm : (q.setN n.toNat y).tm n.toNat = y.term := by unfold Qu.tm; rw [hnd]
  obtain ⟨G', h9, hg⟩ := hI.leads (n := n.toNat) (by rw [hl]; exact hn')
  rw [hnd, setN_setN, hl] at h9
  rw [htm] at hg
  have hsame : (y.leads q.nodes.length n.toNat).term = y.term ∧ (y.leads q.nodes.length n.toNat).log = y.log := by unfold Nd.leads; split <;> exact ⟨rfl, rfl⟩
  have hl2 := len_setN q n.toNat (y.leads q.nodes.length n.toNat)
  refine ⟨G', h9.sendAll _ _ fun i hi => ?_⟩
  rw [hl2]
  unfold others at hi
  obtain ⟨hi1, hi2⟩ := List.mem_filter.1 hi
  obtain ⟨j, hj, hje⟩ := List.mem_map.1 hi1
  have hj' : j < q.nodes.length := by simpa using hj
  have hine : i ≠ n := by simpa using hi2
  have hok := (h9.nd n.toNat (by rw [hl2]; exact hn')).ok
  rw [nd_setN q hn', if_pos rfl, hl2] at hok
  have htm2 : (q.setN n.toNat (y.leads q.nodes.length n.toNat)).tm n.toNat = y.term := by unfold Qu.tm; rw [nd_setN q hn', if_pos rfl]; exact hsame.1
  have hCC : G'.C y.term n.toNat = y.log := by
    rw [hg.cn _ (Int.le_refl _), hyt, hyl]
    exact if_pos ⟨rfl, rfl⟩
  refine ⟨⟨by show (1 : Int) ≤ 1 ∧ (1 : Int) ≤ 4; decide, hn, by show 0 ≤ i ∧ i < (q.nodes.length : Int); omega, fun e => hine e.symm, hok.t0, hok.t1, Int.le_refl _, by show (0 : Int) + 0 ≤ 256; decide, Nat.zero_le _, (fun c hc => by cases hc), List.Pairwise.nil, Int.le_refl _, fun _ => rfl⟩, fun _ => ⟨?_, ?_, ?_⟩, (fun e => by cases (show (1 : Int) = 2 from e)), (fun e => by cases (show (1 : Int) = 3 from e)), (fun e => by cases (show (1 : Int) = 4 from e))⟩
  · show (y.leads q.nodes.length n.toNat).term ≤ _
    rw [htm2, hsame.1]
    exact Int.le_refl _
  · show ofT (y.leads q.nodes.length n.toNat).log = ofT (G'.C (y.leads q.nodes.length n.toNat).term n.toNat)
    rw [hsame.1, hsame.2, hCC]
  · show ((y.leads q.nodes.length n.toNat).log.length : Int) = ((G'.C (y.leads q.nodes.length n.toNat).term n.toNat).length : Int)
    rw [hsame.1, hsame.2, hCC]
theorem Inv.step {q : Qu} {G : Gh} (h : Inv q G) (p : Pk) : ∃ G', Inv (q.step p).1 G' := by
  unfold Qu.step
  split
  · next h0 =>
    split
    · exact h.seek h0.2.2
    split
    · obtain ⟨G', h1, _⟩ := h.take h0.2.2; exact ⟨G', h1⟩
    split
    · exact ⟨G, h.give h0.2.2⟩
    · exact ⟨G, h.crash h0.2.2⟩
  · split
    · exact h.picked p
    · exact ⟨G, h⟩
end Go.Wst.Qm
set_option linter.all false
namespace Go.Wst.Qm
open Go Go.Wst
def Nd.Tid (cnt : Nat) (x : Nd) : Prop := ∀ j, cnt ≤ j → x.next.getD j 0 = 0 ∧ x.mat.getD j 0 = 0
theorem zeros_get (j : Nat) : zeros.getD j 0 = 0 := by
  unfold zeros
  rw [List.getD_eq_getElem?_getD, List.getElem?_replicate]
  split <;> rfl
theorem getD_set_far {l : List Int} {i j : Nat} {a : Int} (h : i ≠ j) : (l.set i a).getD j 0 = l.getD j 0 := by
  rw [List.getD_eq_getElem?_getD, List.getD_eq_getElem?_getD, List.getElem?_set_ne h]
theorem Nd.Tid.voter (cnt : Nat) (x : Nd) (t : Int) : (x.voter t).Tid cnt := fun j _ => ⟨zeros_get j, zeros_get j⟩
theorem Nd.Tid.leads {cnt n : Nat} {x : Nd} (h : x.Tid cnt) (hn : n < cnt) : (x.leads cnt n).Tid cnt := by
  unfold Nd.leads
  split
  · exact h
  · intro j hj
    refine ⟨?_, ?_⟩
    · show (List.replicate cnt (x.log.length : Int) ++ x.next.drop cnt).getD j 0 = 0
      rw [List.getD_eq_getElem?_getD, List.getElem?_append_right (by simpa using hj), List.length_replicate, List.getElem?_drop, ← List.getD_eq_getElem?_getD]
      have e : cnt + (j - cnt) = j := by omega
      rw [e]; exact (h j hj).1
    · show (x.mat.set n _).getD j 0 = 0
      rw [getD_set_far (by omega)]; exact (h j hj).2
theorem Nd.Tid.commits {cnt c : Nat} {x : Nd} (h : x.Tid cnt) : (x.commits c).Tid cnt := by unfold Nd.commits; simp only; split <;> exact h
theorem Nd.Tid.matched {cnt : Nat} {x : Nd} {m : Bl} (h : x.Tid cnt) (hf : m.frm.toNat < cnt) : (x.matched m).Tid cnt := by
  unfold Nd.matched setI
  split
  · exact fun j hj => ⟨by show (x.next.set _ _).getD j 0 = 0; rw [getD_set_far (by omega)]; exact (h j hj).1, by show (x.mat.set _ _).getD j 0 = 0; rw [getD_set_far (by omega)]; exact (h j hj).2⟩
  · exact fun j hj => ⟨by show (x.next.set _ _).getD j 0 = 0; rw [getD_set_far (by omega)]; exact (h j hj).1, (h j hj).2⟩
def Qu.Tidy (q : Qu) : Prop := ∀ x ∈ q.nodes, x.Tid q.nodes.length
section
variable {q : Qu}
theorem Qu.Tidy.new (n : Nat) : (Qu.new n).Tidy := fun x hx j _ => by
  have e : x = Nd.new := List.eq_of_mem_replicate hx
  rw [e]; exact ⟨zeros_get j, zeros_get j⟩
theorem Qu.Tidy.setN (h : q.Tidy) (n : Nat) {y : Nd} (hy : y.Tid q.nodes.length) : (q.setN n y).Tidy := fun x hx => by
  rw [len_setN]
  rcases List.mem_or_eq_of_mem_set hx with e | e
  · exact h x e
  · rw [e]; exact hy
theorem Qu.Tidy.send (h : q.Tidy) (m : Bl) : (q.send m).Tidy := fun x hx => by
  rw [len_send]
  rw [send_nodes] at hx
  exact h x hx
theorem Qu.Tidy.sendAll (h : q.Tidy) (l : List Int) (g : Int → Bl) : (l.foldl (fun q i => q.send (g i)) q).Tidy := by
  induction l generalizing q with
  | nil => exact h
  | cons a l ih => rw [List.foldl_cons]; exact ih (h.send _)
theorem Qu.Tidy.node (h : q.Tidy) (n : Int) : (q.node n).Tid q.nodes.length := by
  unfold Qu.node
  rw [List.getD_eq_getElem?_getD]
  rcases Nat.lt_or_ge n.toNat q.nodes.length with e | e
  · rw [List.getElem?_eq_getElem e]; exact h _ (List.getElem_mem e)
  · rw [List.getElem?_eq_none e]; exact fun j _ => ⟨zeros_get j, zeros_get j⟩
theorem Qu.Tidy.seek (h : q.Tidy) {n : Int} (hn : q.has n) : (q.seek n).1.Tidy := by
  have hn' : n.toNat < q.nodes.length := by have := hn.1; have := hn.2; omega
  unfold Qu.seek
  simp only
  split
  · exact h
  split
  · exact h
  · exact (h.setN _ (Nd.Tid.leads (fun j _ => ⟨zeros_get j, zeros_get j⟩) hn')).sendAll _ _
theorem Qu.Tidy.take (h : q.Tidy) {p : Pk} (hn : q.has p.a) : (q.take p).1.Tidy := by
  have hn' : p.a.toNat < q.nodes.length := by have := hn.1; have := hn.2; omega
  unfold Qu.take
  simp only
  split
  · exact h
  split
  · exact h
  split
  · exact h
  · refine h.setN _ (Nd.Tid.commits fun j hj => ⟨(h.node p.a j hj).1, ?_⟩)
    show (setI _ _ _).getD j 0 = 0
    unfold setI
    rw [getD_set_far (by omega)]; exact (h.node p.a j hj).2
theorem Qu.Tidy.give (h : q.Tidy) (p : Pk) : (q.give p).1.Tidy := by
  unfold Qu.give
  simp only
  split
  · exact h
  split
  · exact h
  · exact h.send _
theorem Qu.Tidy.crash (h : q.Tidy) (n : Int) : (q.crash n).1.Tidy := h.setN _ (fun j _ => ⟨zeros_get j, zeros_get j⟩)
theorem Qu.Tidy.more (h : q.Tidy) (m : Bl) {x : Nd} : (q.more m x).Tidy := by
  unfold Qu.more
  simp only
  split
  · exact h.send _
  · split
    · exact (h.setN _ (Nd.Tid.voter _ x m.term)).send _
    · exact (h.setN _ (fun j _ => ⟨zeros_get j, zeros_get j⟩)).send _
theorem Qu.Tidy.asked (h : q.Tidy) (m : Bl) {x : Nd} (hx : x.Tid q.nodes.length) : (q.asked m x).Tidy := by
  unfold Qu.asked
  refine (h.setN _ ?_).send _
  split <;> exact hx
theorem Qu.Tidy.voted (h : q.Tidy) {m : Bl} {x : Nd} (hx : x.Tid q.nodes.length) (ht : m.to.toNat < q.nodes.length) : (q.voted m x).Tidy := by
  unfold Qu.voted
  split
  · exact h.setN _ (Nd.Tid.leads hx ht)
  · exact h
theorem Qu.Tidy.matched (h : q.Tidy) {m : Bl} {x : Nd} (hx : x.Tid q.nodes.length) (hf : m.frm.toNat < q.nodes.length) : (q.matched m x).Tidy := by
  unfold Qu.matched
  split
  · exact h
  · exact h.setN _ (Nd.Tid.commits (Nd.Tid.matched hx hf))
theorem Qu.Tidy.come (h : q.Tidy) {m : Bl} (hf : m.frm.toNat < q.nodes.length) (ht : m.to.toNat < q.nodes.length) : (q.come m).Tidy := by
  have hx : (if (q.node m.to).term < m.term then (q.node m.to).voter m.term else q.node m.to).Tid q.nodes.length := by
    split
    · exact Nd.Tid.voter _ _ _
    · exact h.node m.to
  have h1 := h.setN m.to.toNat hx
  have hl := len_setN q m.to.toNat (if (q.node m.to).term < m.term then (q.node m.to).voter m.term else q.node m.to)
  unfold Qu.come
  simp only
  split
  · exact h1.asked m (by rw [hl]; exact hx)
  split
  · exact h1.voted (by rw [hl]; exact hx) (by rw [hl]; exact ht)
  split
  · exact h1.more m
  · exact h1.matched (by rw [hl]; exact hx) (by rw [hl]; exact hf)
theorem Qu.Tidy.picked (h : q.Tidy) (p : Pk) (hb : ∀ m ∈ q.bag, m.frm.toNat < q.nodes.length ∧ m.to.toNat < q.nodes.length) : (q.picked p).1.Tidy := by
  unfold Qu.picked
  simp only
  by_cases h0 : q.bag = []
  · rw [if_pos h0]; exact h
  rw [if_neg h0]
  have hlen : 0 < q.bag.length := List.length_pos_iff.2 h0
  have hat : (p.a % q.bag.length).toNat < q.bag.length := by
    have h1 := Int.emod_nonneg p.a (b := (q.bag.length : Int)) (by omega)
    have h2 := Int.emod_lt_of_pos p.a (b := (q.bag.length : Int)) (by omega)
    omega
  have hm : q.bag.getD (p.a % q.bag.length).toNat Bl.zero ∈ q.bag := by
    rw [List.getD_eq_getElem?_getD, List.getElem?_eq_getElem hat]
    exact List.getElem_mem _
  obtain ⟨q1, hq1⟩ : ∃ q1 : Qu, q1 = if p.kind ≠ 6 then ⟨q.nodes, q.bag.eraseIdx (p.a % q.bag.length).toNat⟩ else q := ⟨_, rfl⟩
  have hn : q1.nodes = q.nodes := by rw [hq1]; split <;> rfl
  have ht1 : q1.Tidy := by unfold Qu.Tidy; rw [hn]; exact h
  rw [← hq1]
  split
  · exact ht1
  · exact ht1.come (by rw [hn]; exact (hb _ hm).1) (by rw [hn]; exact (hb _ hm).2)
theorem Qu.Tidy.step (h : q.Tidy) {G : Gh} (hI : Inv q G) (p : Pk) : (q.step p).1.Tidy := by
  have hb : ∀ m ∈ q.bag, m.frm.toNat < q.nodes.length ∧ m.to.toNat < q.nodes.length := fun m hm => by
    have h1 := (hI.bg m hm).ok
    have := h1.f; have := h1.t
    omega
  unfold Qu.step
  split
  · next h0 =>
    split
    · exact h.seek h0.2.2
    split
    · exact h.take h0.2.2
    split
    · exact h.give p
    · exact h.crash p.a
  · split
    · exact h.picked p hb
    · exact h
end
theorem idxs_inj5 : ∀ (a b c d e a' b' c' d' e' : Bool), idxs [a, b, c, d, e] = idxs [a', b', c', d', e'] → [a, b, c, d, e] = [a', b', c', d', e'] := by decide
theorem idxs_inj {l m : List Bool} (hl : l.length = 5) (hm : m.length = 5) (h : idxs l = idxs m) : l = m := by
  obtain ⟨a0, a1, a2, a3, a4, rfl⟩ := five hl
  obtain ⟨b0, b1, b2, b3, b4, rfl⟩ := five hm
  exact idxs_inj5 _ _ _ _ _ _ _ _ _ _ h
theorem take_far {l m : List Int} {cnt : Nat} (hl : l.length = m.length) (h : l.take cnt = m.take cnt) (hf : ∀ j, cnt ≤ j → l.getD j 0 = m.getD j 0) : l = m := by
  apply List.ext_getElem hl
  intro j h1 h2
  rcases Nat.lt_or_ge j cnt with e | e
  · have h3 := congrArg (fun l : List Int => l[j]?) h
    simpa [List.getElem?_take, e, h1, h2] using h3
  · have h3 := hf j e
    simpa [List.getD_eq_getElem?_getD, h1, h2] using h3
theorem tell_inj {cnt : Nat} {x y : Nd} (hx : x.Ok cnt) (hy : y.Ok cnt) (tx : x.Tid cnt) (ty : y.Tid cnt) (h : x.tell cnt = y.tell cnt) : x = y := by
  have e1 : x.role = y.role := congrArg An.role h
  have e2 : x.term = y.term := congrArg An.term h
  have e3 : x.vote = y.vote := congrArg An.vote h
  have e4 : x.commit = y.commit := congrArg An.commit h
  have e5 : x.log = y.log := congrArg An.log h
  have e6 : x.votes = y.votes := idxs_inj hx.vl hy.vl (congrArg An.votes h)
  have e7 : x.next = y.next ∧ x.mat = y.mat := by
    by_cases hr : x.role = 3
    · have hr' : y.role = 3 := e1 ▸ hr
      have h7 : (if x.role = 3 then x.next.take cnt else []) = (if y.role = 3 then y.next.take cnt else []) := congrArg An.next h
      have h8 : (if x.role = 3 then x.mat.take cnt else []) = (if y.role = 3 then y.mat.take cnt else []) := congrArg An.mat h
      rw [if_pos hr, if_pos hr'] at h7 h8
      exact ⟨take_far (by rw [hx.nl, hy.nl]) h7 (fun j hj => by rw [(tx j hj).1, (ty j hj).1]), take_far (by rw [hx.ml, hy.ml]) h8 (fun j hj => by rw [(tx j hj).2, (ty j hj).2])⟩
    · have hr' : y.role ≠ 3 := e1 ▸ hr
      exact ⟨(hx.nm hr).1.trans (hy.nm hr').1.symm, (hx.nm hr).2.trans (hy.nm hr').2.symm⟩
  obtain ⟨a1, a2, a3, a4, a5, a6, a7, a8⟩ := x
  obtain ⟨b1, b2, b3, b4, b5, b6, b7, b8⟩ := y
  simp only at e1 e2 e3 e4 e5 e6 e7
  rw [e1, e2, e3, e4, e5, e6, e7.1, e7.2]
theorem tellQ_inj {q q2 : Qu} {G G2 : Gh} (hI : Inv q G) (hI2 : Inv q2 G2) (t : q.Tidy) (t2 : q2.Tidy) (h : q.tell = q2.tell) : q.nodes = q2.nodes ∧ q.bag = q2.bag := by
  have hn : q.nodes.map (Nd.tell q.nodes.length) = q2.nodes.map (Nd.tell q2.nodes.length) := congrArg Dq.nodes h
  have hl : q.nodes.length = q2.nodes.length := by have := congrArg List.length hn; simpa using this
  refine ⟨List.ext_getElem hl fun j h1 h2 => ?_, congrArg Dq.bag h⟩
  have h3 := congrArg (fun l : List An => l[j]?) hn
  simp only [List.getElem?_map, List.getElem?_eq_getElem h1, List.getElem?_eq_getElem h2, Option.map_some, Option.some.injEq] at h3
  have o1 := (hI.nd j h1).ok
  have o2 := (hI2.nd j h2).ok
  have e1 : q.nd j = q.nodes[j] := by unfold Qu.nd; rw [List.getD_eq_getElem?_getD, List.getElem?_eq_getElem h1]; rfl
  have e2 : q2.nd j = q2.nodes[j] := by unfold Qu.nd; rw [List.getD_eq_getElem?_getD, List.getElem?_eq_getElem h2]; rfl
  rw [e1] at o1
  rw [e2, ← hl] at o2
  rw [← hl] at h3
  exact tell_inj o1 o2 (t _ (List.getElem_mem h1)) (by rw [hl]; exact t2 _ (List.getElem_mem h2)) h3
end Go.Wst.Qm
