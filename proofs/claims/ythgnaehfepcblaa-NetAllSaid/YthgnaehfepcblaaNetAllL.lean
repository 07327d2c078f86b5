/-
  NetAll's function; no condition.
-/
import Derived.Test.YthgnaehfepcblaaNetd
namespace Go.Proofs.Ythgnaehfepcblaa
open Go.Sx
set_option maxRecDepth 100000
set_option linter.unusedVariables false

noncomputable def cNew : Con where
  α := Unit
  β := Unit
  m := 0
  m' := 1
  pre := fun _ => True
  args := fun _ => []
  hp := fun _ => []
  ro := fun _ => []
  post := fun _ _ => True
  res := fun _ _ => .a (.ptr 0 0 0 0)
  hp' := fun _ _ => [(0, .obj 51 [.snil])]
set_option maxHeartbeats 4000000 in
theorem bodyNew : fnBody (Y Try.prog) [] 9 cNew fun _ => [] := fnBody.of (p :=
  ∀ (a : Unit), True →
  ∃ (b : Unit), (0 : Nat) = (0 : Nat) ∧
  True ∧
  True) (by kernel_rfl) (by
  repeat' (first | intro _ | exact ⟨(), rfl, rfl, trivial, trivial⟩ | exact ⟨(), trivial⟩ | apply Exists.intro () | apply And.intro | trivial))
/-- with a pool of one's own -/
noncomputable def cNewP : Con where
  α := Unit
  β := Unit
  m := 0
  m' := 2
  pre := fun _ => True
  args := fun _ => []
  hp := fun _ => []
  ro := fun _ => []
  post := fun _ _ => True
  res := fun _ _ => .a (.ptr 0 0 0 0)
  hp' := fun _ _ => [(0, .obj 51 [.snil]), (1, .abs (Snap Pool.none))]
theorem semNewP : ConSem (Y Try.prog).G.X cNewP 9 := by
  intro a hp M ρ w vs hn hh hargs
  refine (con_sem okY (fun _ => CHof_ok okY (tab := []) trivial) bodyNew.body () trivial M ρ w vs hn hh hargs).mono ?_
  rintro e w' ⟨v, rfl, o, ρ2, _, h2, h3, h4, h5⟩
  have h5 : HeapSat w M ρ2 [⟨0, true, .obj 51 [.snil]⟩] w' := h5
  have h2 : ρ2.n = 1 := h2
  have hle := ρ2.le_ext nilPlace
  have hpl : (ρ2.ext nilPlace).pl 1 = nilPlace := by rw [← h2]; exact ρ2.ext_new _
  refine ⟨v, rfl, (), ρ2.ext nilPlace, trivial, by show ρ2.n + 1 = 2; rw [h2], fun T hT => absurd hT (Nat.not_lt_zero _), h4.mono hle, ?_⟩
  refine HeapSat.perm (hp := [⟨1, true, .abs (Snap Pool.none)⟩, ⟨0, true, .obj 51 [.snil]⟩]) ?_ (List.Perm.swap ..)
  refine (h5.mono hle).cons ⟨by show 1 < ρ2.n + 1; omega, ?_, ?_, ?_⟩ fun x hx => ?_
  · intro w'' _ b hb; exact hb.elim
  · intro b hb
    have hb : ((ρ2.ext nilPlace).pl 1).fp b := hb
    rw [hpl] at hb; exact hb.elim
  · intro _ b hb
    have hb : ((ρ2.ext nilPlace).pl 1).fp b := hb
    rw [hpl] at hb; exact hb.elim
  · simp only [List.mem_singleton] at hx
    subst hx
    refine ⟨by decide, fun _ b hb => ?_⟩
    have hb : ((ρ2.ext nilPlace).pl 1).fp b := hb
    rw [hpl] at hb; exact hb.elim
theorem callNewP : CallsBy (Y Try.prog).G.X 9 cNewP := fun _ _ _ h => con_okS semNewP h

noncomputable def tabAll : List (Nat × Con) := [(8, cBegun), (9, cNewP), (10, cCutV), (11, cMsgV), (12, cSend), (13, cLook), (14, cTake), (16, cDrop), (15, cEqV)]
theorem tabAll_ok : TabOk (Y Try.prog).G.X tabAll := ⟨callBegun, callNewP, callCutV, callMsgV, callSend, callLook, callTake, callDrop, callEqV, trivial⟩

/-! ### the arguments -/

def ksOp : List CK := [.int .i64, .int .i64, .deep]
/-- a slice of messages -/
structure MsIn (g : Pool) (v : Value) where
  l : List RowM
  cs : List MsgA
  cap : Nat
  sl : IsSl g v ksMsg l.length cap (encRows encRM l)
  likes : Likes g g l cs
structure AllA where
  n : Nat
  cap : Nat
  rows : Nat → Nat → Value
  gA : Pool
structure opsOk (a : AllA) : Prop where
  le : a.n ≤ a.cap
  max : a.cap ≤ lenMax
  ms : ∀ i, i < a.n → Nonempty (MsIn a.gA (a.rows i 2))
noncomputable def cAll : Con where
  α := AllA
  β := Unit
  m := 2
  m' := 2
  pre := fun a => opsOk a
  args := fun a => [.a (.slc 0 0 3 a.n a.cap)]
  hp := fun _ => []
  ro := fun a => [(0, .arr 28 ksOp a.n a.rows), (1, .abs (Snap a.gA))]
  post := fun _ _ => True
  res := fun _ _ => .a .tt
  hp' := fun _ _ => []

/-! ### the loops -/

structure St where
  i : Nat
  l : List RowM
  nl : List RowM
  cs : List MsgA
  lcap : Nat
  ncap : Nat
  g : Pool
def arrM (l : List RowM) : Chunk := .arr 36 ksMsg l.length (encRows encRM l)
structure StOk (gA : Pool) (x : St) : Prop where
  l : Likes x.g gA x.l x.cs
  nl : Likes x.g gA x.nl x.cs
  lens : allLens x.cs
  lc : x.l.length ≤ x.lcap
  nc : x.nl.length ≤ x.ncap
def S.net0 (s : S) (t : Nat) (l : List RowM) (cap : Nat) : S := (s.at_ t (.obj 51 [.slc s.nx 0 21 l.length cap])).new (.arr 36 ksMsg l.length (encRows encRM l))
/-- a list in a block of its own -/
def S.lst (s : S) (slot : Nat) (l : List RowM) (cap : Nat) : S := (s.new (.arr 36 ksMsg l.length (encRows encRM l))).set slot (.a (.slc s.nx 0 21 l.length cap))
structure In where
  j : Nat
  ms : List RowM
  mcap : Nat
  mcs : List MsgA
  l : List RowM
  lcap : Nat
  g : Pool
  k : Nat
structure InOk (gA : Pool) (x : St) (y : In) : Prop where
  j : y.j ≤ 4
  k : y.k = (y.mcs.filter mayB).length
  mj : y.mcs.length = y.j
  ms : Likes y.g gA y.ms y.mcs
  mlens : allLens y.mcs
  l : Likes y.g gA y.l (x.cs ++ y.mcs.filter mayB)
  ext : x.g.Ext y.g
  lc : y.l.length ≤ y.lcap
  mc : y.ms.length ≤ y.mcap
def jMs (s : S) (y : In) : S := (((S.pool (S.lst (S.lst (s.put (s.hp.del (s.tg 5))) 5 y.l y.lcap) 9 y.ms y.mcap) y.g).int 10 y.k).int 11 y.j)
def iMs (a : AllA) (x : St) : An := .flat 20 In jMs (fun _ y => InOk a.gA x y) (fun _ y => 4 - y.j)
def cutMs (a : AllA) (x : St) : An := .mk 27 In jMs (fun _ y => InOk a.gA x y) (fun _ _ => 0) fun _ => .mk 60 [] []
structure Mid where
  v : Vs
  ncap : Nat
  g : Pool
def kd (a : AllA) (x : St) : Int := toI (a.rows x.i 0)
def ix (a : AllA) (x : St) : Int := toI (a.rows x.i 1)
structure MidOk (a : AllA) (x : St) (nl : List RowM) (y : Mid) : Prop where
  ext : x.g.Ext y.g
  has : lookB x.nl (ix a x) = true → ∃ c : Caps, Has y.g a.gA y.v ((gl x.cs (ix a x).toNat).caps c)
  nc : nl.length ≤ y.ncap
structure Mids where
  nl : List RowM
  y : Mid
def cutMid (a : AllA) (x : St) : An := .mk 34 Mids (fun s z => S.pool ((S.net1 s (s.tg 4) z.nl z.y.ncap).at_ (s.tg 13) (.obj 36 (msgV (lookM x.nl (ix a x)) z.y.v))) z.y.g)
  (fun _ z => z.nl = (if kd a x = 1 then dropM x.nl (ix a x) else x.nl) ∧ MidOk a x z.nl z.y) (fun _ _ => 0) fun _ => .mk 60 [] []
def cutOp (a : AllA) (x : St) : An := .mk 38 St (fun s y => S.pool (S.lst (let s1 := S.net1 s (s.tg 4) y.nl y.ncap; s1.put (s1.hp.del (s.tg 5))) 5 y.l y.lcap) y.g) (fun _ y => y.cs.length ≤ 4 * x.i + 4 ∧ StOk a.gA y) (fun _ _ => 0) fun _ => .mk 60 [] []
def cutIn (a : AllA) (x : St) : An := .mk 11 Bool (fun s b => s.set 8 (.a (.bool b))) (fun _ b => b = lookB x.l (ix a x)) (fun _ _ => 0) fun _ => .mk 60 [iMs a x] [cutOp a x, cutMs a x, cutMid a x]
def jAll (s : S) (x : St) : S := S.pool (S.lst (S.net0 s (s.tg 4) x.nl x.ncap) 5 x.l x.lcap) x.g
def iAll (a : AllA) : An := .mk 7 St (fun s x => (jAll s x).int 6 x.i) (fun _ x => x.i ≤ 50 ∧ x.i ≤ a.n ∧ x.cs.length ≤ 4 * x.i ∧ StOk a.gA x) (fun _ x => 50 - x.i)
  fun x => .mk 60 [] [.openCell 10 7 2 36 ksMsg (.mk 60 [] [cutIn a x])]
def S.same (s : S) (x : St) : S := (((s.at_ (s.in_ (s.tg 4) 0) (.arr 36 ksMsg x.nl.length (encRows encRM x.nl))).at_ (s.tg 4) (.obj 51 [.slc (s.in_ (s.tg 4) 0) 0 21 x.nl.length x.ncap])).at_ (s.tg 5) (.arr 36 ksMsg x.l.length (encRows encRM x.l))).set 5 (.a (.slc (s.tg 5) 0 21 x.l.length x.lcap))
def iFin (a : AllA) : An := .flat 41 St (fun s x => (S.pool (S.same s x) x.g).int 15 x.i) (fun _ x => x.i ≤ x.cs.length ∧ x.cs.length ≤ 200 ∧ StOk a.gA x) (fun _ x => x.cs.length - x.i)
def cutFin (a : AllA) : An := .mk 40 St jAll (fun _ x => x.cs.length ≤ 200 ∧ StOk a.gA x) (fun _ _ => 0) fun _ => .mk 60 [iFin a] []
theorem allLens.mem {cs : List MsgA} (h : allLens cs) {a : MsgA} (ha : a ∈ cs) : lensM a := by
  obtain ⟨i, hi, rfl⟩ := List.getElem_of_mem ha
  rw [← gl_eq hi]; exact h.at_ i hi
theorem allLens.of_mem {cs : List MsgA} (h : ∀ a ∈ cs, lensM a) : allLens cs := ⟨fun _ hi => h _ (gl_mem hi)⟩
theorem stok0 (gA : Pool) : StOk gA ⟨0, [], [], [], 0, 0, Pool.none⟩ := ⟨Likes.nil _ _, Likes.nil _ _, ⟨fun i hi => absurd hi (Nat.not_lt_zero _)⟩, Nat.le_refl _, Nat.le_refl _⟩
/-- likewise, with more -/
theorem StOk.to {gA : Pool} {x : St} (h : StOk gA x) (i : Nat) {g : Pool} (e : x.g.Ext g) : StOk gA ⟨i, x.l, x.nl, x.cs, x.lcap, x.ncap, g⟩ := ⟨h.l.ext e, h.nl.ext e, h.lens, h.lc, h.nc⟩
theorem StOk.erase {gA : Pool} {x : St} (h : StOk gA x) {k : Nat} (hk : k < x.l.length) {g : Pool} (e : x.g.Ext g) {lc nc : Nat} (h1 : (x.l.eraseIdx k).length ≤ lc) (h2 : (x.nl.eraseIdx k).length ≤ nc) :
    StOk gA ⟨0, x.l.eraseIdx k, x.nl.eraseIdx k, x.cs.eraseIdx k, lc, nc, g⟩ :=
  ⟨(h.l.ext e).erase hk, (h.nl.ext e).erase (by rw [h.nl.len, ← h.l.len]; exact hk), h.lens.erase, h1, h2⟩
theorem erase_rows {l : List RowM} {k n : Nat} (hk : k < l.length) (hn : n ≤ l.length - 1) : RowsEq n 21 (appRows (encRows encRM l) 0 k fun (i j : Nat) => encRows encRM l (k + 1 + i) j) (encRows encRM (l.eraseIdx k)) := by
  refine ⟨fun i hi j hj => ?_⟩
  simp only [appRows, encRows, gl_eraseIdx, Nat.zero_add]
  by_cases h : i < k
  · simp only [h, if_true]
  · simp only [h, if_false]
    rw [show k + 1 + (i - k) = i + 1 by omega]
theorem has_right {g1 g2 : Pool} {v : Vs} {a : MsgA} (h : Has g2 g2 v a) : Has g1 g2 v a := ⟨.inr (h.i.elim id id), .inr (h.m.elim id id), .inr (h.n.elim id id), .inr (h.o.elim id id)⟩
theorem cut_lens (a : MsgA) (b1 b2 : Nat) : lensM (cutA a b1 b2) := by
  refine ⟨?_, ?_, ?_, ?_⟩ <;> simp only [cutA, cutIL, cutML, List.length_map, List.length_take] <;> omega
theorem InOk.next {gA : Pool} {x : St} {y : In} (h : InOk gA x y) (hj : y.j < 4) {r : RowM} {a : MsgA} {c : Caps} {g : Pool} (hm : r.m = a.m) (e : y.g.Ext g) (hh : Has g gA r.v (a.caps c)) (hl : lensM a) {mc lc : Nat} (h1 : y.ms.length + 1 ≤ mc) (h2 : y.l.length + 1 ≤ lc) (hb : mayB a = true) :
    InOk gA x ⟨y.j + 1, y.ms ++ [r], mc, y.mcs ++ [a], y.l ++ [r], lc, g, y.k + 1⟩ := by
  have hf : (y.mcs ++ [a]).filter mayB = y.mcs.filter mayB ++ [a] := by rw [List.filter_append]; simp [hb]
  refine ⟨by dsimp only; omega, ?_, by simp [h.mj], (h.ms.ext e).push hm hh, h.mlens.push hl, ?_, h.ext.trans e, by simpa using h2, by simpa using h1⟩
  · dsimp only; rw [hf, h.k]; simp
  · dsimp only; rw [hf, ← List.append_assoc]; exact (h.l.ext e).push hm hh
theorem InOk.skip {gA : Pool} {x : St} {y : In} (h : InOk gA x y) (hj : y.j < 4) {r : RowM} {a : MsgA} {c : Caps} {g : Pool} (hm : r.m = a.m) (e : y.g.Ext g) (hh : Has g gA r.v (a.caps c)) (hl : lensM a) {mc : Nat} (h1 : y.ms.length + 1 ≤ mc) (hb : mayB a = false) :
    InOk gA x ⟨y.j + 1, y.ms ++ [r], mc, y.mcs ++ [a], y.l, y.lcap, g, y.k⟩ := by
  have hf : (y.mcs ++ [a]).filter mayB = y.mcs.filter mayB := by rw [List.filter_append]; simp [hb]
  refine ⟨by dsimp only; omega, ?_, by simp [h.mj], (h.ms.ext e).push hm hh, h.mlens.push hl, ?_, h.ext.trans e, h.lc, by simpa using h1⟩
  · dsimp only; rw [hf, h.k]
  · dsimp only; rw [hf]; exact h.l.ext e
def withM (a : MsgA) (m : MR) : MsgA := ⟨m, a.il, a.ml, a.nl, a.ol, a.ci, a.cm, a.cn, a.co⟩
theorem lookB_nat {l : List RowM} {k : Nat} : lookB l (k : Int) = decide (k < l.length) := by simp [lookB]
set_option maxHeartbeats 4000000 in
theorem bodyAll : fnBody (Y Try.prog) tabAll 3 cAll fun a => [(3, [iAll a], [cutFin a])] := fnBody.of (p :=
  ∀ (a : AllA), opsOk a →
  ∃ (a_2 : Unit), True ∧
  ∀ (b : Unit), True →
  ∃ (a_4 : Unit), True ∧
  ∀ (b : Unit), True →
  ((∃ (a_6 : St), (0 : Int) = (↑a_6.i : Int) ∧
  ((0 : Nat) = a_6.l.length ∧
  (0 : Nat) = a_6.lcap) ∧
  (0 : Nat) = (0 : Nat) ∧
  Bool.false = Bool.false ∧
  Bool.true = Bool.true ∧
  Bool.false = Bool.false ∧
  ((0 : Nat) = (0 : Nat) ∧
  a.n = a.n ∧
  a.cap = a.cap) ∧
  Snap Pool.none = Snap a_6.g ∧
  a_6.l.length = (0 : Nat) ∧
  ((0 : Nat) = a_6.nl.length ∧
  (0 : Nat) = a_6.ncap) ∧
  (a.n ≤ a.n ∧
  RowsEq a.n (3 : Nat) a.rows a.rows) ∧
  Snap a.gA = Snap a.gA ∧
  a_6.nl.length = (0 : Nat) ∧
  (a_6.i ≤ (50 : Nat) ∧
  a_6.i ≤ a.n ∧
  a_6.cs.length ≤ (4 : Nat) * a_6.i ∧
  StOk a.gA a_6) ∧
  True) ∧
  ∀ (a_6 : St), a_6.i ≤ (50 : Nat) ∧
  a_6.i ≤ a.n ∧
  a_6.cs.length ≤ (4 : Nat) * a_6.i ∧
  StOk a.gA a_6 →
  (Decidable.decide ((↑a_6.i : Int) < (↑a.n : Int)) = Bool.true →
  (Decidable.decide ((↑a_6.i : Int) < (50 : Int)) = Bool.true →
  ((0 : Int) ≤ (↑a_6.i : Int) ∧
  (↑a_6.i : Int) < (↑a.n : Int)) ∧
  (0 : Nat) + (↑a_6.i : Int).toNat < a.n ∧
  ∃ (g : Pool), ∃ (n : Nat), ∃ (cap : Nat), ∃ (rows : Nat →
  Nat →
  Value), Snap a.gA = Snap g ∧
  IsSl g (a.rows ((0 : Nat) + (↑a_6.i : Int).toNat) (2 : Nat)) [CK.int IntKind.i64, CK.int IntKind.i64, CK.int IntKind.i64, CK.int IntKind.i64, CK.int IntKind.i64, CK.int IntKind.i64, CK.int IntKind.i64, CK.int IntKind.i64, CK.int IntKind.i64, CK.str, CK.int IntKind.i64, CK.bool, CK.str, CK.str, CK.int IntKind.i64, CK.bool, CK.deep, CK.deep, CK.deep, CK.int IntKind.i64, CK.deep] n cap rows ∧
  (InR IntKind.i64 (toI (a.rows ((0 : Nat) + (↑a_6.i : Int).toNat) (1 : Nat))) →
  (Decidable.decide ((0 : Int) ≤ toI (a.rows ((0 : Nat) + (↑a_6.i : Int).toNat) (1 : Nat))) = Bool.true →
  InR IntKind.i64 (toI (a.rows ((0 : Nat) + (↑a_6.i : Int).toNat) (1 : Nat))) →
  ∃ (a_13 : Bool), Decidable.decide (toI (a.rows ((0 : Nat) + (↑a_6.i : Int).toNat) (1 : Nat)) < (↑a_6.l.length : Int)) = a_13 ∧
  (0 : Nat) = (0 : Nat) ∧
  Decidable.decide ((↑a_6.i : Int) < (50 : Int)) = Decidable.decide ((↑a_6.i : Int) < (50 : Int)) ∧
  (↑a_6.i : Int) = (↑a_6.i : Int) ∧
  ((0 : Nat) = (0 : Nat) ∧
  a_6.l.length = a_6.l.length ∧
  a_6.lcap = a_6.lcap) ∧
  (0 : Nat) = (0 : Nat) ∧
  Bool.false = Bool.false ∧
  Bool.true = Bool.true ∧
  Bool.false = Bool.false ∧
  ((0 : Nat) = (0 : Nat) ∧
  a.n = a.n ∧
  a.cap = a.cap) ∧
  toI (a.rows ((0 : Nat) + (↑a_6.i : Int).toNat) (0 : Nat)) = toI (a.rows ((0 : Nat) + (↑a_6.i : Int).toNat) (0 : Nat)) ∧
  toI (a.rows ((0 : Nat) + (↑a_6.i : Int).toNat) (1 : Nat)) = toI (a.rows ((0 : Nat) + (↑a_6.i : Int).toNat) (1 : Nat)) ∧
  ((0 : Nat) = (0 : Nat) ∧
  n = n ∧
  cap = cap) ∧
  Snap a_6.g = Snap a_6.g ∧
  (a_6.l.length ≤ a_6.l.length ∧
  RowsEq a_6.l.length (21 : Nat) (encRows encRM a_6.l) (encRows encRM a_6.l)) ∧
  ((0 : Nat) = (0 : Nat) ∧
  a_6.nl.length = a_6.nl.length ∧
  a_6.ncap = a_6.ncap) ∧
  (a.n ≤ a.n ∧
  RowsEq a.n (3 : Nat) a.rows a.rows) ∧
  Snap a.gA = Snap a.gA ∧
  (n ≤ n ∧
  RowsEq n (21 : Nat) rows rows) ∧
  (a_6.nl.length ≤ a_6.nl.length ∧
  RowsEq a_6.nl.length (21 : Nat) (encRows encRM a_6.nl) (encRows encRM a_6.nl)) ∧
  a_13 = lookB a_6.l (ix a a_6) ∧
  True) ∧
  (Decidable.decide ((0 : Int) ≤ toI (a.rows ((0 : Nat) + (↑a_6.i : Int).toNat) (1 : Nat))) = Bool.false →
  ∃ (a_12 : Bool), Bool.false = a_12 ∧
  (0 : Nat) = (0 : Nat) ∧
  Decidable.decide ((↑a_6.i : Int) < (50 : Int)) = Decidable.decide ((↑a_6.i : Int) < (50 : Int)) ∧
  (↑a_6.i : Int) = (↑a_6.i : Int) ∧
  ((0 : Nat) = (0 : Nat) ∧
  a_6.l.length = a_6.l.length ∧
  a_6.lcap = a_6.lcap) ∧
  (0 : Nat) = (0 : Nat) ∧
  Bool.false = Bool.false ∧
  Bool.true = Bool.true ∧
  Bool.false = Bool.false ∧
  ((0 : Nat) = (0 : Nat) ∧
  a.n = a.n ∧
  a.cap = a.cap) ∧
  toI (a.rows ((0 : Nat) + (↑a_6.i : Int).toNat) (0 : Nat)) = toI (a.rows ((0 : Nat) + (↑a_6.i : Int).toNat) (0 : Nat)) ∧
  toI (a.rows ((0 : Nat) + (↑a_6.i : Int).toNat) (1 : Nat)) = toI (a.rows ((0 : Nat) + (↑a_6.i : Int).toNat) (1 : Nat)) ∧
  ((0 : Nat) = (0 : Nat) ∧
  n = n ∧
  cap = cap) ∧
  Snap a_6.g = Snap a_6.g ∧
  (a_6.l.length ≤ a_6.l.length ∧
  RowsEq a_6.l.length (21 : Nat) (encRows encRM a_6.l) (encRows encRM a_6.l)) ∧
  ((0 : Nat) = (0 : Nat) ∧
  a_6.nl.length = a_6.nl.length ∧
  a_6.ncap = a_6.ncap) ∧
  (a.n ≤ a.n ∧
  RowsEq a.n (3 : Nat) a.rows a.rows) ∧
  Snap a.gA = Snap a.gA ∧
  (n ≤ n ∧
  RowsEq n (21 : Nat) rows rows) ∧
  (a_6.nl.length ≤ a_6.nl.length ∧
  RowsEq a_6.nl.length (21 : Nat) (encRows encRM a_6.nl) (encRows encRM a_6.nl)) ∧
  a_12 = lookB a_6.l (ix a a_6) ∧
  True)) ∧
  ∀ (a_10 : Bool), a_10 = lookB a_6.l (ix a a_6) →
  (InR IntKind.i64 (toI (a.rows ((0 : Nat) + (↑a_6.i : Int).toNat) (0 : Nat))) →
  ((toI (a.rows ((0 : Nat) + (↑a_6.i : Int).toNat) (0 : Nat)) == (0 : Int)) = Bool.true →
  ((∃ (a_14 : In), (0 : Int) = (↑a_14.j : Int) ∧
  (0 : Int) = (↑a_14.k : Int) ∧
  ((0 : Nat) = a_14.ms.length ∧
  (0 : Nat) = a_14.mcap) ∧
  ((0 : Nat) = (0 : Nat) ∧
  a_6.l.length = a_14.l.length ∧
  a_6.lcap = a_14.lcap) ∧
  (toI (a.rows ((0 : Nat) + (↑a_6.i : Int).toNat) (0 : Nat)) == (0 : Int)) = (toI (a.rows ((0 : Nat) + (↑a_6.i : Int).toNat) (0 : Nat)) == (0 : Int)) ∧
  toI (a.rows ((0 : Nat) + (↑a_6.i : Int).toNat) (0 : Nat)) = toI (a.rows ((0 : Nat) + (↑a_6.i : Int).toNat) (0 : Nat)) ∧
  a_10 = a_10 ∧
  (0 : Nat) = (0 : Nat) ∧
  Decidable.decide ((↑a_6.i : Int) < (50 : Int)) = Decidable.decide ((↑a_6.i : Int) < (50 : Int)) ∧
  (↑a_6.i : Int) = (↑a_6.i : Int) ∧
  (0 : Nat) = (0 : Nat) ∧
  Bool.false = Bool.false ∧
  Bool.true = Bool.true ∧
  Bool.false = Bool.false ∧
  ((0 : Nat) = (0 : Nat) ∧
  a.n = a.n ∧
  a.cap = a.cap) ∧
  Snap a_6.g = Snap a_14.g ∧
  a_14.ms.length = (0 : Nat) ∧
  (a_14.l.length ≤ a_6.l.length ∧
  RowsEq a_14.l.length (21 : Nat) (encRows encRM a_6.l) (encRows encRM a_14.l)) ∧
  toI (a.rows ((0 : Nat) + (↑a_6.i : Int).toNat) (0 : Nat)) = toI (a.rows ((0 : Nat) + (↑a_6.i : Int).toNat) (0 : Nat)) ∧
  toI (a.rows ((0 : Nat) + (↑a_6.i : Int).toNat) (1 : Nat)) = toI (a.rows ((0 : Nat) + (↑a_6.i : Int).toNat) (1 : Nat)) ∧
  ((0 : Nat) = (0 : Nat) ∧
  n = n ∧
  cap = cap) ∧
  ((0 : Nat) = (0 : Nat) ∧
  a_6.nl.length = a_6.nl.length ∧
  a_6.ncap = a_6.ncap) ∧
  (a.n ≤ a.n ∧
  RowsEq a.n (3 : Nat) a.rows a.rows) ∧
  Snap a.gA = Snap a.gA ∧
  (n ≤ n ∧
  RowsEq n (21 : Nat) rows rows) ∧
  (a_6.nl.length ≤ a_6.nl.length ∧
  RowsEq a_6.nl.length (21 : Nat) (encRows encRM a_6.nl) (encRows encRM a_6.nl)) ∧
  InOk a.gA a_6 a_14 ∧
  True) ∧
  ∀ (a_14 : In), InOk a.gA a_6 a_14 →
  (Decidable.decide ((↑a_14.j : Int) < (↑n : Int)) = Bool.true →
  (Decidable.decide ((↑a_14.j : Int) < (4 : Int)) = Bool.true →
  ((0 : Int) ≤ (↑a_14.j : Int) ∧
  (↑a_14.j : Int) < (↑n : Int)) ∧
  (0 : Nat) + (↑a_14.j : Int).toNat < n ∧
  ∃ (a_18 : ValA), toI (rows ((0 : Nat) + (↑a_14.j : Int).toNat) (0 : Nat)) = a_18.a.m.k ∧
  toI (rows ((0 : Nat) + (↑a_14.j : Int).toNat) (1 : Nat)) = a_18.a.m.f ∧
  toI (rows ((0 : Nat) + (↑a_14.j : Int).toNat) (2 : Nat)) = a_18.a.m.t ∧
  toI (rows ((0 : Nat) + (↑a_14.j : Int).toNat) (3 : Nat)) = a_18.a.m.ep ∧
  toI (rows ((0 : Nat) + (↑a_14.j : Int).toNat) (4 : Nat)) = a_18.a.m.ti ∧
  toI (rows ((0 : Nat) + (↑a_14.j : Int).toNat) (5 : Nat)) = a_18.a.m.sq ∧
  toI (rows ((0 : Nat) + (↑a_14.j : Int).toNat) (6 : Nat)) = a_18.a.m.n ∧
  toI (rows ((0 : Nat) + (↑a_14.j : Int).toNat) (7 : Nat)) = a_18.a.m.id ∧
  toI (rows ((0 : Nat) + (↑a_14.j : Int).toNat) (8 : Nat)) = a_18.a.m.op ∧
  toS (rows ((0 : Nat) + (↑a_14.j : Int).toNat) (9 : Nat)) = a_18.a.m.key ∧
  toI (rows ((0 : Nat) + (↑a_14.j : Int).toNat) (10 : Nat)) = a_18.a.m.err ∧
  toB (rows ((0 : Nat) + (↑a_14.j : Int).toNat) (11 : Nat)) = a_18.a.m.last ∧
  toS (rows ((0 : Nat) + (↑a_14.j : Int).toNat) (12 : Nat)) = a_18.a.m.it.key ∧
  toS (rows ((0 : Nat) + (↑a_14.j : Int).toNat) (13 : Nat)) = a_18.a.m.it.val ∧
  toI (rows ((0 : Nat) + (↑a_14.j : Int).toNat) (14 : Nat)) = a_18.a.m.it.en ∧
  toB (rows ((0 : Nat) + (↑a_14.j : Int).toNat) (15 : Nat)) = a_18.a.m.it.gone ∧
  rows ((0 : Nat) + (↑a_14.j : Int).toNat) (16 : Nat) = a_18.v.i ∧
  rows ((0 : Nat) + (↑a_14.j : Int).toNat) (17 : Nat) = a_18.v.m ∧
  rows ((0 : Nat) + (↑a_14.j : Int).toNat) (18 : Nat) = a_18.v.n ∧
  toI (rows ((0 : Nat) + (↑a_14.j : Int).toNat) (19 : Nat)) = a_18.a.m.base ∧
  rows ((0 : Nat) + (↑a_14.j : Int).toNat) (20 : Nat) = a_18.v.o ∧
  Snap a_14.g = Snap a_18.gO ∧
  Snap a.gA = Snap a_18.gA ∧
  Has a_18.gO a_18.gA a_18.v a_18.a ∧
  ∀ (b : CutB), a_18.gO.Ext b.g ∧
  Has b.g a_18.gA b.v (cutA a_18.a b.b1 b.b2) →
  (0 : Nat) + a_14.ms.length ≤ a_14.ms.length ∧
  (1 : Nat) ≤ (1 : Nat) ∧
  (a_14.ms.length + (1 : Nat)) * (256 : Nat) ≤ (140737488355328 : Nat) ∧
  ∀ (cap_1 : Nat), a_14.ms.length + (1 : Nat) ≤ cap_1 →
  cap_1 ≤ lenMax →
  (a_14.ms.length + (1 : Nat) ≤ a_14.mcap →
  cap_1 = a_14.mcap) →
  ∃ (a_23 : ValA), (cutMR a_18.a.m).k = a_23.a.m.k ∧
  (cutMR a_18.a.m).f = a_23.a.m.f ∧
  (cutMR a_18.a.m).t = a_23.a.m.t ∧
  (cutMR a_18.a.m).ep = a_23.a.m.ep ∧
  (cutMR a_18.a.m).ti = a_23.a.m.ti ∧
  (cutMR a_18.a.m).sq = a_23.a.m.sq ∧
  (cutMR a_18.a.m).n = a_23.a.m.n ∧
  (cutMR a_18.a.m).id = a_23.a.m.id ∧
  (cutMR a_18.a.m).op = a_23.a.m.op ∧
  (cutMR a_18.a.m).key = a_23.a.m.key ∧
  (cutMR a_18.a.m).err = a_23.a.m.err ∧
  (cutMR a_18.a.m).last = a_23.a.m.last ∧
  (cutMR a_18.a.m).it.key = a_23.a.m.it.key ∧
  (cutMR a_18.a.m).it.val = a_23.a.m.it.val ∧
  (cutMR a_18.a.m).it.en = a_23.a.m.it.en ∧
  (cutMR a_18.a.m).it.gone = a_23.a.m.it.gone ∧
  b.v.i = a_23.v.i ∧
  b.v.m = a_23.v.m ∧
  b.v.n = a_23.v.n ∧
  (cutMR a_18.a.m).base = a_23.a.m.base ∧
  b.v.o = a_23.v.o ∧
  Snap b.g = Snap a_23.gO ∧
  Snap a.gA = Snap a_23.gA ∧
  ((a_23.a.nl.length < (100000 : Nat) ∧
  a_23.a.ol.length < (100000 : Nat)) ∧
  Has a_23.gO a_23.gA a_23.v a_23.a) ∧
  ∀ (b_1 : Bool), (b_1 = Bool.true ↔ okMR a_23.a) →
  (b_1 = Bool.true →
  (0 : Nat) + a_14.l.length ≤ a_14.l.length ∧
  (1 : Nat) ≤ (1 : Nat) ∧
  (a_14.l.length + (1 : Nat)) * (256 : Nat) ≤ (140737488355328 : Nat) ∧
  ∀ (cap_2 : Nat), a_14.l.length + (1 : Nat) ≤ cap_2 →
  cap_2 ≤ lenMax →
  (a_14.l.length + (1 : Nat) ≤ a_14.lcap →
  cap_2 = a_14.lcap) →
  InR IntKind.i64 ((↑a_14.k : Int) + (1 : Int)) ∧
  InR IntKind.i64 ((↑a_14.j : Int) + (1 : Int)) ∧
  ∃ (a' : In), (↑a_14.j : Int) + (1 : Int) = (↑a'.j : Int) ∧
  (↑a_14.k : Int) + (1 : Int) = (↑a'.k : Int) ∧
  ((0 : Nat) = (0 : Nat) ∧
  a_14.ms.length + (1 : Nat) = a'.ms.length ∧
  cap_1 = a'.mcap) ∧
  ((0 : Nat) = (0 : Nat) ∧
  a_14.l.length + (1 : Nat) = a'.l.length ∧
  cap_2 = a'.lcap) ∧
  (toI (a.rows ((0 : Nat) + (↑a_6.i : Int).toNat) (0 : Nat)) == (0 : Int)) = (toI (a.rows ((0 : Nat) + (↑a_6.i : Int).toNat) (0 : Nat)) == (0 : Int)) ∧
  toI (a.rows ((0 : Nat) + (↑a_6.i : Int).toNat) (0 : Nat)) = toI (a.rows ((0 : Nat) + (↑a_6.i : Int).toNat) (0 : Nat)) ∧
  a_10 = a_10 ∧
  (0 : Nat) = (0 : Nat) ∧
  Decidable.decide ((↑a_6.i : Int) < (50 : Int)) = Decidable.decide ((↑a_6.i : Int) < (50 : Int)) ∧
  (↑a_6.i : Int) = (↑a_6.i : Int) ∧
  (0 : Nat) = (0 : Nat) ∧
  Bool.false = Bool.false ∧
  Bool.true = Bool.true ∧
  Bool.false = Bool.false ∧
  ((0 : Nat) = (0 : Nat) ∧
  a.n = a.n ∧
  a.cap = a.cap) ∧
  Snap a_23.gO = Snap a'.g ∧
  (a'.ms.length ≤ a_14.ms.length + (1 : Nat) ∧
  RowsEq a'.ms.length (21 : Nat) (appRows (encRows encRM a_14.ms) (0 : Nat) a_14.ms.length fun (i j : Nat) => flatRows (21 : Nat) [Value.int IntKind.i64 (cutMR a_18.a.m).k, Value.int IntKind.i64 (cutMR a_18.a.m).f, Value.int IntKind.i64 (cutMR a_18.a.m).t, Value.int IntKind.i64 (cutMR a_18.a.m).ep, Value.int IntKind.i64 (cutMR a_18.a.m).ti, Value.int IntKind.i64 (cutMR a_18.a.m).sq, Value.int IntKind.i64 (cutMR a_18.a.m).n, Value.int IntKind.i64 (cutMR a_18.a.m).id, Value.int IntKind.i64 (cutMR a_18.a.m).op, Value.string (cutMR a_18.a.m).key, Value.int IntKind.i64 (cutMR a_18.a.m).err, Value.bool (cutMR a_18.a.m).last, Value.string (cutMR a_18.a.m).it.key, Value.string (cutMR a_18.a.m).it.val, Value.int IntKind.i64 (cutMR a_18.a.m).it.en, Value.bool (cutMR a_18.a.m).it.gone, b.v.i, b.v.m, b.v.n, Value.int IntKind.i64 (cutMR a_18.a.m).base, b.v.o] ((0 : Nat) + i) j) (encRows encRM a'.ms)) ∧
  (a'.l.length ≤ a_14.l.length + (1 : Nat) ∧
  RowsEq a'.l.length (21 : Nat) (appRows (encRows encRM a_14.l) (0 : Nat) a_14.l.length fun (i j : Nat) => flatRows (21 : Nat) [Value.int IntKind.i64 (cutMR a_18.a.m).k, Value.int IntKind.i64 (cutMR a_18.a.m).f, Value.int IntKind.i64 (cutMR a_18.a.m).t, Value.int IntKind.i64 (cutMR a_18.a.m).ep, Value.int IntKind.i64 (cutMR a_18.a.m).ti, Value.int IntKind.i64 (cutMR a_18.a.m).sq, Value.int IntKind.i64 (cutMR a_18.a.m).n, Value.int IntKind.i64 (cutMR a_18.a.m).id, Value.int IntKind.i64 (cutMR a_18.a.m).op, Value.string (cutMR a_18.a.m).key, Value.int IntKind.i64 (cutMR a_18.a.m).err, Value.bool (cutMR a_18.a.m).last, Value.string (cutMR a_18.a.m).it.key, Value.string (cutMR a_18.a.m).it.val, Value.int IntKind.i64 (cutMR a_18.a.m).it.en, Value.bool (cutMR a_18.a.m).it.gone, b.v.i, b.v.m, b.v.n, Value.int IntKind.i64 (cutMR a_18.a.m).base, b.v.o] ((0 : Nat) + i) j) (encRows encRM a'.l)) ∧
  toI (a.rows ((0 : Nat) + (↑a_6.i : Int).toNat) (0 : Nat)) = toI (a.rows ((0 : Nat) + (↑a_6.i : Int).toNat) (0 : Nat)) ∧
  toI (a.rows ((0 : Nat) + (↑a_6.i : Int).toNat) (1 : Nat)) = toI (a.rows ((0 : Nat) + (↑a_6.i : Int).toNat) (1 : Nat)) ∧
  ((0 : Nat) = (0 : Nat) ∧
  n = n ∧
  cap = cap) ∧
  ((0 : Nat) = (0 : Nat) ∧
  a_6.nl.length = a_6.nl.length ∧
  a_6.ncap = a_6.ncap) ∧
  (a.n ≤ a.n ∧
  RowsEq a.n (3 : Nat) a.rows a.rows) ∧
  Snap a.gA = Snap a.gA ∧
  (n ≤ n ∧
  RowsEq n (21 : Nat) rows rows) ∧
  (a_6.nl.length ≤ a_6.nl.length ∧
  RowsEq a_6.nl.length (21 : Nat) (encRows encRM a_6.nl) (encRows encRM a_6.nl)) ∧
  InOk a.gA a_6 a' ∧
  (4 : Nat) - a'.j < (4 : Nat) - a_14.j) ∧
  (b_1 = Bool.false →
  InR IntKind.i64 ((↑a_14.j : Int) + (1 : Int)) ∧
  ∃ (a' : In), (↑a_14.j : Int) + (1 : Int) = (↑a'.j : Int) ∧
  (↑a_14.k : Int) = (↑a'.k : Int) ∧
  ((0 : Nat) = (0 : Nat) ∧
  a_14.ms.length + (1 : Nat) = a'.ms.length ∧
  cap_1 = a'.mcap) ∧
  ((0 : Nat) = (0 : Nat) ∧
  a_14.l.length = a'.l.length ∧
  a_14.lcap = a'.lcap) ∧
  (toI (a.rows ((0 : Nat) + (↑a_6.i : Int).toNat) (0 : Nat)) == (0 : Int)) = (toI (a.rows ((0 : Nat) + (↑a_6.i : Int).toNat) (0 : Nat)) == (0 : Int)) ∧
  toI (a.rows ((0 : Nat) + (↑a_6.i : Int).toNat) (0 : Nat)) = toI (a.rows ((0 : Nat) + (↑a_6.i : Int).toNat) (0 : Nat)) ∧
  a_10 = a_10 ∧
  (0 : Nat) = (0 : Nat) ∧
  Decidable.decide ((↑a_6.i : Int) < (50 : Int)) = Decidable.decide ((↑a_6.i : Int) < (50 : Int)) ∧
  (↑a_6.i : Int) = (↑a_6.i : Int) ∧
  (0 : Nat) = (0 : Nat) ∧
  Bool.false = Bool.false ∧
  Bool.true = Bool.true ∧
  Bool.false = Bool.false ∧
  ((0 : Nat) = (0 : Nat) ∧
  a.n = a.n ∧
  a.cap = a.cap) ∧
  Snap a_23.gO = Snap a'.g ∧
  (a'.ms.length ≤ a_14.ms.length + (1 : Nat) ∧
  RowsEq a'.ms.length (21 : Nat) (appRows (encRows encRM a_14.ms) (0 : Nat) a_14.ms.length fun (i j : Nat) => flatRows (21 : Nat) [Value.int IntKind.i64 (cutMR a_18.a.m).k, Value.int IntKind.i64 (cutMR a_18.a.m).f, Value.int IntKind.i64 (cutMR a_18.a.m).t, Value.int IntKind.i64 (cutMR a_18.a.m).ep, Value.int IntKind.i64 (cutMR a_18.a.m).ti, Value.int IntKind.i64 (cutMR a_18.a.m).sq, Value.int IntKind.i64 (cutMR a_18.a.m).n, Value.int IntKind.i64 (cutMR a_18.a.m).id, Value.int IntKind.i64 (cutMR a_18.a.m).op, Value.string (cutMR a_18.a.m).key, Value.int IntKind.i64 (cutMR a_18.a.m).err, Value.bool (cutMR a_18.a.m).last, Value.string (cutMR a_18.a.m).it.key, Value.string (cutMR a_18.a.m).it.val, Value.int IntKind.i64 (cutMR a_18.a.m).it.en, Value.bool (cutMR a_18.a.m).it.gone, b.v.i, b.v.m, b.v.n, Value.int IntKind.i64 (cutMR a_18.a.m).base, b.v.o] ((0 : Nat) + i) j) (encRows encRM a'.ms)) ∧
  (a'.l.length ≤ a_14.l.length ∧
  RowsEq a'.l.length (21 : Nat) (encRows encRM a_14.l) (encRows encRM a'.l)) ∧
  toI (a.rows ((0 : Nat) + (↑a_6.i : Int).toNat) (0 : Nat)) = toI (a.rows ((0 : Nat) + (↑a_6.i : Int).toNat) (0 : Nat)) ∧
  toI (a.rows ((0 : Nat) + (↑a_6.i : Int).toNat) (1 : Nat)) = toI (a.rows ((0 : Nat) + (↑a_6.i : Int).toNat) (1 : Nat)) ∧
  ((0 : Nat) = (0 : Nat) ∧
  n = n ∧
  cap = cap) ∧
  ((0 : Nat) = (0 : Nat) ∧
  a_6.nl.length = a_6.nl.length ∧
  a_6.ncap = a_6.ncap) ∧
  (a.n ≤ a.n ∧
  RowsEq a.n (3 : Nat) a.rows a.rows) ∧
  Snap a.gA = Snap a.gA ∧
  (n ≤ n ∧
  RowsEq n (21 : Nat) rows rows) ∧
  (a_6.nl.length ≤ a_6.nl.length ∧
  RowsEq a_6.nl.length (21 : Nat) (encRows encRM a_6.nl) (encRows encRM a_6.nl)) ∧
  InOk a.gA a_6 a' ∧
  (4 : Nat) - a'.j < (4 : Nat) - a_14.j)) ∧
  (Decidable.decide ((↑a_14.j : Int) < (4 : Int)) = Bool.false →
  ∃ (a_18 : In), (↑a_14.j : Int) = (↑a_18.j : Int) ∧
  (↑a_14.k : Int) = (↑a_18.k : Int) ∧
  ((0 : Nat) = (0 : Nat) ∧
  a_14.ms.length = a_18.ms.length ∧
  a_14.mcap = a_18.mcap) ∧
  ((0 : Nat) = (0 : Nat) ∧
  a_14.l.length = a_18.l.length ∧
  a_14.lcap = a_18.lcap) ∧
  (toI (a.rows ((0 : Nat) + (↑a_6.i : Int).toNat) (0 : Nat)) == (0 : Int)) = (toI (a.rows ((0 : Nat) + (↑a_6.i : Int).toNat) (0 : Nat)) == (0 : Int)) ∧
  toI (a.rows ((0 : Nat) + (↑a_6.i : Int).toNat) (0 : Nat)) = toI (a.rows ((0 : Nat) + (↑a_6.i : Int).toNat) (0 : Nat)) ∧
  a_10 = a_10 ∧
  (0 : Nat) = (0 : Nat) ∧
  Decidable.decide ((↑a_6.i : Int) < (50 : Int)) = Decidable.decide ((↑a_6.i : Int) < (50 : Int)) ∧
  (↑a_6.i : Int) = (↑a_6.i : Int) ∧
  (0 : Nat) = (0 : Nat) ∧
  Bool.false = Bool.false ∧
  Bool.true = Bool.true ∧
  Bool.false = Bool.false ∧
  ((0 : Nat) = (0 : Nat) ∧
  a.n = a.n ∧
  a.cap = a.cap) ∧
  Snap a_14.g = Snap a_18.g ∧
  (a_18.ms.length ≤ a_14.ms.length ∧
  RowsEq a_18.ms.length (21 : Nat) (encRows encRM a_14.ms) (encRows encRM a_18.ms)) ∧
  (a_18.l.length ≤ a_14.l.length ∧
  RowsEq a_18.l.length (21 : Nat) (encRows encRM a_14.l) (encRows encRM a_18.l)) ∧
  toI (a.rows ((0 : Nat) + (↑a_6.i : Int).toNat) (0 : Nat)) = toI (a.rows ((0 : Nat) + (↑a_6.i : Int).toNat) (0 : Nat)) ∧
  toI (a.rows ((0 : Nat) + (↑a_6.i : Int).toNat) (1 : Nat)) = toI (a.rows ((0 : Nat) + (↑a_6.i : Int).toNat) (1 : Nat)) ∧
  ((0 : Nat) = (0 : Nat) ∧
  n = n ∧
  cap = cap) ∧
  ((0 : Nat) = (0 : Nat) ∧
  a_6.nl.length = a_6.nl.length ∧
  a_6.ncap = a_6.ncap) ∧
  (a.n ≤ a.n ∧
  RowsEq a.n (3 : Nat) a.rows a.rows) ∧
  Snap a.gA = Snap a.gA ∧
  (n ≤ n ∧
  RowsEq n (21 : Nat) rows rows) ∧
  (a_6.nl.length ≤ a_6.nl.length ∧
  RowsEq a_6.nl.length (21 : Nat) (encRows encRM a_6.nl) (encRows encRM a_6.nl)) ∧
  InOk a.gA a_6 a_18 ∧
  True)) ∧
  (Decidable.decide ((↑a_14.j : Int) < (↑n : Int)) = Bool.false →
  ∃ (a_17 : In), (↑a_14.j : Int) = (↑a_17.j : Int) ∧
  (↑a_14.k : Int) = (↑a_17.k : Int) ∧
  ((0 : Nat) = (0 : Nat) ∧
  a_14.ms.length = a_17.ms.length ∧
  a_14.mcap = a_17.mcap) ∧
  ((0 : Nat) = (0 : Nat) ∧
  a_14.l.length = a_17.l.length ∧
  a_14.lcap = a_17.lcap) ∧
  (toI (a.rows ((0 : Nat) + (↑a_6.i : Int).toNat) (0 : Nat)) == (0 : Int)) = (toI (a.rows ((0 : Nat) + (↑a_6.i : Int).toNat) (0 : Nat)) == (0 : Int)) ∧
  toI (a.rows ((0 : Nat) + (↑a_6.i : Int).toNat) (0 : Nat)) = toI (a.rows ((0 : Nat) + (↑a_6.i : Int).toNat) (0 : Nat)) ∧
  a_10 = a_10 ∧
  (0 : Nat) = (0 : Nat) ∧
  Decidable.decide ((↑a_6.i : Int) < (50 : Int)) = Decidable.decide ((↑a_6.i : Int) < (50 : Int)) ∧
  (↑a_6.i : Int) = (↑a_6.i : Int) ∧
  (0 : Nat) = (0 : Nat) ∧
  Bool.false = Bool.false ∧
  Bool.true = Bool.true ∧
  Bool.false = Bool.false ∧
  ((0 : Nat) = (0 : Nat) ∧
  a.n = a.n ∧
  a.cap = a.cap) ∧
  Snap a_14.g = Snap a_17.g ∧
  (a_17.ms.length ≤ a_14.ms.length ∧
  RowsEq a_17.ms.length (21 : Nat) (encRows encRM a_14.ms) (encRows encRM a_17.ms)) ∧
  (a_17.l.length ≤ a_14.l.length ∧
  RowsEq a_17.l.length (21 : Nat) (encRows encRM a_14.l) (encRows encRM a_17.l)) ∧
  toI (a.rows ((0 : Nat) + (↑a_6.i : Int).toNat) (0 : Nat)) = toI (a.rows ((0 : Nat) + (↑a_6.i : Int).toNat) (0 : Nat)) ∧
  toI (a.rows ((0 : Nat) + (↑a_6.i : Int).toNat) (1 : Nat)) = toI (a.rows ((0 : Nat) + (↑a_6.i : Int).toNat) (1 : Nat)) ∧
  ((0 : Nat) = (0 : Nat) ∧
  n = n ∧
  cap = cap) ∧
  ((0 : Nat) = (0 : Nat) ∧
  a_6.nl.length = a_6.nl.length ∧
  a_6.ncap = a_6.ncap) ∧
  (a.n ≤ a.n ∧
  RowsEq a.n (3 : Nat) a.rows a.rows) ∧
  Snap a.gA = Snap a.gA ∧
  (n ≤ n ∧
  RowsEq n (21 : Nat) rows rows) ∧
  (a_6.nl.length ≤ a_6.nl.length ∧
  RowsEq a_6.nl.length (21 : Nat) (encRows encRM a_6.nl) (encRows encRM a_6.nl)) ∧
  InOk a.gA a_6 a_17 ∧
  True)) ∧
  ∀ (a_14 : In), InOk a.gA a_6 a_14 →
  ∃ (a_16 : SendA), (0 : Nat) = (0 : Nat) ∧
  ((0 : Nat) = (0 : Nat) ∧
  a_14.ms.length = a_16.ms.length ∧
  a_14.mcap = a_16.mcap) ∧
  ((0 : Nat) = (0 : Nat) ∧
  a_6.nl.length = a_16.l.length ∧
  a_6.ncap = a_16.cap) ∧
  (a_16.l.length ≤ a_6.nl.length ∧
  RowsEq a_16.l.length (21 : Nat) (encRows encRM a_6.nl) (encRows encRM a_16.l)) ∧
  Snap a_14.g = Snap a_16.gO ∧
  (a_16.ms.length ≤ a_14.ms.length ∧
  RowsEq a_16.ms.length (21 : Nat) (encRows encRM a_14.ms) (encRows encRM a_16.ms)) ∧
  Snap a.gA = Snap a_16.gA ∧
  (a_16.l.length + a_16.ms.length ≤ (300 : Nat) ∧
  a_16.l.length ≤ a_16.cap ∧
  Likes a_16.gO a_16.gA a_16.ms a_16.cs ∧
  allLens a_16.cs) ∧
  ∀ (b : SendB), a_16.gO.Ext b.g ∧
  Likes b.g a_16.gA b.new (List.filter mayB a_16.cs) ∧
  (a_16.l ++ b.new).length ≤ b.cap →
  (((↑b.new.length : Int) != (↑a_14.k : Int)) = Bool.true →
  ∃ (b : Unit), Bool.false = Bool.true ∧
  True ∧
  True) ∧
  (((↑b.new.length : Int) != (↑a_14.k : Int)) = Bool.false →
  ∃ (a_19 : St), ((0 : Nat) = (0 : Nat) ∧
  a_14.l.length = a_19.l.length ∧
  a_14.lcap = a_19.lcap) ∧
  a_10 = a_10 ∧
  (0 : Nat) = (0 : Nat) ∧
  Decidable.decide ((↑a_6.i : Int) < (50 : Int)) = Decidable.decide ((↑a_6.i : Int) < (50 : Int)) ∧
  (↑a_6.i : Int) = (↑a_6.i : Int) ∧
  (0 : Nat) = (0 : Nat) ∧
  Bool.false = Bool.false ∧
  Bool.true = Bool.true ∧
  Bool.false = Bool.false ∧
  ((0 : Nat) = (0 : Nat) ∧
  a.n = a.n ∧
  a.cap = a.cap) ∧
  Snap b.g = Snap a_19.g ∧
  (a_19.l.length ≤ a_14.l.length ∧
  RowsEq a_19.l.length (21 : Nat) (encRows encRM a_14.l) (encRows encRM a_19.l)) ∧
  toI (a.rows ((0 : Nat) + (↑a_6.i : Int).toNat) (0 : Nat)) = toI (a.rows ((0 : Nat) + (↑a_6.i : Int).toNat) (0 : Nat)) ∧
  toI (a.rows ((0 : Nat) + (↑a_6.i : Int).toNat) (1 : Nat)) = toI (a.rows ((0 : Nat) + (↑a_6.i : Int).toNat) (1 : Nat)) ∧
  ((0 : Nat) = (0 : Nat) ∧
  n = n ∧
  cap = cap) ∧
  ((0 : Nat) = (0 : Nat) ∧
  (a_16.l ++ b.new).length = a_19.nl.length ∧
  b.cap = a_19.ncap) ∧
  (a.n ≤ a.n ∧
  RowsEq a.n (3 : Nat) a.rows a.rows) ∧
  Snap a.gA = Snap a.gA ∧
  (a_19.nl.length ≤ (a_16.l ++ b.new).length ∧
  RowsEq a_19.nl.length (21 : Nat) (encRows encRM (a_16.l ++ b.new)) (encRows encRM a_19.nl)) ∧
  (n ≤ n ∧
  RowsEq n (21 : Nat) rows rows) ∧
  (a_19.cs.length ≤ (4 : Nat) * a_6.i + (4 : Nat) ∧
  StOk a.gA a_19) ∧
  True)) ∧
  ((toI (a.rows ((0 : Nat) + (↑a_6.i : Int).toNat) (0 : Nat)) == (0 : Int)) = Bool.false →
  ((toI (a.rows ((0 : Nat) + (↑a_6.i : Int).toNat) (0 : Nat)) == (1 : Int)) = Bool.true →
  ((toI (a.rows ((0 : Nat) + (↑a_6.i : Int).toNat) (0 : Nat)) == (1 : Int)) = Bool.true →
  InR IntKind.i64 (toI (a.rows ((0 : Nat) + (↑a_6.i : Int).toNat) (1 : Nat))) →
  ∃ (a_17 : LookA), (0 : Nat) = (0 : Nat) ∧
  toI (a.rows ((0 : Nat) + (↑a_6.i : Int).toNat) (1 : Nat)) = a_17.i ∧
  Snap a_6.g = Snap a_17.gO ∧
  ((0 : Nat) = (0 : Nat) ∧
  a_6.nl.length = a_17.l.length ∧
  a_6.ncap = a_17.cap) ∧
  (a_17.l.length ≤ a_6.nl.length ∧
  RowsEq a_17.l.length (21 : Nat) (encRows encRM a_6.nl) (encRows encRM a_17.l)) ∧
  Snap a.gA = Snap a_17.gA ∧
  (a_17.l.length ≤ (300 : Nat) ∧
  Likes a_17.gO a_17.gA a_17.l a_17.cs ∧
  allLens a_17.cs) ∧
  ∀ (b : LookB), looked a_17 b →
  (InR IntKind.i64 (toI (a.rows ((0 : Nat) + (↑a_6.i : Int).toNat) (0 : Nat))) →
  ((toI (a.rows ((0 : Nat) + (↑a_6.i : Int).toNat) (0 : Nat)) == (1 : Int)) = Bool.true →
  InR IntKind.i64 (toI (a.rows ((0 : Nat) + (↑a_6.i : Int).toNat) (1 : Nat))) →
  ∃ (a_22 : LookA), (0 : Nat) = (0 : Nat) ∧
  toI (a.rows ((0 : Nat) + (↑a_6.i : Int).toNat) (1 : Nat)) = a_22.i ∧
  ((0 : Nat) = (0 : Nat) ∧
  a_6.nl.length = a_22.l.length ∧
  a_6.ncap = a_22.cap) ∧
  (a_22.l.length ≤ a_6.nl.length ∧
  RowsEq a_22.l.length (21 : Nat) (encRows encRM a_6.nl) (encRows encRM a_22.l)) ∧
  Snap b.g = Snap a_22.gO ∧
  Snap a.gA = Snap a_22.gA ∧
  (a_22.l.length ≤ (300 : Nat) ∧
  a_22.l.length ≤ a_22.cap ∧
  Likes a_22.gO a_22.gA a_22.l a_22.cs ∧
  allLens a_22.cs) ∧
  ∀ (b : TakeB), looked a_22 b.b ∧
  (dropM a_22.l a_22.i).length ≤ b.cap →
  ∃ (a_24 : Mids), lookB a_22.l a_22.i = lookB a_17.l a_17.i ∧
  (0 : Nat) = (0 : Nat) ∧
  (toI (a.rows ((0 : Nat) + (↑a_6.i : Int).toNat) (0 : Nat)) == (1 : Int)) = (toI (a.rows ((0 : Nat) + (↑a_6.i : Int).toNat) (0 : Nat)) == (1 : Int)) ∧
  (toI (a.rows ((0 : Nat) + (↑a_6.i : Int).toNat) (0 : Nat)) == (0 : Int)) = (toI (a.rows ((0 : Nat) + (↑a_6.i : Int).toNat) (0 : Nat)) == (0 : Int)) ∧
  toI (a.rows ((0 : Nat) + (↑a_6.i : Int).toNat) (0 : Nat)) = toI (a.rows ((0 : Nat) + (↑a_6.i : Int).toNat) (0 : Nat)) ∧
  a_10 = a_10 ∧
  (0 : Nat) = (0 : Nat) ∧
  Decidable.decide ((↑a_6.i : Int) < (50 : Int)) = Decidable.decide ((↑a_6.i : Int) < (50 : Int)) ∧
  (↑a_6.i : Int) = (↑a_6.i : Int) ∧
  ((0 : Nat) = (0 : Nat) ∧
  a_6.l.length = a_6.l.length ∧
  a_6.lcap = a_6.lcap) ∧
  (0 : Nat) = (0 : Nat) ∧
  Bool.false = Bool.false ∧
  Bool.true = Bool.true ∧
  Bool.false = Bool.false ∧
  ((0 : Nat) = (0 : Nat) ∧
  a.n = a.n ∧
  a.cap = a.cap) ∧
  Snap b.b.g = Snap a_24.y.g ∧
  (lookM a_22.l a_22.i).k = (lookM a_6.nl (ix a a_6)).k ∧
  (lookM a_22.l a_22.i).f = (lookM a_6.nl (ix a a_6)).f ∧
  (lookM a_22.l a_22.i).t = (lookM a_6.nl (ix a a_6)).t ∧
  (lookM a_22.l a_22.i).ep = (lookM a_6.nl (ix a a_6)).ep ∧
  (lookM a_22.l a_22.i).ti = (lookM a_6.nl (ix a a_6)).ti ∧
  (lookM a_22.l a_22.i).sq = (lookM a_6.nl (ix a a_6)).sq ∧
  (lookM a_22.l a_22.i).n = (lookM a_6.nl (ix a a_6)).n ∧
  (lookM a_22.l a_22.i).id = (lookM a_6.nl (ix a a_6)).id ∧
  (lookM a_22.l a_22.i).op = (lookM a_6.nl (ix a a_6)).op ∧
  (lookM a_22.l a_22.i).key = (lookM a_6.nl (ix a a_6)).key ∧
  (lookM a_22.l a_22.i).err = (lookM a_6.nl (ix a a_6)).err ∧
  (lookM a_22.l a_22.i).last = (lookM a_6.nl (ix a a_6)).last ∧
  (lookM a_22.l a_22.i).it.key = (lookM a_6.nl (ix a a_6)).it.key ∧
  (lookM a_22.l a_22.i).it.val = (lookM a_6.nl (ix a a_6)).it.val ∧
  (lookM a_22.l a_22.i).it.en = (lookM a_6.nl (ix a a_6)).it.en ∧
  (lookM a_22.l a_22.i).it.gone = (lookM a_6.nl (ix a a_6)).it.gone ∧
  b.b.v.i = a_24.y.v.i ∧
  b.b.v.m = a_24.y.v.m ∧
  b.b.v.n = a_24.y.v.n ∧
  (lookM a_22.l a_22.i).base = (lookM a_6.nl (ix a a_6)).base ∧
  b.b.v.o = a_24.y.v.o ∧
  toI (a.rows ((0 : Nat) + (↑a_6.i : Int).toNat) (0 : Nat)) = toI (a.rows ((0 : Nat) + (↑a_6.i : Int).toNat) (0 : Nat)) ∧
  toI (a.rows ((0 : Nat) + (↑a_6.i : Int).toNat) (1 : Nat)) = toI (a.rows ((0 : Nat) + (↑a_6.i : Int).toNat) (1 : Nat)) ∧
  ((0 : Nat) = (0 : Nat) ∧
  n = n ∧
  cap = cap) ∧
  (a_6.l.length ≤ a_6.l.length ∧
  RowsEq a_6.l.length (21 : Nat) (encRows encRM a_6.l) (encRows encRM a_6.l)) ∧
  ((0 : Nat) = (0 : Nat) ∧
  (dropM a_22.l a_22.i).length = a_24.nl.length ∧
  b.cap = a_24.y.ncap) ∧
  (a.n ≤ a.n ∧
  RowsEq a.n (3 : Nat) a.rows a.rows) ∧
  Snap a.gA = Snap a.gA ∧
  (a_24.nl.length ≤ (dropM a_22.l a_22.i).length ∧
  RowsEq a_24.nl.length (21 : Nat) (encRows encRM (dropM a_22.l a_22.i)) (encRows encRM a_24.nl)) ∧
  (n ≤ n ∧
  RowsEq n (21 : Nat) rows rows) ∧
  ((a_24.nl = if kd a a_6 = (1 : Int) then dropM a_6.nl (ix a a_6) else a_6.nl) ∧
  MidOk a a_6 a_24.nl a_24.y) ∧
  True) ∧
  ((toI (a.rows ((0 : Nat) + (↑a_6.i : Int).toNat) (0 : Nat)) == (1 : Int)) = Bool.false →
  ∃ (a_21 : Mids), lookB a_17.l a_17.i = lookB a_17.l a_17.i ∧
  (0 : Nat) = (0 : Nat) ∧
  (toI (a.rows ((0 : Nat) + (↑a_6.i : Int).toNat) (0 : Nat)) == (1 : Int)) = (toI (a.rows ((0 : Nat) + (↑a_6.i : Int).toNat) (0 : Nat)) == (1 : Int)) ∧
  (toI (a.rows ((0 : Nat) + (↑a_6.i : Int).toNat) (0 : Nat)) == (0 : Int)) = (toI (a.rows ((0 : Nat) + (↑a_6.i : Int).toNat) (0 : Nat)) == (0 : Int)) ∧
  toI (a.rows ((0 : Nat) + (↑a_6.i : Int).toNat) (0 : Nat)) = toI (a.rows ((0 : Nat) + (↑a_6.i : Int).toNat) (0 : Nat)) ∧
  a_10 = a_10 ∧
  (0 : Nat) = (0 : Nat) ∧
  Decidable.decide ((↑a_6.i : Int) < (50 : Int)) = Decidable.decide ((↑a_6.i : Int) < (50 : Int)) ∧
  (↑a_6.i : Int) = (↑a_6.i : Int) ∧
  ((0 : Nat) = (0 : Nat) ∧
  a_6.l.length = a_6.l.length ∧
  a_6.lcap = a_6.lcap) ∧
  (0 : Nat) = (0 : Nat) ∧
  Bool.false = Bool.false ∧
  Bool.true = Bool.true ∧
  Bool.false = Bool.false ∧
  ((0 : Nat) = (0 : Nat) ∧
  a.n = a.n ∧
  a.cap = a.cap) ∧
  Snap b.g = Snap a_21.y.g ∧
  (lookM a_17.l a_17.i).k = (lookM a_6.nl (ix a a_6)).k ∧
  (lookM a_17.l a_17.i).f = (lookM a_6.nl (ix a a_6)).f ∧
  (lookM a_17.l a_17.i).t = (lookM a_6.nl (ix a a_6)).t ∧
  (lookM a_17.l a_17.i).ep = (lookM a_6.nl (ix a a_6)).ep ∧
  (lookM a_17.l a_17.i).ti = (lookM a_6.nl (ix a a_6)).ti ∧
  (lookM a_17.l a_17.i).sq = (lookM a_6.nl (ix a a_6)).sq ∧
  (lookM a_17.l a_17.i).n = (lookM a_6.nl (ix a a_6)).n ∧
  (lookM a_17.l a_17.i).id = (lookM a_6.nl (ix a a_6)).id ∧
  (lookM a_17.l a_17.i).op = (lookM a_6.nl (ix a a_6)).op ∧
  (lookM a_17.l a_17.i).key = (lookM a_6.nl (ix a a_6)).key ∧
  (lookM a_17.l a_17.i).err = (lookM a_6.nl (ix a a_6)).err ∧
  (lookM a_17.l a_17.i).last = (lookM a_6.nl (ix a a_6)).last ∧
  (lookM a_17.l a_17.i).it.key = (lookM a_6.nl (ix a a_6)).it.key ∧
  (lookM a_17.l a_17.i).it.val = (lookM a_6.nl (ix a a_6)).it.val ∧
  (lookM a_17.l a_17.i).it.en = (lookM a_6.nl (ix a a_6)).it.en ∧
  (lookM a_17.l a_17.i).it.gone = (lookM a_6.nl (ix a a_6)).it.gone ∧
  b.v.i = a_21.y.v.i ∧
  b.v.m = a_21.y.v.m ∧
  b.v.n = a_21.y.v.n ∧
  (lookM a_17.l a_17.i).base = (lookM a_6.nl (ix a a_6)).base ∧
  b.v.o = a_21.y.v.o ∧
  toI (a.rows ((0 : Nat) + (↑a_6.i : Int).toNat) (0 : Nat)) = toI (a.rows ((0 : Nat) + (↑a_6.i : Int).toNat) (0 : Nat)) ∧
  toI (a.rows ((0 : Nat) + (↑a_6.i : Int).toNat) (1 : Nat)) = toI (a.rows ((0 : Nat) + (↑a_6.i : Int).toNat) (1 : Nat)) ∧
  ((0 : Nat) = (0 : Nat) ∧
  n = n ∧
  cap = cap) ∧
  (a_6.l.length ≤ a_6.l.length ∧
  RowsEq a_6.l.length (21 : Nat) (encRows encRM a_6.l) (encRows encRM a_6.l)) ∧
  ((0 : Nat) = (0 : Nat) ∧
  a_6.nl.length = a_21.nl.length ∧
  a_6.ncap = a_21.y.ncap) ∧
  (a.n ≤ a.n ∧
  RowsEq a.n (3 : Nat) a.rows a.rows) ∧
  Snap a.gA = Snap a.gA ∧
  (a_21.nl.length ≤ a_6.nl.length ∧
  RowsEq a_21.nl.length (21 : Nat) (encRows encRM a_6.nl) (encRows encRM a_21.nl)) ∧
  (n ≤ n ∧
  RowsEq n (21 : Nat) rows rows) ∧
  ((a_21.nl = if kd a a_6 = (1 : Int) then dropM a_6.nl (ix a a_6) else a_6.nl) ∧
  MidOk a a_6 a_21.nl a_21.y) ∧
  True)) ∧
  ∀ (a_19 : Mids), (a_19.nl = if kd a a_6 = (1 : Int) then dropM a_6.nl (ix a a_6) else a_6.nl) ∧
  MidOk a a_6 a_19.nl a_19.y →
  ((!lookB a_17.l a_17.i == a_10) = Bool.true →
  ∃ (b : Unit), Bool.false = Bool.true ∧
  True ∧
  True) ∧
  ((!lookB a_17.l a_17.i == a_10) = Bool.false →
  (a_10 = Bool.true →
  InR IntKind.i64 (toI (a.rows ((0 : Nat) + (↑a_6.i : Int).toNat) (1 : Nat))) →
  ((0 : Int) ≤ toI (a.rows ((0 : Nat) + (↑a_6.i : Int).toNat) (1 : Nat)) ∧
  toI (a.rows ((0 : Nat) + (↑a_6.i : Int).toNat) (1 : Nat)) < (↑a_6.l.length : Int)) ∧
  (0 : Nat) + (toI (a.rows ((0 : Nat) + (↑a_6.i : Int).toNat) (1 : Nat))).toNat < a_6.l.length ∧
  ∃ (a_24 : EqVA), (lookM a_6.nl (ix a a_6)).k = a_24.a.m.k ∧
  (lookM a_6.nl (ix a a_6)).f = a_24.a.m.f ∧
  (lookM a_6.nl (ix a a_6)).t = a_24.a.m.t ∧
  (lookM a_6.nl (ix a a_6)).ep = a_24.a.m.ep ∧
  (lookM a_6.nl (ix a a_6)).ti = a_24.a.m.ti ∧
  (lookM a_6.nl (ix a a_6)).sq = a_24.a.m.sq ∧
  (lookM a_6.nl (ix a a_6)).n = a_24.a.m.n ∧
  (lookM a_6.nl (ix a a_6)).id = a_24.a.m.id ∧
  (lookM a_6.nl (ix a a_6)).op = a_24.a.m.op ∧
  (lookM a_6.nl (ix a a_6)).key = a_24.a.m.key ∧
  (lookM a_6.nl (ix a a_6)).err = a_24.a.m.err ∧
  (lookM a_6.nl (ix a a_6)).last = a_24.a.m.last ∧
  (lookM a_6.nl (ix a a_6)).it.key = a_24.a.m.it.key ∧
  (lookM a_6.nl (ix a a_6)).it.val = a_24.a.m.it.val ∧
  (lookM a_6.nl (ix a a_6)).it.en = a_24.a.m.it.en ∧
  (lookM a_6.nl (ix a a_6)).it.gone = a_24.a.m.it.gone ∧
  a_19.y.v.i = a_24.v.i ∧
  a_19.y.v.m = a_24.v.m ∧
  a_19.y.v.n = a_24.v.n ∧
  (lookM a_6.nl (ix a a_6)).base = a_24.a.m.base ∧
  a_19.y.v.o = a_24.v.o ∧
  (gl a_6.l ((0 : Nat) + (toI (a.rows ((0 : Nat) + (↑a_6.i : Int).toNat) (1 : Nat))).toNat)).m.k = a_24.a.m.k ∧
  (gl a_6.l ((0 : Nat) + (toI (a.rows ((0 : Nat) + (↑a_6.i : Int).toNat) (1 : Nat))).toNat)).m.f = a_24.a.m.f ∧
  (gl a_6.l ((0 : Nat) + (toI (a.rows ((0 : Nat) + (↑a_6.i : Int).toNat) (1 : Nat))).toNat)).m.t = a_24.a.m.t ∧
  (gl a_6.l ((0 : Nat) + (toI (a.rows ((0 : Nat) + (↑a_6.i : Int).toNat) (1 : Nat))).toNat)).m.ep = a_24.a.m.ep ∧
  (gl a_6.l ((0 : Nat) + (toI (a.rows ((0 : Nat) + (↑a_6.i : Int).toNat) (1 : Nat))).toNat)).m.ti = a_24.a.m.ti ∧
  (gl a_6.l ((0 : Nat) + (toI (a.rows ((0 : Nat) + (↑a_6.i : Int).toNat) (1 : Nat))).toNat)).m.sq = a_24.a.m.sq ∧
  (gl a_6.l ((0 : Nat) + (toI (a.rows ((0 : Nat) + (↑a_6.i : Int).toNat) (1 : Nat))).toNat)).m.n = a_24.a.m.n ∧
  (gl a_6.l ((0 : Nat) + (toI (a.rows ((0 : Nat) + (↑a_6.i : Int).toNat) (1 : Nat))).toNat)).m.id = a_24.a.m.id ∧
  (gl a_6.l ((0 : Nat) + (toI (a.rows ((0 : Nat) + (↑a_6.i : Int).toNat) (1 : Nat))).toNat)).m.op = a_24.a.m.op ∧
  (gl a_6.l ((0 : Nat) + (toI (a.rows ((0 : Nat) + (↑a_6.i : Int).toNat) (1 : Nat))).toNat)).m.key = a_24.a.m.key ∧
  (gl a_6.l ((0 : Nat) + (toI (a.rows ((0 : Nat) + (↑a_6.i : Int).toNat) (1 : Nat))).toNat)).m.err = a_24.a.m.err ∧
  (gl a_6.l ((0 : Nat) + (toI (a.rows ((0 : Nat) + (↑a_6.i : Int).toNat) (1 : Nat))).toNat)).m.last = a_24.a.m.last ∧
  (gl a_6.l ((0 : Nat) + (toI (a.rows ((0 : Nat) + (↑a_6.i : Int).toNat) (1 : Nat))).toNat)).m.it.key = a_24.a.m.it.key ∧
  (gl a_6.l ((0 : Nat) + (toI (a.rows ((0 : Nat) + (↑a_6.i : Int).toNat) (1 : Nat))).toNat)).m.it.val = a_24.a.m.it.val ∧
  (gl a_6.l ((0 : Nat) + (toI (a.rows ((0 : Nat) + (↑a_6.i : Int).toNat) (1 : Nat))).toNat)).m.it.en = a_24.a.m.it.en ∧
  (gl a_6.l ((0 : Nat) + (toI (a.rows ((0 : Nat) + (↑a_6.i : Int).toNat) (1 : Nat))).toNat)).m.it.gone = a_24.a.m.it.gone ∧
  encRows encRM a_6.l ((0 : Nat) + (toI (a.rows ((0 : Nat) + (↑a_6.i : Int).toNat) (1 : Nat))).toNat) (16 : Nat) = a_24.v2.i ∧
  encRows encRM a_6.l ((0 : Nat) + (toI (a.rows ((0 : Nat) + (↑a_6.i : Int).toNat) (1 : Nat))).toNat) (17 : Nat) = a_24.v2.m ∧
  encRows encRM a_6.l ((0 : Nat) + (toI (a.rows ((0 : Nat) + (↑a_6.i : Int).toNat) (1 : Nat))).toNat) (18 : Nat) = a_24.v2.n ∧
  (gl a_6.l ((0 : Nat) + (toI (a.rows ((0 : Nat) + (↑a_6.i : Int).toNat) (1 : Nat))).toNat)).m.base = a_24.a.m.base ∧
  encRows encRM a_6.l ((0 : Nat) + (toI (a.rows ((0 : Nat) + (↑a_6.i : Int).toNat) (1 : Nat))).toNat) (20 : Nat) = a_24.v2.o ∧
  Snap a_19.y.g = Snap a_24.gO ∧
  Snap a.gA = Snap a_24.gA ∧
  ((a_24.a.il.length < (100000 : Nat) ∧
  a_24.a.ml.length < (100000 : Nat) ∧
  a_24.a.nl.length < (100000 : Nat) ∧
  a_24.a.ol.length < (100000 : Nat)) ∧
  Has a_24.gO a_24.gA a_24.v a_24.a ∧
  Has a_24.gO a_24.gA a_24.v2 (a_24.a.caps a_24.c)) ∧
  ∀ (b : Unit), True →
  ((!a_10) = Bool.true →
  InR IntKind.i64 (lookM a_6.nl (ix a a_6)).k →
  (((lookM a_6.nl (ix a a_6)).k != (0 : Int)) = Bool.true →
  ∃ (b : Unit), Bool.false = Bool.true ∧
  True ∧
  True) ∧
  (((lookM a_6.nl (ix a a_6)).k != (0 : Int)) = Bool.false →
  (a_10 = Bool.true →
  InR IntKind.i64 (toI (a.rows ((0 : Nat) + (↑a_6.i : Int).toNat) (0 : Nat))) →
  ((toI (a.rows ((0 : Nat) + (↑a_6.i : Int).toNat) (0 : Nat)) == (1 : Int)) = Bool.true →
  InR IntKind.i64 (toI (a.rows ((0 : Nat) + (↑a_6.i : Int).toNat) (1 : Nat))) →
  InR IntKind.i64 (toI (a.rows ((0 : Nat) + (↑a_6.i : Int).toNat) (1 : Nat))) →
  ((0 : Int) ≤ toI (a.rows ((0 : Nat) + (↑a_6.i : Int).toNat) (1 : Nat)) ∧
  toI (a.rows ((0 : Nat) + (↑a_6.i : Int).toNat) (1 : Nat)) ≤ (↑a_6.lcap : Int)) ∧
  ((0 : Int) ≤ toI (a.rows ((0 : Nat) + (↑a_6.i : Int).toNat) (1 : Nat)) ∧
  toI (a.rows ((0 : Nat) + (↑a_6.i : Int).toNat) (1 : Nat)) ≤ (↑(toI (a.rows ((0 : Nat) + (↑a_6.i : Int).toNat) (1 : Nat))).toNat : Int)) ∧
  (InR IntKind.i64 (toI (a.rows ((0 : Nat) + (↑a_6.i : Int).toNat) (1 : Nat))) →
  InR IntKind.i64 (toI (a.rows ((0 : Nat) + (↑a_6.i : Int).toNat) (1 : Nat)) + (1 : Int)) ∧
  ((0 : Int) ≤ toI (a.rows ((0 : Nat) + (↑a_6.i : Int).toNat) (1 : Nat)) + (1 : Int) ∧
  toI (a.rows ((0 : Nat) + (↑a_6.i : Int).toNat) (1 : Nat)) + (1 : Int) ≤ (↑a_6.l.length : Int)) ∧
  (0 : Nat) + ((toI (a.rows ((0 : Nat) + (↑a_6.i : Int).toNat) (1 : Nat))).toNat - (0 : Nat)) ≤ a_6.l.length ∧
  (0 : Nat) + (toI (a.rows ((0 : Nat) + (↑a_6.i : Int).toNat) (1 : Nat)) + (1 : Int)).toNat + (a_6.l.length - (toI (a.rows ((0 : Nat) + (↑a_6.i : Int).toNat) (1 : Nat)) + (1 : Int)).toNat) ≤ a_6.l.length ∧
  ((toI (a.rows ((0 : Nat) + (↑a_6.i : Int).toNat) (1 : Nat))).toNat - (0 : Nat) + (a_6.l.length - (toI (a.rows ((0 : Nat) + (↑a_6.i : Int).toNat) (1 : Nat)) + (1 : Int)).toNat)) * (256 : Nat) ≤ (140737488355328 : Nat) ∧
  ∀ (cap_1 : Nat), (toI (a.rows ((0 : Nat) + (↑a_6.i : Int).toNat) (1 : Nat))).toNat - (0 : Nat) + (a_6.l.length - (toI (a.rows ((0 : Nat) + (↑a_6.i : Int).toNat) (1 : Nat)) + (1 : Int)).toNat) ≤ cap_1 →
  cap_1 ≤ lenMax →
  ((toI (a.rows ((0 : Nat) + (↑a_6.i : Int).toNat) (1 : Nat))).toNat - (0 : Nat) + (a_6.l.length - (toI (a.rows ((0 : Nat) + (↑a_6.i : Int).toNat) (1 : Nat)) + (1 : Int)).toNat) ≤ (toI (a.rows ((0 : Nat) + (↑a_6.i : Int).toNat) (1 : Nat))).toNat - (0 : Nat) →
  cap_1 = (toI (a.rows ((0 : Nat) + (↑a_6.i : Int).toNat) (1 : Nat))).toNat - (0 : Nat)) →
  ∃ (a_38 : St), ((0 : Nat) = (0 : Nat) ∧
  (toI (a.rows ((0 : Nat) + (↑a_6.i : Int).toNat) (1 : Nat))).toNat - (0 : Nat) + (a_6.l.length - (toI (a.rows ((0 : Nat) + (↑a_6.i : Int).toNat) (1 : Nat)) + (1 : Int)).toNat) = a_38.l.length ∧
  cap_1 = a_38.lcap) ∧
  a_10 = a_10 ∧
  (0 : Nat) = (0 : Nat) ∧
  Decidable.decide ((↑a_6.i : Int) < (50 : Int)) = Decidable.decide ((↑a_6.i : Int) < (50 : Int)) ∧
  (↑a_6.i : Int) = (↑a_6.i : Int) ∧
  (0 : Nat) = (0 : Nat) ∧
  Bool.false = Bool.false ∧
  Bool.true = Bool.true ∧
  Bool.false = Bool.false ∧
  ((0 : Nat) = (0 : Nat) ∧
  a.n = a.n ∧
  a.cap = a.cap) ∧
  Snap a_24.gO = Snap a_38.g ∧
  (a_38.l.length ≤ (toI (a.rows ((0 : Nat) + (↑a_6.i : Int).toNat) (1 : Nat))).toNat - (0 : Nat) + (a_6.l.length - (toI (a.rows ((0 : Nat) + (↑a_6.i : Int).toNat) (1 : Nat)) + (1 : Int)).toNat) ∧
  RowsEq a_38.l.length (21 : Nat) (appRows (encRows encRM a_6.l) (0 : Nat) ((toI (a.rows ((0 : Nat) + (↑a_6.i : Int).toNat) (1 : Nat))).toNat - (0 : Nat)) fun (i j : Nat) => encRows encRM a_6.l ((0 : Nat) + (toI (a.rows ((0 : Nat) + (↑a_6.i : Int).toNat) (1 : Nat)) + (1 : Int)).toNat + i) j) (encRows encRM a_38.l)) ∧
  toI (a.rows ((0 : Nat) + (↑a_6.i : Int).toNat) (0 : Nat)) = toI (a.rows ((0 : Nat) + (↑a_6.i : Int).toNat) (0 : Nat)) ∧
  toI (a.rows ((0 : Nat) + (↑a_6.i : Int).toNat) (1 : Nat)) = toI (a.rows ((0 : Nat) + (↑a_6.i : Int).toNat) (1 : Nat)) ∧
  ((0 : Nat) = (0 : Nat) ∧
  n = n ∧
  cap = cap) ∧
  ((0 : Nat) = (0 : Nat) ∧
  a_19.nl.length = a_38.nl.length ∧
  a_19.y.ncap = a_38.ncap) ∧
  (a.n ≤ a.n ∧
  RowsEq a.n (3 : Nat) a.rows a.rows) ∧
  Snap a.gA = Snap a.gA ∧
  (a_38.nl.length ≤ a_19.nl.length ∧
  RowsEq a_38.nl.length (21 : Nat) (encRows encRM a_19.nl) (encRows encRM a_38.nl)) ∧
  (n ≤ n ∧
  RowsEq n (21 : Nat) rows rows) ∧
  (a_38.cs.length ≤ (4 : Nat) * a_6.i + (4 : Nat) ∧
  StOk a.gA a_38) ∧
  True)) ∧
  ((toI (a.rows ((0 : Nat) + (↑a_6.i : Int).toNat) (0 : Nat)) == (1 : Int)) = Bool.false →
  ∃ (a_32 : St), ((0 : Nat) = (0 : Nat) ∧
  a_6.l.length = a_32.l.length ∧
  a_6.lcap = a_32.lcap) ∧
  a_10 = a_10 ∧
  (0 : Nat) = (0 : Nat) ∧
  Decidable.decide ((↑a_6.i : Int) < (50 : Int)) = Decidable.decide ((↑a_6.i : Int) < (50 : Int)) ∧
  (↑a_6.i : Int) = (↑a_6.i : Int) ∧
  (0 : Nat) = (0 : Nat) ∧
  Bool.false = Bool.false ∧
  Bool.true = Bool.true ∧
  Bool.false = Bool.false ∧
  ((0 : Nat) = (0 : Nat) ∧
  a.n = a.n ∧
  a.cap = a.cap) ∧
  Snap a_24.gO = Snap a_32.g ∧
  (a_32.l.length ≤ a_6.l.length ∧
  RowsEq a_32.l.length (21 : Nat) (encRows encRM a_6.l) (encRows encRM a_32.l)) ∧
  toI (a.rows ((0 : Nat) + (↑a_6.i : Int).toNat) (0 : Nat)) = toI (a.rows ((0 : Nat) + (↑a_6.i : Int).toNat) (0 : Nat)) ∧
  toI (a.rows ((0 : Nat) + (↑a_6.i : Int).toNat) (1 : Nat)) = toI (a.rows ((0 : Nat) + (↑a_6.i : Int).toNat) (1 : Nat)) ∧
  ((0 : Nat) = (0 : Nat) ∧
  n = n ∧
  cap = cap) ∧
  ((0 : Nat) = (0 : Nat) ∧
  a_19.nl.length = a_32.nl.length ∧
  a_19.y.ncap = a_32.ncap) ∧
  (a.n ≤ a.n ∧
  RowsEq a.n (3 : Nat) a.rows a.rows) ∧
  Snap a.gA = Snap a.gA ∧
  (a_32.nl.length ≤ a_19.nl.length ∧
  RowsEq a_32.nl.length (21 : Nat) (encRows encRM a_19.nl) (encRows encRM a_32.nl)) ∧
  (n ≤ n ∧
  RowsEq n (21 : Nat) rows rows) ∧
  (a_32.cs.length ≤ (4 : Nat) * a_6.i + (4 : Nat) ∧
  StOk a.gA a_32) ∧
  True)) ∧
  (a_10 = Bool.false →
  ∃ (a_30 : St), ((0 : Nat) = (0 : Nat) ∧
  a_6.l.length = a_30.l.length ∧
  a_6.lcap = a_30.lcap) ∧
  a_10 = a_10 ∧
  (0 : Nat) = (0 : Nat) ∧
  Decidable.decide ((↑a_6.i : Int) < (50 : Int)) = Decidable.decide ((↑a_6.i : Int) < (50 : Int)) ∧
  (↑a_6.i : Int) = (↑a_6.i : Int) ∧
  (0 : Nat) = (0 : Nat) ∧
  Bool.false = Bool.false ∧
  Bool.true = Bool.true ∧
  Bool.false = Bool.false ∧
  ((0 : Nat) = (0 : Nat) ∧
  a.n = a.n ∧
  a.cap = a.cap) ∧
  Snap a_24.gO = Snap a_30.g ∧
  (a_30.l.length ≤ a_6.l.length ∧
  RowsEq a_30.l.length (21 : Nat) (encRows encRM a_6.l) (encRows encRM a_30.l)) ∧
  toI (a.rows ((0 : Nat) + (↑a_6.i : Int).toNat) (0 : Nat)) = toI (a.rows ((0 : Nat) + (↑a_6.i : Int).toNat) (0 : Nat)) ∧
  toI (a.rows ((0 : Nat) + (↑a_6.i : Int).toNat) (1 : Nat)) = toI (a.rows ((0 : Nat) + (↑a_6.i : Int).toNat) (1 : Nat)) ∧
  ((0 : Nat) = (0 : Nat) ∧
  n = n ∧
  cap = cap) ∧
  ((0 : Nat) = (0 : Nat) ∧
  a_19.nl.length = a_30.nl.length ∧
  a_19.y.ncap = a_30.ncap) ∧
  (a.n ≤ a.n ∧
  RowsEq a.n (3 : Nat) a.rows a.rows) ∧
  Snap a.gA = Snap a.gA ∧
  (a_30.nl.length ≤ a_19.nl.length ∧
  RowsEq a_30.nl.length (21 : Nat) (encRows encRM a_19.nl) (encRows encRM a_30.nl)) ∧
  (n ≤ n ∧
  RowsEq n (21 : Nat) rows rows) ∧
  (a_30.cs.length ≤ (4 : Nat) * a_6.i + (4 : Nat) ∧
  StOk a.gA a_30) ∧
  True))) ∧
  ((!a_10) = Bool.false →
  (a_10 = Bool.true →
  InR IntKind.i64 (toI (a.rows ((0 : Nat) + (↑a_6.i : Int).toNat) (0 : Nat))) →
  ((toI (a.rows ((0 : Nat) + (↑a_6.i : Int).toNat) (0 : Nat)) == (1 : Int)) = Bool.true →
  InR IntKind.i64 (toI (a.rows ((0 : Nat) + (↑a_6.i : Int).toNat) (1 : Nat))) →
  InR IntKind.i64 (toI (a.rows ((0 : Nat) + (↑a_6.i : Int).toNat) (1 : Nat))) →
  ((0 : Int) ≤ toI (a.rows ((0 : Nat) + (↑a_6.i : Int).toNat) (1 : Nat)) ∧
  toI (a.rows ((0 : Nat) + (↑a_6.i : Int).toNat) (1 : Nat)) ≤ (↑a_6.lcap : Int)) ∧
  ((0 : Int) ≤ toI (a.rows ((0 : Nat) + (↑a_6.i : Int).toNat) (1 : Nat)) ∧
  toI (a.rows ((0 : Nat) + (↑a_6.i : Int).toNat) (1 : Nat)) ≤ (↑(toI (a.rows ((0 : Nat) + (↑a_6.i : Int).toNat) (1 : Nat))).toNat : Int)) ∧
  (InR IntKind.i64 (toI (a.rows ((0 : Nat) + (↑a_6.i : Int).toNat) (1 : Nat))) →
  InR IntKind.i64 (toI (a.rows ((0 : Nat) + (↑a_6.i : Int).toNat) (1 : Nat)) + (1 : Int)) ∧
  ((0 : Int) ≤ toI (a.rows ((0 : Nat) + (↑a_6.i : Int).toNat) (1 : Nat)) + (1 : Int) ∧
  toI (a.rows ((0 : Nat) + (↑a_6.i : Int).toNat) (1 : Nat)) + (1 : Int) ≤ (↑a_6.l.length : Int)) ∧
  (0 : Nat) + ((toI (a.rows ((0 : Nat) + (↑a_6.i : Int).toNat) (1 : Nat))).toNat - (0 : Nat)) ≤ a_6.l.length ∧
  (0 : Nat) + (toI (a.rows ((0 : Nat) + (↑a_6.i : Int).toNat) (1 : Nat)) + (1 : Int)).toNat + (a_6.l.length - (toI (a.rows ((0 : Nat) + (↑a_6.i : Int).toNat) (1 : Nat)) + (1 : Int)).toNat) ≤ a_6.l.length ∧
  ((toI (a.rows ((0 : Nat) + (↑a_6.i : Int).toNat) (1 : Nat))).toNat - (0 : Nat) + (a_6.l.length - (toI (a.rows ((0 : Nat) + (↑a_6.i : Int).toNat) (1 : Nat)) + (1 : Int)).toNat)) * (256 : Nat) ≤ (140737488355328 : Nat) ∧
  ∀ (cap_1 : Nat), (toI (a.rows ((0 : Nat) + (↑a_6.i : Int).toNat) (1 : Nat))).toNat - (0 : Nat) + (a_6.l.length - (toI (a.rows ((0 : Nat) + (↑a_6.i : Int).toNat) (1 : Nat)) + (1 : Int)).toNat) ≤ cap_1 →
  cap_1 ≤ lenMax →
  ((toI (a.rows ((0 : Nat) + (↑a_6.i : Int).toNat) (1 : Nat))).toNat - (0 : Nat) + (a_6.l.length - (toI (a.rows ((0 : Nat) + (↑a_6.i : Int).toNat) (1 : Nat)) + (1 : Int)).toNat) ≤ (toI (a.rows ((0 : Nat) + (↑a_6.i : Int).toNat) (1 : Nat))).toNat - (0 : Nat) →
  cap_1 = (toI (a.rows ((0 : Nat) + (↑a_6.i : Int).toNat) (1 : Nat))).toNat - (0 : Nat)) →
  ∃ (a_36 : St), ((0 : Nat) = (0 : Nat) ∧
  (toI (a.rows ((0 : Nat) + (↑a_6.i : Int).toNat) (1 : Nat))).toNat - (0 : Nat) + (a_6.l.length - (toI (a.rows ((0 : Nat) + (↑a_6.i : Int).toNat) (1 : Nat)) + (1 : Int)).toNat) = a_36.l.length ∧
  cap_1 = a_36.lcap) ∧
  a_10 = a_10 ∧
  (0 : Nat) = (0 : Nat) ∧
  Decidable.decide ((↑a_6.i : Int) < (50 : Int)) = Decidable.decide ((↑a_6.i : Int) < (50 : Int)) ∧
  (↑a_6.i : Int) = (↑a_6.i : Int) ∧
  (0 : Nat) = (0 : Nat) ∧
  Bool.false = Bool.false ∧
  Bool.true = Bool.true ∧
  Bool.false = Bool.false ∧
  ((0 : Nat) = (0 : Nat) ∧
  a.n = a.n ∧
  a.cap = a.cap) ∧
  Snap a_24.gO = Snap a_36.g ∧
  (a_36.l.length ≤ (toI (a.rows ((0 : Nat) + (↑a_6.i : Int).toNat) (1 : Nat))).toNat - (0 : Nat) + (a_6.l.length - (toI (a.rows ((0 : Nat) + (↑a_6.i : Int).toNat) (1 : Nat)) + (1 : Int)).toNat) ∧
  RowsEq a_36.l.length (21 : Nat) (appRows (encRows encRM a_6.l) (0 : Nat) ((toI (a.rows ((0 : Nat) + (↑a_6.i : Int).toNat) (1 : Nat))).toNat - (0 : Nat)) fun (i j : Nat) => encRows encRM a_6.l ((0 : Nat) + (toI (a.rows ((0 : Nat) + (↑a_6.i : Int).toNat) (1 : Nat)) + (1 : Int)).toNat + i) j) (encRows encRM a_36.l)) ∧
  toI (a.rows ((0 : Nat) + (↑a_6.i : Int).toNat) (0 : Nat)) = toI (a.rows ((0 : Nat) + (↑a_6.i : Int).toNat) (0 : Nat)) ∧
  toI (a.rows ((0 : Nat) + (↑a_6.i : Int).toNat) (1 : Nat)) = toI (a.rows ((0 : Nat) + (↑a_6.i : Int).toNat) (1 : Nat)) ∧
  ((0 : Nat) = (0 : Nat) ∧
  n = n ∧
  cap = cap) ∧
  ((0 : Nat) = (0 : Nat) ∧
  a_19.nl.length = a_36.nl.length ∧
  a_19.y.ncap = a_36.ncap) ∧
  (a.n ≤ a.n ∧
  RowsEq a.n (3 : Nat) a.rows a.rows) ∧
  Snap a.gA = Snap a.gA ∧
  (a_36.nl.length ≤ a_19.nl.length ∧
  RowsEq a_36.nl.length (21 : Nat) (encRows encRM a_19.nl) (encRows encRM a_36.nl)) ∧
  (n ≤ n ∧
  RowsEq n (21 : Nat) rows rows) ∧
  (a_36.cs.length ≤ (4 : Nat) * a_6.i + (4 : Nat) ∧
  StOk a.gA a_36) ∧
  True)) ∧
  ((toI (a.rows ((0 : Nat) + (↑a_6.i : Int).toNat) (0 : Nat)) == (1 : Int)) = Bool.false →
  ∃ (a_30 : St), ((0 : Nat) = (0 : Nat) ∧
  a_6.l.length = a_30.l.length ∧
  a_6.lcap = a_30.lcap) ∧
  a_10 = a_10 ∧
  (0 : Nat) = (0 : Nat) ∧
  Decidable.decide ((↑a_6.i : Int) < (50 : Int)) = Decidable.decide ((↑a_6.i : Int) < (50 : Int)) ∧
  (↑a_6.i : Int) = (↑a_6.i : Int) ∧
  (0 : Nat) = (0 : Nat) ∧
  Bool.false = Bool.false ∧
  Bool.true = Bool.true ∧
  Bool.false = Bool.false ∧
  ((0 : Nat) = (0 : Nat) ∧
  a.n = a.n ∧
  a.cap = a.cap) ∧
  Snap a_24.gO = Snap a_30.g ∧
  (a_30.l.length ≤ a_6.l.length ∧
  RowsEq a_30.l.length (21 : Nat) (encRows encRM a_6.l) (encRows encRM a_30.l)) ∧
  toI (a.rows ((0 : Nat) + (↑a_6.i : Int).toNat) (0 : Nat)) = toI (a.rows ((0 : Nat) + (↑a_6.i : Int).toNat) (0 : Nat)) ∧
  toI (a.rows ((0 : Nat) + (↑a_6.i : Int).toNat) (1 : Nat)) = toI (a.rows ((0 : Nat) + (↑a_6.i : Int).toNat) (1 : Nat)) ∧
  ((0 : Nat) = (0 : Nat) ∧
  n = n ∧
  cap = cap) ∧
  ((0 : Nat) = (0 : Nat) ∧
  a_19.nl.length = a_30.nl.length ∧
  a_19.y.ncap = a_30.ncap) ∧
  (a.n ≤ a.n ∧
  RowsEq a.n (3 : Nat) a.rows a.rows) ∧
  Snap a.gA = Snap a.gA ∧
  (a_30.nl.length ≤ a_19.nl.length ∧
  RowsEq a_30.nl.length (21 : Nat) (encRows encRM a_19.nl) (encRows encRM a_30.nl)) ∧
  (n ≤ n ∧
  RowsEq n (21 : Nat) rows rows) ∧
  (a_30.cs.length ≤ (4 : Nat) * a_6.i + (4 : Nat) ∧
  StOk a.gA a_30) ∧
  True)) ∧
  (a_10 = Bool.false →
  ∃ (a_28 : St), ((0 : Nat) = (0 : Nat) ∧
  a_6.l.length = a_28.l.length ∧
  a_6.lcap = a_28.lcap) ∧
  a_10 = a_10 ∧
  (0 : Nat) = (0 : Nat) ∧
  Decidable.decide ((↑a_6.i : Int) < (50 : Int)) = Decidable.decide ((↑a_6.i : Int) < (50 : Int)) ∧
  (↑a_6.i : Int) = (↑a_6.i : Int) ∧
  (0 : Nat) = (0 : Nat) ∧
  Bool.false = Bool.false ∧
  Bool.true = Bool.true ∧
  Bool.false = Bool.false ∧
  ((0 : Nat) = (0 : Nat) ∧
  a.n = a.n ∧
  a.cap = a.cap) ∧
  Snap a_24.gO = Snap a_28.g ∧
  (a_28.l.length ≤ a_6.l.length ∧
  RowsEq a_28.l.length (21 : Nat) (encRows encRM a_6.l) (encRows encRM a_28.l)) ∧
  toI (a.rows ((0 : Nat) + (↑a_6.i : Int).toNat) (0 : Nat)) = toI (a.rows ((0 : Nat) + (↑a_6.i : Int).toNat) (0 : Nat)) ∧
  toI (a.rows ((0 : Nat) + (↑a_6.i : Int).toNat) (1 : Nat)) = toI (a.rows ((0 : Nat) + (↑a_6.i : Int).toNat) (1 : Nat)) ∧
  ((0 : Nat) = (0 : Nat) ∧
  n = n ∧
  cap = cap) ∧
  ((0 : Nat) = (0 : Nat) ∧
  a_19.nl.length = a_28.nl.length ∧
  a_19.y.ncap = a_28.ncap) ∧
  (a.n ≤ a.n ∧
  RowsEq a.n (3 : Nat) a.rows a.rows) ∧
  Snap a.gA = Snap a.gA ∧
  (a_28.nl.length ≤ a_19.nl.length ∧
  RowsEq a_28.nl.length (21 : Nat) (encRows encRM a_19.nl) (encRows encRM a_28.nl)) ∧
  (n ≤ n ∧
  RowsEq n (21 : Nat) rows rows) ∧
  (a_28.cs.length ≤ (4 : Nat) * a_6.i + (4 : Nat) ∧
  StOk a.gA a_28) ∧
  True))) ∧
  (a_10 = Bool.false →
  ((!a_10) = Bool.true →
  InR IntKind.i64 (lookM a_6.nl (ix a a_6)).k →
  (((lookM a_6.nl (ix a a_6)).k != (0 : Int)) = Bool.true →
  ∃ (b : Unit), Bool.false = Bool.true ∧
  True ∧
  True) ∧
  (((lookM a_6.nl (ix a a_6)).k != (0 : Int)) = Bool.false →
  (a_10 = Bool.true →
  InR IntKind.i64 (toI (a.rows ((0 : Nat) + (↑a_6.i : Int).toNat) (0 : Nat))) →
  ((toI (a.rows ((0 : Nat) + (↑a_6.i : Int).toNat) (0 : Nat)) == (1 : Int)) = Bool.true →
  InR IntKind.i64 (toI (a.rows ((0 : Nat) + (↑a_6.i : Int).toNat) (1 : Nat))) →
  InR IntKind.i64 (toI (a.rows ((0 : Nat) + (↑a_6.i : Int).toNat) (1 : Nat))) →
  ((0 : Int) ≤ toI (a.rows ((0 : Nat) + (↑a_6.i : Int).toNat) (1 : Nat)) ∧
  toI (a.rows ((0 : Nat) + (↑a_6.i : Int).toNat) (1 : Nat)) ≤ (↑a_6.lcap : Int)) ∧
  ((0 : Int) ≤ toI (a.rows ((0 : Nat) + (↑a_6.i : Int).toNat) (1 : Nat)) ∧
  toI (a.rows ((0 : Nat) + (↑a_6.i : Int).toNat) (1 : Nat)) ≤ (↑(toI (a.rows ((0 : Nat) + (↑a_6.i : Int).toNat) (1 : Nat))).toNat : Int)) ∧
  (InR IntKind.i64 (toI (a.rows ((0 : Nat) + (↑a_6.i : Int).toNat) (1 : Nat))) →
  InR IntKind.i64 (toI (a.rows ((0 : Nat) + (↑a_6.i : Int).toNat) (1 : Nat)) + (1 : Int)) ∧
  ((0 : Int) ≤ toI (a.rows ((0 : Nat) + (↑a_6.i : Int).toNat) (1 : Nat)) + (1 : Int) ∧
  toI (a.rows ((0 : Nat) + (↑a_6.i : Int).toNat) (1 : Nat)) + (1 : Int) ≤ (↑a_6.l.length : Int)) ∧
  (0 : Nat) + ((toI (a.rows ((0 : Nat) + (↑a_6.i : Int).toNat) (1 : Nat))).toNat - (0 : Nat)) ≤ a_6.l.length ∧
  (0 : Nat) + (toI (a.rows ((0 : Nat) + (↑a_6.i : Int).toNat) (1 : Nat)) + (1 : Int)).toNat + (a_6.l.length - (toI (a.rows ((0 : Nat) + (↑a_6.i : Int).toNat) (1 : Nat)) + (1 : Int)).toNat) ≤ a_6.l.length ∧
  ((toI (a.rows ((0 : Nat) + (↑a_6.i : Int).toNat) (1 : Nat))).toNat - (0 : Nat) + (a_6.l.length - (toI (a.rows ((0 : Nat) + (↑a_6.i : Int).toNat) (1 : Nat)) + (1 : Int)).toNat)) * (256 : Nat) ≤ (140737488355328 : Nat) ∧
  ∀ (cap_1 : Nat), (toI (a.rows ((0 : Nat) + (↑a_6.i : Int).toNat) (1 : Nat))).toNat - (0 : Nat) + (a_6.l.length - (toI (a.rows ((0 : Nat) + (↑a_6.i : Int).toNat) (1 : Nat)) + (1 : Int)).toNat) ≤ cap_1 →
  cap_1 ≤ lenMax →
  ((toI (a.rows ((0 : Nat) + (↑a_6.i : Int).toNat) (1 : Nat))).toNat - (0 : Nat) + (a_6.l.length - (toI (a.rows ((0 : Nat) + (↑a_6.i : Int).toNat) (1 : Nat)) + (1 : Int)).toNat) ≤ (toI (a.rows ((0 : Nat) + (↑a_6.i : Int).toNat) (1 : Nat))).toNat - (0 : Nat) →
  cap_1 = (toI (a.rows ((0 : Nat) + (↑a_6.i : Int).toNat) (1 : Nat))).toNat - (0 : Nat)) →
  ∃ (a_35 : St), ((0 : Nat) = (0 : Nat) ∧
  (toI (a.rows ((0 : Nat) + (↑a_6.i : Int).toNat) (1 : Nat))).toNat - (0 : Nat) + (a_6.l.length - (toI (a.rows ((0 : Nat) + (↑a_6.i : Int).toNat) (1 : Nat)) + (1 : Int)).toNat) = a_35.l.length ∧
  cap_1 = a_35.lcap) ∧
  a_10 = a_10 ∧
  (0 : Nat) = (0 : Nat) ∧
  Decidable.decide ((↑a_6.i : Int) < (50 : Int)) = Decidable.decide ((↑a_6.i : Int) < (50 : Int)) ∧
  (↑a_6.i : Int) = (↑a_6.i : Int) ∧
  (0 : Nat) = (0 : Nat) ∧
  Bool.false = Bool.false ∧
  Bool.true = Bool.true ∧
  Bool.false = Bool.false ∧
  ((0 : Nat) = (0 : Nat) ∧
  a.n = a.n ∧
  a.cap = a.cap) ∧
  Snap a_19.y.g = Snap a_35.g ∧
  (a_35.l.length ≤ (toI (a.rows ((0 : Nat) + (↑a_6.i : Int).toNat) (1 : Nat))).toNat - (0 : Nat) + (a_6.l.length - (toI (a.rows ((0 : Nat) + (↑a_6.i : Int).toNat) (1 : Nat)) + (1 : Int)).toNat) ∧
  RowsEq a_35.l.length (21 : Nat) (appRows (encRows encRM a_6.l) (0 : Nat) ((toI (a.rows ((0 : Nat) + (↑a_6.i : Int).toNat) (1 : Nat))).toNat - (0 : Nat)) fun (i j : Nat) => encRows encRM a_6.l ((0 : Nat) + (toI (a.rows ((0 : Nat) + (↑a_6.i : Int).toNat) (1 : Nat)) + (1 : Int)).toNat + i) j) (encRows encRM a_35.l)) ∧
  toI (a.rows ((0 : Nat) + (↑a_6.i : Int).toNat) (0 : Nat)) = toI (a.rows ((0 : Nat) + (↑a_6.i : Int).toNat) (0 : Nat)) ∧
  toI (a.rows ((0 : Nat) + (↑a_6.i : Int).toNat) (1 : Nat)) = toI (a.rows ((0 : Nat) + (↑a_6.i : Int).toNat) (1 : Nat)) ∧
  ((0 : Nat) = (0 : Nat) ∧
  n = n ∧
  cap = cap) ∧
  ((0 : Nat) = (0 : Nat) ∧
  a_19.nl.length = a_35.nl.length ∧
  a_19.y.ncap = a_35.ncap) ∧
  (a.n ≤ a.n ∧
  RowsEq a.n (3 : Nat) a.rows a.rows) ∧
  Snap a.gA = Snap a.gA ∧
  (a_35.nl.length ≤ a_19.nl.length ∧
  RowsEq a_35.nl.length (21 : Nat) (encRows encRM a_19.nl) (encRows encRM a_35.nl)) ∧
  (n ≤ n ∧
  RowsEq n (21 : Nat) rows rows) ∧
  (a_35.cs.length ≤ (4 : Nat) * a_6.i + (4 : Nat) ∧
  StOk a.gA a_35) ∧
  True)) ∧
  ((toI (a.rows ((0 : Nat) + (↑a_6.i : Int).toNat) (0 : Nat)) == (1 : Int)) = Bool.false →
  ∃ (a_29 : St), ((0 : Nat) = (0 : Nat) ∧
  a_6.l.length = a_29.l.length ∧
  a_6.lcap = a_29.lcap) ∧
  a_10 = a_10 ∧
  (0 : Nat) = (0 : Nat) ∧
  Decidable.decide ((↑a_6.i : Int) < (50 : Int)) = Decidable.decide ((↑a_6.i : Int) < (50 : Int)) ∧
  (↑a_6.i : Int) = (↑a_6.i : Int) ∧
  (0 : Nat) = (0 : Nat) ∧
  Bool.false = Bool.false ∧
  Bool.true = Bool.true ∧
  Bool.false = Bool.false ∧
  ((0 : Nat) = (0 : Nat) ∧
  a.n = a.n ∧
  a.cap = a.cap) ∧
  Snap a_19.y.g = Snap a_29.g ∧
  (a_29.l.length ≤ a_6.l.length ∧
  RowsEq a_29.l.length (21 : Nat) (encRows encRM a_6.l) (encRows encRM a_29.l)) ∧
  toI (a.rows ((0 : Nat) + (↑a_6.i : Int).toNat) (0 : Nat)) = toI (a.rows ((0 : Nat) + (↑a_6.i : Int).toNat) (0 : Nat)) ∧
  toI (a.rows ((0 : Nat) + (↑a_6.i : Int).toNat) (1 : Nat)) = toI (a.rows ((0 : Nat) + (↑a_6.i : Int).toNat) (1 : Nat)) ∧
  ((0 : Nat) = (0 : Nat) ∧
  n = n ∧
  cap = cap) ∧
  ((0 : Nat) = (0 : Nat) ∧
  a_19.nl.length = a_29.nl.length ∧
  a_19.y.ncap = a_29.ncap) ∧
  (a.n ≤ a.n ∧
  RowsEq a.n (3 : Nat) a.rows a.rows) ∧
  Snap a.gA = Snap a.gA ∧
  (a_29.nl.length ≤ a_19.nl.length ∧
  RowsEq a_29.nl.length (21 : Nat) (encRows encRM a_19.nl) (encRows encRM a_29.nl)) ∧
  (n ≤ n ∧
  RowsEq n (21 : Nat) rows rows) ∧
  (a_29.cs.length ≤ (4 : Nat) * a_6.i + (4 : Nat) ∧
  StOk a.gA a_29) ∧
  True)) ∧
  (a_10 = Bool.false →
  ∃ (a_27 : St), ((0 : Nat) = (0 : Nat) ∧
  a_6.l.length = a_27.l.length ∧
  a_6.lcap = a_27.lcap) ∧
  a_10 = a_10 ∧
  (0 : Nat) = (0 : Nat) ∧
  Decidable.decide ((↑a_6.i : Int) < (50 : Int)) = Decidable.decide ((↑a_6.i : Int) < (50 : Int)) ∧
  (↑a_6.i : Int) = (↑a_6.i : Int) ∧
  (0 : Nat) = (0 : Nat) ∧
  Bool.false = Bool.false ∧
  Bool.true = Bool.true ∧
  Bool.false = Bool.false ∧
  ((0 : Nat) = (0 : Nat) ∧
  a.n = a.n ∧
  a.cap = a.cap) ∧
  Snap a_19.y.g = Snap a_27.g ∧
  (a_27.l.length ≤ a_6.l.length ∧
  RowsEq a_27.l.length (21 : Nat) (encRows encRM a_6.l) (encRows encRM a_27.l)) ∧
  toI (a.rows ((0 : Nat) + (↑a_6.i : Int).toNat) (0 : Nat)) = toI (a.rows ((0 : Nat) + (↑a_6.i : Int).toNat) (0 : Nat)) ∧
  toI (a.rows ((0 : Nat) + (↑a_6.i : Int).toNat) (1 : Nat)) = toI (a.rows ((0 : Nat) + (↑a_6.i : Int).toNat) (1 : Nat)) ∧
  ((0 : Nat) = (0 : Nat) ∧
  n = n ∧
  cap = cap) ∧
  ((0 : Nat) = (0 : Nat) ∧
  a_19.nl.length = a_27.nl.length ∧
  a_19.y.ncap = a_27.ncap) ∧
  (a.n ≤ a.n ∧
  RowsEq a.n (3 : Nat) a.rows a.rows) ∧
  Snap a.gA = Snap a.gA ∧
  (a_27.nl.length ≤ a_19.nl.length ∧
  RowsEq a_27.nl.length (21 : Nat) (encRows encRM a_19.nl) (encRows encRM a_27.nl)) ∧
  (n ≤ n ∧
  RowsEq n (21 : Nat) rows rows) ∧
  (a_27.cs.length ≤ (4 : Nat) * a_6.i + (4 : Nat) ∧
  StOk a.gA a_27) ∧
  True))) ∧
  ((!a_10) = Bool.false →
  (a_10 = Bool.true →
  InR IntKind.i64 (toI (a.rows ((0 : Nat) + (↑a_6.i : Int).toNat) (0 : Nat))) →
  ((toI (a.rows ((0 : Nat) + (↑a_6.i : Int).toNat) (0 : Nat)) == (1 : Int)) = Bool.true →
  InR IntKind.i64 (toI (a.rows ((0 : Nat) + (↑a_6.i : Int).toNat) (1 : Nat))) →
  InR IntKind.i64 (toI (a.rows ((0 : Nat) + (↑a_6.i : Int).toNat) (1 : Nat))) →
  ((0 : Int) ≤ toI (a.rows ((0 : Nat) + (↑a_6.i : Int).toNat) (1 : Nat)) ∧
  toI (a.rows ((0 : Nat) + (↑a_6.i : Int).toNat) (1 : Nat)) ≤ (↑a_6.lcap : Int)) ∧
  ((0 : Int) ≤ toI (a.rows ((0 : Nat) + (↑a_6.i : Int).toNat) (1 : Nat)) ∧
  toI (a.rows ((0 : Nat) + (↑a_6.i : Int).toNat) (1 : Nat)) ≤ (↑(toI (a.rows ((0 : Nat) + (↑a_6.i : Int).toNat) (1 : Nat))).toNat : Int)) ∧
  (InR IntKind.i64 (toI (a.rows ((0 : Nat) + (↑a_6.i : Int).toNat) (1 : Nat))) →
  InR IntKind.i64 (toI (a.rows ((0 : Nat) + (↑a_6.i : Int).toNat) (1 : Nat)) + (1 : Int)) ∧
  ((0 : Int) ≤ toI (a.rows ((0 : Nat) + (↑a_6.i : Int).toNat) (1 : Nat)) + (1 : Int) ∧
  toI (a.rows ((0 : Nat) + (↑a_6.i : Int).toNat) (1 : Nat)) + (1 : Int) ≤ (↑a_6.l.length : Int)) ∧
  (0 : Nat) + ((toI (a.rows ((0 : Nat) + (↑a_6.i : Int).toNat) (1 : Nat))).toNat - (0 : Nat)) ≤ a_6.l.length ∧
  (0 : Nat) + (toI (a.rows ((0 : Nat) + (↑a_6.i : Int).toNat) (1 : Nat)) + (1 : Int)).toNat + (a_6.l.length - (toI (a.rows ((0 : Nat) + (↑a_6.i : Int).toNat) (1 : Nat)) + (1 : Int)).toNat) ≤ a_6.l.length ∧
  ((toI (a.rows ((0 : Nat) + (↑a_6.i : Int).toNat) (1 : Nat))).toNat - (0 : Nat) + (a_6.l.length - (toI (a.rows ((0 : Nat) + (↑a_6.i : Int).toNat) (1 : Nat)) + (1 : Int)).toNat)) * (256 : Nat) ≤ (140737488355328 : Nat) ∧
  ∀ (cap_1 : Nat), (toI (a.rows ((0 : Nat) + (↑a_6.i : Int).toNat) (1 : Nat))).toNat - (0 : Nat) + (a_6.l.length - (toI (a.rows ((0 : Nat) + (↑a_6.i : Int).toNat) (1 : Nat)) + (1 : Int)).toNat) ≤ cap_1 →
  cap_1 ≤ lenMax →
  ((toI (a.rows ((0 : Nat) + (↑a_6.i : Int).toNat) (1 : Nat))).toNat - (0 : Nat) + (a_6.l.length - (toI (a.rows ((0 : Nat) + (↑a_6.i : Int).toNat) (1 : Nat)) + (1 : Int)).toNat) ≤ (toI (a.rows ((0 : Nat) + (↑a_6.i : Int).toNat) (1 : Nat))).toNat - (0 : Nat) →
  cap_1 = (toI (a.rows ((0 : Nat) + (↑a_6.i : Int).toNat) (1 : Nat))).toNat - (0 : Nat)) →
  ∃ (a_33 : St), ((0 : Nat) = (0 : Nat) ∧
  (toI (a.rows ((0 : Nat) + (↑a_6.i : Int).toNat) (1 : Nat))).toNat - (0 : Nat) + (a_6.l.length - (toI (a.rows ((0 : Nat) + (↑a_6.i : Int).toNat) (1 : Nat)) + (1 : Int)).toNat) = a_33.l.length ∧
  cap_1 = a_33.lcap) ∧
  a_10 = a_10 ∧
  (0 : Nat) = (0 : Nat) ∧
  Decidable.decide ((↑a_6.i : Int) < (50 : Int)) = Decidable.decide ((↑a_6.i : Int) < (50 : Int)) ∧
  (↑a_6.i : Int) = (↑a_6.i : Int) ∧
  (0 : Nat) = (0 : Nat) ∧
  Bool.false = Bool.false ∧
  Bool.true = Bool.true ∧
  Bool.false = Bool.false ∧
  ((0 : Nat) = (0 : Nat) ∧
  a.n = a.n ∧
  a.cap = a.cap) ∧
  Snap a_19.y.g = Snap a_33.g ∧
  (a_33.l.length ≤ (toI (a.rows ((0 : Nat) + (↑a_6.i : Int).toNat) (1 : Nat))).toNat - (0 : Nat) + (a_6.l.length - (toI (a.rows ((0 : Nat) + (↑a_6.i : Int).toNat) (1 : Nat)) + (1 : Int)).toNat) ∧
  RowsEq a_33.l.length (21 : Nat) (appRows (encRows encRM a_6.l) (0 : Nat) ((toI (a.rows ((0 : Nat) + (↑a_6.i : Int).toNat) (1 : Nat))).toNat - (0 : Nat)) fun (i j : Nat) => encRows encRM a_6.l ((0 : Nat) + (toI (a.rows ((0 : Nat) + (↑a_6.i : Int).toNat) (1 : Nat)) + (1 : Int)).toNat + i) j) (encRows encRM a_33.l)) ∧
  toI (a.rows ((0 : Nat) + (↑a_6.i : Int).toNat) (0 : Nat)) = toI (a.rows ((0 : Nat) + (↑a_6.i : Int).toNat) (0 : Nat)) ∧
  toI (a.rows ((0 : Nat) + (↑a_6.i : Int).toNat) (1 : Nat)) = toI (a.rows ((0 : Nat) + (↑a_6.i : Int).toNat) (1 : Nat)) ∧
  ((0 : Nat) = (0 : Nat) ∧
  n = n ∧
  cap = cap) ∧
  ((0 : Nat) = (0 : Nat) ∧
  a_19.nl.length = a_33.nl.length ∧
  a_19.y.ncap = a_33.ncap) ∧
  (a.n ≤ a.n ∧
  RowsEq a.n (3 : Nat) a.rows a.rows) ∧
  Snap a.gA = Snap a.gA ∧
  (a_33.nl.length ≤ a_19.nl.length ∧
  RowsEq a_33.nl.length (21 : Nat) (encRows encRM a_19.nl) (encRows encRM a_33.nl)) ∧
  (n ≤ n ∧
  RowsEq n (21 : Nat) rows rows) ∧
  (a_33.cs.length ≤ (4 : Nat) * a_6.i + (4 : Nat) ∧
  StOk a.gA a_33) ∧
  True)) ∧
  ((toI (a.rows ((0 : Nat) + (↑a_6.i : Int).toNat) (0 : Nat)) == (1 : Int)) = Bool.false →
  ∃ (a_27 : St), ((0 : Nat) = (0 : Nat) ∧
  a_6.l.length = a_27.l.length ∧
  a_6.lcap = a_27.lcap) ∧
  a_10 = a_10 ∧
  (0 : Nat) = (0 : Nat) ∧
  Decidable.decide ((↑a_6.i : Int) < (50 : Int)) = Decidable.decide ((↑a_6.i : Int) < (50 : Int)) ∧
  (↑a_6.i : Int) = (↑a_6.i : Int) ∧
  (0 : Nat) = (0 : Nat) ∧
  Bool.false = Bool.false ∧
  Bool.true = Bool.true ∧
  Bool.false = Bool.false ∧
  ((0 : Nat) = (0 : Nat) ∧
  a.n = a.n ∧
  a.cap = a.cap) ∧
  Snap a_19.y.g = Snap a_27.g ∧
  (a_27.l.length ≤ a_6.l.length ∧
  RowsEq a_27.l.length (21 : Nat) (encRows encRM a_6.l) (encRows encRM a_27.l)) ∧
  toI (a.rows ((0 : Nat) + (↑a_6.i : Int).toNat) (0 : Nat)) = toI (a.rows ((0 : Nat) + (↑a_6.i : Int).toNat) (0 : Nat)) ∧
  toI (a.rows ((0 : Nat) + (↑a_6.i : Int).toNat) (1 : Nat)) = toI (a.rows ((0 : Nat) + (↑a_6.i : Int).toNat) (1 : Nat)) ∧
  ((0 : Nat) = (0 : Nat) ∧
  n = n ∧
  cap = cap) ∧
  ((0 : Nat) = (0 : Nat) ∧
  a_19.nl.length = a_27.nl.length ∧
  a_19.y.ncap = a_27.ncap) ∧
  (a.n ≤ a.n ∧
  RowsEq a.n (3 : Nat) a.rows a.rows) ∧
  Snap a.gA = Snap a.gA ∧
  (a_27.nl.length ≤ a_19.nl.length ∧
  RowsEq a_27.nl.length (21 : Nat) (encRows encRM a_19.nl) (encRows encRM a_27.nl)) ∧
  (n ≤ n ∧
  RowsEq n (21 : Nat) rows rows) ∧
  (a_27.cs.length ≤ (4 : Nat) * a_6.i + (4 : Nat) ∧
  StOk a.gA a_27) ∧
  True)) ∧
  (a_10 = Bool.false →
  ∃ (a_25 : St), ((0 : Nat) = (0 : Nat) ∧
  a_6.l.length = a_25.l.length ∧
  a_6.lcap = a_25.lcap) ∧
  a_10 = a_10 ∧
  (0 : Nat) = (0 : Nat) ∧
  Decidable.decide ((↑a_6.i : Int) < (50 : Int)) = Decidable.decide ((↑a_6.i : Int) < (50 : Int)) ∧
  (↑a_6.i : Int) = (↑a_6.i : Int) ∧
  (0 : Nat) = (0 : Nat) ∧
  Bool.false = Bool.false ∧
  Bool.true = Bool.true ∧
  Bool.false = Bool.false ∧
  ((0 : Nat) = (0 : Nat) ∧
  a.n = a.n ∧
  a.cap = a.cap) ∧
  Snap a_19.y.g = Snap a_25.g ∧
  (a_25.l.length ≤ a_6.l.length ∧
  RowsEq a_25.l.length (21 : Nat) (encRows encRM a_6.l) (encRows encRM a_25.l)) ∧
  toI (a.rows ((0 : Nat) + (↑a_6.i : Int).toNat) (0 : Nat)) = toI (a.rows ((0 : Nat) + (↑a_6.i : Int).toNat) (0 : Nat)) ∧
  toI (a.rows ((0 : Nat) + (↑a_6.i : Int).toNat) (1 : Nat)) = toI (a.rows ((0 : Nat) + (↑a_6.i : Int).toNat) (1 : Nat)) ∧
  ((0 : Nat) = (0 : Nat) ∧
  n = n ∧
  cap = cap) ∧
  ((0 : Nat) = (0 : Nat) ∧
  a_19.nl.length = a_25.nl.length ∧
  a_19.y.ncap = a_25.ncap) ∧
  (a.n ≤ a.n ∧
  RowsEq a.n (3 : Nat) a.rows a.rows) ∧
  Snap a.gA = Snap a.gA ∧
  (a_25.nl.length ≤ a_19.nl.length ∧
  RowsEq a_25.nl.length (21 : Nat) (encRows encRM a_19.nl) (encRows encRM a_25.nl)) ∧
  (n ≤ n ∧
  RowsEq n (21 : Nat) rows rows) ∧
  (a_25.cs.length ≤ (4 : Nat) * a_6.i + (4 : Nat) ∧
  StOk a.gA a_25) ∧
  True))))) ∧
  ((toI (a.rows ((0 : Nat) + (↑a_6.i : Int).toNat) (0 : Nat)) == (1 : Int)) = Bool.false →
  InR IntKind.i64 (toI (a.rows ((0 : Nat) + (↑a_6.i : Int).toNat) (1 : Nat))) →
  ∃ (a_17 : DropA), (0 : Nat) = (0 : Nat) ∧
  toI (a.rows ((0 : Nat) + (↑a_6.i : Int).toNat) (1 : Nat)) = a_17.i ∧
  ((0 : Nat) = (0 : Nat) ∧
  a_6.nl.length = a_17.l.length ∧
  a_6.ncap = a_17.cap) ∧
  (a_17.l.length ≤ a_6.nl.length ∧
  RowsEq a_17.l.length (21 : Nat) (encRows encRM a_6.nl) (encRows encRM a_17.l)) ∧
  (a_17.l.length ≤ (300 : Nat) ∧
  a_17.l.length ≤ a_17.cap) ∧
  ∀ (b : Nat), (dropM a_17.l a_17.i).length ≤ b →
  ((!lookB a_17.l a_17.i == a_10) = Bool.true →
  ∃ (b : Unit), Bool.false = Bool.true ∧
  True ∧
  True) ∧
  ((!lookB a_17.l a_17.i == a_10) = Bool.false →
  (a_10 = Bool.true →
  InR IntKind.i64 (toI (a.rows ((0 : Nat) + (↑a_6.i : Int).toNat) (1 : Nat))) →
  InR IntKind.i64 (toI (a.rows ((0 : Nat) + (↑a_6.i : Int).toNat) (1 : Nat))) →
  ((0 : Int) ≤ toI (a.rows ((0 : Nat) + (↑a_6.i : Int).toNat) (1 : Nat)) ∧
  toI (a.rows ((0 : Nat) + (↑a_6.i : Int).toNat) (1 : Nat)) ≤ (↑a_6.lcap : Int)) ∧
  ((0 : Int) ≤ toI (a.rows ((0 : Nat) + (↑a_6.i : Int).toNat) (1 : Nat)) ∧
  toI (a.rows ((0 : Nat) + (↑a_6.i : Int).toNat) (1 : Nat)) ≤ (↑(toI (a.rows ((0 : Nat) + (↑a_6.i : Int).toNat) (1 : Nat))).toNat : Int)) ∧
  (InR IntKind.i64 (toI (a.rows ((0 : Nat) + (↑a_6.i : Int).toNat) (1 : Nat))) →
  InR IntKind.i64 (toI (a.rows ((0 : Nat) + (↑a_6.i : Int).toNat) (1 : Nat)) + (1 : Int)) ∧
  ((0 : Int) ≤ toI (a.rows ((0 : Nat) + (↑a_6.i : Int).toNat) (1 : Nat)) + (1 : Int) ∧
  toI (a.rows ((0 : Nat) + (↑a_6.i : Int).toNat) (1 : Nat)) + (1 : Int) ≤ (↑a_6.l.length : Int)) ∧
  (0 : Nat) + ((toI (a.rows ((0 : Nat) + (↑a_6.i : Int).toNat) (1 : Nat))).toNat - (0 : Nat)) ≤ a_6.l.length ∧
  (0 : Nat) + (toI (a.rows ((0 : Nat) + (↑a_6.i : Int).toNat) (1 : Nat)) + (1 : Int)).toNat + (a_6.l.length - (toI (a.rows ((0 : Nat) + (↑a_6.i : Int).toNat) (1 : Nat)) + (1 : Int)).toNat) ≤ a_6.l.length ∧
  ((toI (a.rows ((0 : Nat) + (↑a_6.i : Int).toNat) (1 : Nat))).toNat - (0 : Nat) + (a_6.l.length - (toI (a.rows ((0 : Nat) + (↑a_6.i : Int).toNat) (1 : Nat)) + (1 : Int)).toNat)) * (256 : Nat) ≤ (140737488355328 : Nat) ∧
  ∀ (cap_1 : Nat), (toI (a.rows ((0 : Nat) + (↑a_6.i : Int).toNat) (1 : Nat))).toNat - (0 : Nat) + (a_6.l.length - (toI (a.rows ((0 : Nat) + (↑a_6.i : Int).toNat) (1 : Nat)) + (1 : Int)).toNat) ≤ cap_1 →
  cap_1 ≤ lenMax →
  ((toI (a.rows ((0 : Nat) + (↑a_6.i : Int).toNat) (1 : Nat))).toNat - (0 : Nat) + (a_6.l.length - (toI (a.rows ((0 : Nat) + (↑a_6.i : Int).toNat) (1 : Nat)) + (1 : Int)).toNat) ≤ (toI (a.rows ((0 : Nat) + (↑a_6.i : Int).toNat) (1 : Nat))).toNat - (0 : Nat) →
  cap_1 = (toI (a.rows ((0 : Nat) + (↑a_6.i : Int).toNat) (1 : Nat))).toNat - (0 : Nat)) →
  ∃ (a_27 : St), ((0 : Nat) = (0 : Nat) ∧
  (toI (a.rows ((0 : Nat) + (↑a_6.i : Int).toNat) (1 : Nat))).toNat - (0 : Nat) + (a_6.l.length - (toI (a.rows ((0 : Nat) + (↑a_6.i : Int).toNat) (1 : Nat)) + (1 : Int)).toNat) = a_27.l.length ∧
  cap_1 = a_27.lcap) ∧
  a_10 = a_10 ∧
  (0 : Nat) = (0 : Nat) ∧
  Decidable.decide ((↑a_6.i : Int) < (50 : Int)) = Decidable.decide ((↑a_6.i : Int) < (50 : Int)) ∧
  (↑a_6.i : Int) = (↑a_6.i : Int) ∧
  (0 : Nat) = (0 : Nat) ∧
  Bool.false = Bool.false ∧
  Bool.true = Bool.true ∧
  Bool.false = Bool.false ∧
  ((0 : Nat) = (0 : Nat) ∧
  a.n = a.n ∧
  a.cap = a.cap) ∧
  Snap a_6.g = Snap a_27.g ∧
  (a_27.l.length ≤ (toI (a.rows ((0 : Nat) + (↑a_6.i : Int).toNat) (1 : Nat))).toNat - (0 : Nat) + (a_6.l.length - (toI (a.rows ((0 : Nat) + (↑a_6.i : Int).toNat) (1 : Nat)) + (1 : Int)).toNat) ∧
  RowsEq a_27.l.length (21 : Nat) (appRows (encRows encRM a_6.l) (0 : Nat) ((toI (a.rows ((0 : Nat) + (↑a_6.i : Int).toNat) (1 : Nat))).toNat - (0 : Nat)) fun (i j : Nat) => encRows encRM a_6.l ((0 : Nat) + (toI (a.rows ((0 : Nat) + (↑a_6.i : Int).toNat) (1 : Nat)) + (1 : Int)).toNat + i) j) (encRows encRM a_27.l)) ∧
  toI (a.rows ((0 : Nat) + (↑a_6.i : Int).toNat) (0 : Nat)) = toI (a.rows ((0 : Nat) + (↑a_6.i : Int).toNat) (0 : Nat)) ∧
  toI (a.rows ((0 : Nat) + (↑a_6.i : Int).toNat) (1 : Nat)) = toI (a.rows ((0 : Nat) + (↑a_6.i : Int).toNat) (1 : Nat)) ∧
  ((0 : Nat) = (0 : Nat) ∧
  n = n ∧
  cap = cap) ∧
  ((0 : Nat) = (0 : Nat) ∧
  (dropM a_17.l a_17.i).length = a_27.nl.length ∧
  b = a_27.ncap) ∧
  (a.n ≤ a.n ∧
  RowsEq a.n (3 : Nat) a.rows a.rows) ∧
  Snap a.gA = Snap a.gA ∧
  (a_27.nl.length ≤ (dropM a_17.l a_17.i).length ∧
  RowsEq a_27.nl.length (21 : Nat) (encRows encRM (dropM a_17.l a_17.i)) (encRows encRM a_27.nl)) ∧
  (n ≤ n ∧
  RowsEq n (21 : Nat) rows rows) ∧
  (a_27.cs.length ≤ (4 : Nat) * a_6.i + (4 : Nat) ∧
  StOk a.gA a_27) ∧
  True)) ∧
  (a_10 = Bool.false →
  ∃ (a_21 : St), ((0 : Nat) = (0 : Nat) ∧
  a_6.l.length = a_21.l.length ∧
  a_6.lcap = a_21.lcap) ∧
  a_10 = a_10 ∧
  (0 : Nat) = (0 : Nat) ∧
  Decidable.decide ((↑a_6.i : Int) < (50 : Int)) = Decidable.decide ((↑a_6.i : Int) < (50 : Int)) ∧
  (↑a_6.i : Int) = (↑a_6.i : Int) ∧
  (0 : Nat) = (0 : Nat) ∧
  Bool.false = Bool.false ∧
  Bool.true = Bool.true ∧
  Bool.false = Bool.false ∧
  ((0 : Nat) = (0 : Nat) ∧
  a.n = a.n ∧
  a.cap = a.cap) ∧
  Snap a_6.g = Snap a_21.g ∧
  (a_21.l.length ≤ a_6.l.length ∧
  RowsEq a_21.l.length (21 : Nat) (encRows encRM a_6.l) (encRows encRM a_21.l)) ∧
  toI (a.rows ((0 : Nat) + (↑a_6.i : Int).toNat) (0 : Nat)) = toI (a.rows ((0 : Nat) + (↑a_6.i : Int).toNat) (0 : Nat)) ∧
  toI (a.rows ((0 : Nat) + (↑a_6.i : Int).toNat) (1 : Nat)) = toI (a.rows ((0 : Nat) + (↑a_6.i : Int).toNat) (1 : Nat)) ∧
  ((0 : Nat) = (0 : Nat) ∧
  n = n ∧
  cap = cap) ∧
  ((0 : Nat) = (0 : Nat) ∧
  (dropM a_17.l a_17.i).length = a_21.nl.length ∧
  b = a_21.ncap) ∧
  (a.n ≤ a.n ∧
  RowsEq a.n (3 : Nat) a.rows a.rows) ∧
  Snap a.gA = Snap a.gA ∧
  (a_21.nl.length ≤ (dropM a_17.l a_17.i).length ∧
  RowsEq a_21.nl.length (21 : Nat) (encRows encRM (dropM a_17.l a_17.i)) (encRows encRM a_21.nl)) ∧
  (n ≤ n ∧
  RowsEq n (21 : Nat) rows rows) ∧
  (a_21.cs.length ≤ (4 : Nat) * a_6.i + (4 : Nat) ∧
  StOk a.gA a_21) ∧
  True)))) ∧
  ((toI (a.rows ((0 : Nat) + (↑a_6.i : Int).toNat) (0 : Nat)) == (1 : Int)) = Bool.false →
  ((toI (a.rows ((0 : Nat) + (↑a_6.i : Int).toNat) (0 : Nat)) == (2 : Int)) = Bool.true →
  InR IntKind.i64 (toI (a.rows ((0 : Nat) + (↑a_6.i : Int).toNat) (1 : Nat))) →
  ∃ (a_17 : LookA), (0 : Nat) = (0 : Nat) ∧
  toI (a.rows ((0 : Nat) + (↑a_6.i : Int).toNat) (1 : Nat)) = a_17.i ∧
  Snap a_6.g = Snap a_17.gO ∧
  ((0 : Nat) = (0 : Nat) ∧
  a_6.nl.length = a_17.l.length ∧
  a_6.ncap = a_17.cap) ∧
  (a_17.l.length ≤ a_6.nl.length ∧
  RowsEq a_17.l.length (21 : Nat) (encRows encRM a_6.nl) (encRows encRM a_17.l)) ∧
  Snap a.gA = Snap a_17.gA ∧
  (a_17.l.length ≤ (300 : Nat) ∧
  Likes a_17.gO a_17.gA a_17.l a_17.cs ∧
  allLens a_17.cs) ∧
  ∀ (b : LookB), looked a_17 b →
  (InR IntKind.i64 (toI (a.rows ((0 : Nat) + (↑a_6.i : Int).toNat) (0 : Nat))) →
  ((toI (a.rows ((0 : Nat) + (↑a_6.i : Int).toNat) (0 : Nat)) == (1 : Int)) = Bool.true →
  InR IntKind.i64 (toI (a.rows ((0 : Nat) + (↑a_6.i : Int).toNat) (1 : Nat))) →
  ∃ (a_22 : LookA), (0 : Nat) = (0 : Nat) ∧
  toI (a.rows ((0 : Nat) + (↑a_6.i : Int).toNat) (1 : Nat)) = a_22.i ∧
  ((0 : Nat) = (0 : Nat) ∧
  a_6.nl.length = a_22.l.length ∧
  a_6.ncap = a_22.cap) ∧
  (a_22.l.length ≤ a_6.nl.length ∧
  RowsEq a_22.l.length (21 : Nat) (encRows encRM a_6.nl) (encRows encRM a_22.l)) ∧
  Snap b.g = Snap a_22.gO ∧
  Snap a.gA = Snap a_22.gA ∧
  (a_22.l.length ≤ (300 : Nat) ∧
  a_22.l.length ≤ a_22.cap ∧
  Likes a_22.gO a_22.gA a_22.l a_22.cs ∧
  allLens a_22.cs) ∧
  ∀ (b : TakeB), looked a_22 b.b ∧
  (dropM a_22.l a_22.i).length ≤ b.cap →
  ∃ (a_24 : Mids), lookB a_22.l a_22.i = lookB a_17.l a_17.i ∧
  (0 : Nat) = (0 : Nat) ∧
  (toI (a.rows ((0 : Nat) + (↑a_6.i : Int).toNat) (0 : Nat)) == (2 : Int)) = (toI (a.rows ((0 : Nat) + (↑a_6.i : Int).toNat) (0 : Nat)) == (2 : Int)) ∧
  (toI (a.rows ((0 : Nat) + (↑a_6.i : Int).toNat) (0 : Nat)) == (0 : Int)) = (toI (a.rows ((0 : Nat) + (↑a_6.i : Int).toNat) (0 : Nat)) == (0 : Int)) ∧
  toI (a.rows ((0 : Nat) + (↑a_6.i : Int).toNat) (0 : Nat)) = toI (a.rows ((0 : Nat) + (↑a_6.i : Int).toNat) (0 : Nat)) ∧
  a_10 = a_10 ∧
  (0 : Nat) = (0 : Nat) ∧
  Decidable.decide ((↑a_6.i : Int) < (50 : Int)) = Decidable.decide ((↑a_6.i : Int) < (50 : Int)) ∧
  (↑a_6.i : Int) = (↑a_6.i : Int) ∧
  ((0 : Nat) = (0 : Nat) ∧
  a_6.l.length = a_6.l.length ∧
  a_6.lcap = a_6.lcap) ∧
  (0 : Nat) = (0 : Nat) ∧
  Bool.false = Bool.false ∧
  Bool.true = Bool.true ∧
  Bool.false = Bool.false ∧
  ((0 : Nat) = (0 : Nat) ∧
  a.n = a.n ∧
  a.cap = a.cap) ∧
  Snap b.b.g = Snap a_24.y.g ∧
  (lookM a_22.l a_22.i).k = (lookM a_6.nl (ix a a_6)).k ∧
  (lookM a_22.l a_22.i).f = (lookM a_6.nl (ix a a_6)).f ∧
  (lookM a_22.l a_22.i).t = (lookM a_6.nl (ix a a_6)).t ∧
  (lookM a_22.l a_22.i).ep = (lookM a_6.nl (ix a a_6)).ep ∧
  (lookM a_22.l a_22.i).ti = (lookM a_6.nl (ix a a_6)).ti ∧
  (lookM a_22.l a_22.i).sq = (lookM a_6.nl (ix a a_6)).sq ∧
  (lookM a_22.l a_22.i).n = (lookM a_6.nl (ix a a_6)).n ∧
  (lookM a_22.l a_22.i).id = (lookM a_6.nl (ix a a_6)).id ∧
  (lookM a_22.l a_22.i).op = (lookM a_6.nl (ix a a_6)).op ∧
  (lookM a_22.l a_22.i).key = (lookM a_6.nl (ix a a_6)).key ∧
  (lookM a_22.l a_22.i).err = (lookM a_6.nl (ix a a_6)).err ∧
  (lookM a_22.l a_22.i).last = (lookM a_6.nl (ix a a_6)).last ∧
  (lookM a_22.l a_22.i).it.key = (lookM a_6.nl (ix a a_6)).it.key ∧
  (lookM a_22.l a_22.i).it.val = (lookM a_6.nl (ix a a_6)).it.val ∧
  (lookM a_22.l a_22.i).it.en = (lookM a_6.nl (ix a a_6)).it.en ∧
  (lookM a_22.l a_22.i).it.gone = (lookM a_6.nl (ix a a_6)).it.gone ∧
  b.b.v.i = a_24.y.v.i ∧
  b.b.v.m = a_24.y.v.m ∧
  b.b.v.n = a_24.y.v.n ∧
  (lookM a_22.l a_22.i).base = (lookM a_6.nl (ix a a_6)).base ∧
  b.b.v.o = a_24.y.v.o ∧
  toI (a.rows ((0 : Nat) + (↑a_6.i : Int).toNat) (0 : Nat)) = toI (a.rows ((0 : Nat) + (↑a_6.i : Int).toNat) (0 : Nat)) ∧
  toI (a.rows ((0 : Nat) + (↑a_6.i : Int).toNat) (1 : Nat)) = toI (a.rows ((0 : Nat) + (↑a_6.i : Int).toNat) (1 : Nat)) ∧
  ((0 : Nat) = (0 : Nat) ∧
  n = n ∧
  cap = cap) ∧
  (a_6.l.length ≤ a_6.l.length ∧
  RowsEq a_6.l.length (21 : Nat) (encRows encRM a_6.l) (encRows encRM a_6.l)) ∧
  ((0 : Nat) = (0 : Nat) ∧
  (dropM a_22.l a_22.i).length = a_24.nl.length ∧
  b.cap = a_24.y.ncap) ∧
  (a.n ≤ a.n ∧
  RowsEq a.n (3 : Nat) a.rows a.rows) ∧
  Snap a.gA = Snap a.gA ∧
  (a_24.nl.length ≤ (dropM a_22.l a_22.i).length ∧
  RowsEq a_24.nl.length (21 : Nat) (encRows encRM (dropM a_22.l a_22.i)) (encRows encRM a_24.nl)) ∧
  (n ≤ n ∧
  RowsEq n (21 : Nat) rows rows) ∧
  ((a_24.nl = if kd a a_6 = (1 : Int) then dropM a_6.nl (ix a a_6) else a_6.nl) ∧
  MidOk a a_6 a_24.nl a_24.y) ∧
  True) ∧
  ((toI (a.rows ((0 : Nat) + (↑a_6.i : Int).toNat) (0 : Nat)) == (1 : Int)) = Bool.false →
  ∃ (a_21 : Mids), lookB a_17.l a_17.i = lookB a_17.l a_17.i ∧
  (0 : Nat) = (0 : Nat) ∧
  (toI (a.rows ((0 : Nat) + (↑a_6.i : Int).toNat) (0 : Nat)) == (2 : Int)) = (toI (a.rows ((0 : Nat) + (↑a_6.i : Int).toNat) (0 : Nat)) == (2 : Int)) ∧
  (toI (a.rows ((0 : Nat) + (↑a_6.i : Int).toNat) (0 : Nat)) == (0 : Int)) = (toI (a.rows ((0 : Nat) + (↑a_6.i : Int).toNat) (0 : Nat)) == (0 : Int)) ∧
  toI (a.rows ((0 : Nat) + (↑a_6.i : Int).toNat) (0 : Nat)) = toI (a.rows ((0 : Nat) + (↑a_6.i : Int).toNat) (0 : Nat)) ∧
  a_10 = a_10 ∧
  (0 : Nat) = (0 : Nat) ∧
  Decidable.decide ((↑a_6.i : Int) < (50 : Int)) = Decidable.decide ((↑a_6.i : Int) < (50 : Int)) ∧
  (↑a_6.i : Int) = (↑a_6.i : Int) ∧
  ((0 : Nat) = (0 : Nat) ∧
  a_6.l.length = a_6.l.length ∧
  a_6.lcap = a_6.lcap) ∧
  (0 : Nat) = (0 : Nat) ∧
  Bool.false = Bool.false ∧
  Bool.true = Bool.true ∧
  Bool.false = Bool.false ∧
  ((0 : Nat) = (0 : Nat) ∧
  a.n = a.n ∧
  a.cap = a.cap) ∧
  Snap b.g = Snap a_21.y.g ∧
  (lookM a_17.l a_17.i).k = (lookM a_6.nl (ix a a_6)).k ∧
  (lookM a_17.l a_17.i).f = (lookM a_6.nl (ix a a_6)).f ∧
  (lookM a_17.l a_17.i).t = (lookM a_6.nl (ix a a_6)).t ∧
  (lookM a_17.l a_17.i).ep = (lookM a_6.nl (ix a a_6)).ep ∧
  (lookM a_17.l a_17.i).ti = (lookM a_6.nl (ix a a_6)).ti ∧
  (lookM a_17.l a_17.i).sq = (lookM a_6.nl (ix a a_6)).sq ∧
  (lookM a_17.l a_17.i).n = (lookM a_6.nl (ix a a_6)).n ∧
  (lookM a_17.l a_17.i).id = (lookM a_6.nl (ix a a_6)).id ∧
  (lookM a_17.l a_17.i).op = (lookM a_6.nl (ix a a_6)).op ∧
  (lookM a_17.l a_17.i).key = (lookM a_6.nl (ix a a_6)).key ∧
  (lookM a_17.l a_17.i).err = (lookM a_6.nl (ix a a_6)).err ∧
  (lookM a_17.l a_17.i).last = (lookM a_6.nl (ix a a_6)).last ∧
  (lookM a_17.l a_17.i).it.key = (lookM a_6.nl (ix a a_6)).it.key ∧
  (lookM a_17.l a_17.i).it.val = (lookM a_6.nl (ix a a_6)).it.val ∧
  (lookM a_17.l a_17.i).it.en = (lookM a_6.nl (ix a a_6)).it.en ∧
  (lookM a_17.l a_17.i).it.gone = (lookM a_6.nl (ix a a_6)).it.gone ∧
  b.v.i = a_21.y.v.i ∧
  b.v.m = a_21.y.v.m ∧
  b.v.n = a_21.y.v.n ∧
  (lookM a_17.l a_17.i).base = (lookM a_6.nl (ix a a_6)).base ∧
  b.v.o = a_21.y.v.o ∧
  toI (a.rows ((0 : Nat) + (↑a_6.i : Int).toNat) (0 : Nat)) = toI (a.rows ((0 : Nat) + (↑a_6.i : Int).toNat) (0 : Nat)) ∧
  toI (a.rows ((0 : Nat) + (↑a_6.i : Int).toNat) (1 : Nat)) = toI (a.rows ((0 : Nat) + (↑a_6.i : Int).toNat) (1 : Nat)) ∧
  ((0 : Nat) = (0 : Nat) ∧
  n = n ∧
  cap = cap) ∧
  (a_6.l.length ≤ a_6.l.length ∧
  RowsEq a_6.l.length (21 : Nat) (encRows encRM a_6.l) (encRows encRM a_6.l)) ∧
  ((0 : Nat) = (0 : Nat) ∧
  a_6.nl.length = a_21.nl.length ∧
  a_6.ncap = a_21.y.ncap) ∧
  (a.n ≤ a.n ∧
  RowsEq a.n (3 : Nat) a.rows a.rows) ∧
  Snap a.gA = Snap a.gA ∧
  (a_21.nl.length ≤ a_6.nl.length ∧
  RowsEq a_21.nl.length (21 : Nat) (encRows encRM a_6.nl) (encRows encRM a_21.nl)) ∧
  (n ≤ n ∧
  RowsEq n (21 : Nat) rows rows) ∧
  ((a_21.nl = if kd a a_6 = (1 : Int) then dropM a_6.nl (ix a a_6) else a_6.nl) ∧
  MidOk a a_6 a_21.nl a_21.y) ∧
  True)) ∧
  ∀ (a_19 : Mids), (a_19.nl = if kd a a_6 = (1 : Int) then dropM a_6.nl (ix a a_6) else a_6.nl) ∧
  MidOk a a_6 a_19.nl a_19.y →
  ((!lookB a_17.l a_17.i == a_10) = Bool.true →
  ∃ (b : Unit), Bool.false = Bool.true ∧
  True ∧
  True) ∧
  ((!lookB a_17.l a_17.i == a_10) = Bool.false →
  (a_10 = Bool.true →
  InR IntKind.i64 (toI (a.rows ((0 : Nat) + (↑a_6.i : Int).toNat) (1 : Nat))) →
  ((0 : Int) ≤ toI (a.rows ((0 : Nat) + (↑a_6.i : Int).toNat) (1 : Nat)) ∧
  toI (a.rows ((0 : Nat) + (↑a_6.i : Int).toNat) (1 : Nat)) < (↑a_6.l.length : Int)) ∧
  (0 : Nat) + (toI (a.rows ((0 : Nat) + (↑a_6.i : Int).toNat) (1 : Nat))).toNat < a_6.l.length ∧
  ∃ (a_24 : EqVA), (lookM a_6.nl (ix a a_6)).k = a_24.a.m.k ∧
  (lookM a_6.nl (ix a a_6)).f = a_24.a.m.f ∧
  (lookM a_6.nl (ix a a_6)).t = a_24.a.m.t ∧
  (lookM a_6.nl (ix a a_6)).ep = a_24.a.m.ep ∧
  (lookM a_6.nl (ix a a_6)).ti = a_24.a.m.ti ∧
  (lookM a_6.nl (ix a a_6)).sq = a_24.a.m.sq ∧
  (lookM a_6.nl (ix a a_6)).n = a_24.a.m.n ∧
  (lookM a_6.nl (ix a a_6)).id = a_24.a.m.id ∧
  (lookM a_6.nl (ix a a_6)).op = a_24.a.m.op ∧
  (lookM a_6.nl (ix a a_6)).key = a_24.a.m.key ∧
  (lookM a_6.nl (ix a a_6)).err = a_24.a.m.err ∧
  (lookM a_6.nl (ix a a_6)).last = a_24.a.m.last ∧
  (lookM a_6.nl (ix a a_6)).it.key = a_24.a.m.it.key ∧
  (lookM a_6.nl (ix a a_6)).it.val = a_24.a.m.it.val ∧
  (lookM a_6.nl (ix a a_6)).it.en = a_24.a.m.it.en ∧
  (lookM a_6.nl (ix a a_6)).it.gone = a_24.a.m.it.gone ∧
  a_19.y.v.i = a_24.v.i ∧
  a_19.y.v.m = a_24.v.m ∧
  a_19.y.v.n = a_24.v.n ∧
  (lookM a_6.nl (ix a a_6)).base = a_24.a.m.base ∧
  a_19.y.v.o = a_24.v.o ∧
  (gl a_6.l ((0 : Nat) + (toI (a.rows ((0 : Nat) + (↑a_6.i : Int).toNat) (1 : Nat))).toNat)).m.k = a_24.a.m.k ∧
  (gl a_6.l ((0 : Nat) + (toI (a.rows ((0 : Nat) + (↑a_6.i : Int).toNat) (1 : Nat))).toNat)).m.f = a_24.a.m.f ∧
  (gl a_6.l ((0 : Nat) + (toI (a.rows ((0 : Nat) + (↑a_6.i : Int).toNat) (1 : Nat))).toNat)).m.t = a_24.a.m.t ∧
  (gl a_6.l ((0 : Nat) + (toI (a.rows ((0 : Nat) + (↑a_6.i : Int).toNat) (1 : Nat))).toNat)).m.ep = a_24.a.m.ep ∧
  (gl a_6.l ((0 : Nat) + (toI (a.rows ((0 : Nat) + (↑a_6.i : Int).toNat) (1 : Nat))).toNat)).m.ti = a_24.a.m.ti ∧
  (gl a_6.l ((0 : Nat) + (toI (a.rows ((0 : Nat) + (↑a_6.i : Int).toNat) (1 : Nat))).toNat)).m.sq = a_24.a.m.sq ∧
  (gl a_6.l ((0 : Nat) + (toI (a.rows ((0 : Nat) + (↑a_6.i : Int).toNat) (1 : Nat))).toNat)).m.n = a_24.a.m.n ∧
  (gl a_6.l ((0 : Nat) + (toI (a.rows ((0 : Nat) + (↑a_6.i : Int).toNat) (1 : Nat))).toNat)).m.id = a_24.a.m.id ∧
  (gl a_6.l ((0 : Nat) + (toI (a.rows ((0 : Nat) + (↑a_6.i : Int).toNat) (1 : Nat))).toNat)).m.op = a_24.a.m.op ∧
  (gl a_6.l ((0 : Nat) + (toI (a.rows ((0 : Nat) + (↑a_6.i : Int).toNat) (1 : Nat))).toNat)).m.key = a_24.a.m.key ∧
  (gl a_6.l ((0 : Nat) + (toI (a.rows ((0 : Nat) + (↑a_6.i : Int).toNat) (1 : Nat))).toNat)).m.err = a_24.a.m.err ∧
  (gl a_6.l ((0 : Nat) + (toI (a.rows ((0 : Nat) + (↑a_6.i : Int).toNat) (1 : Nat))).toNat)).m.last = a_24.a.m.last ∧
  (gl a_6.l ((0 : Nat) + (toI (a.rows ((0 : Nat) + (↑a_6.i : Int).toNat) (1 : Nat))).toNat)).m.it.key = a_24.a.m.it.key ∧
  (gl a_6.l ((0 : Nat) + (toI (a.rows ((0 : Nat) + (↑a_6.i : Int).toNat) (1 : Nat))).toNat)).m.it.val = a_24.a.m.it.val ∧
  (gl a_6.l ((0 : Nat) + (toI (a.rows ((0 : Nat) + (↑a_6.i : Int).toNat) (1 : Nat))).toNat)).m.it.en = a_24.a.m.it.en ∧
  (gl a_6.l ((0 : Nat) + (toI (a.rows ((0 : Nat) + (↑a_6.i : Int).toNat) (1 : Nat))).toNat)).m.it.gone = a_24.a.m.it.gone ∧
  encRows encRM a_6.l ((0 : Nat) + (toI (a.rows ((0 : Nat) + (↑a_6.i : Int).toNat) (1 : Nat))).toNat) (16 : Nat) = a_24.v2.i ∧
  encRows encRM a_6.l ((0 : Nat) + (toI (a.rows ((0 : Nat) + (↑a_6.i : Int).toNat) (1 : Nat))).toNat) (17 : Nat) = a_24.v2.m ∧
  encRows encRM a_6.l ((0 : Nat) + (toI (a.rows ((0 : Nat) + (↑a_6.i : Int).toNat) (1 : Nat))).toNat) (18 : Nat) = a_24.v2.n ∧
  (gl a_6.l ((0 : Nat) + (toI (a.rows ((0 : Nat) + (↑a_6.i : Int).toNat) (1 : Nat))).toNat)).m.base = a_24.a.m.base ∧
  encRows encRM a_6.l ((0 : Nat) + (toI (a.rows ((0 : Nat) + (↑a_6.i : Int).toNat) (1 : Nat))).toNat) (20 : Nat) = a_24.v2.o ∧
  Snap a_19.y.g = Snap a_24.gO ∧
  Snap a.gA = Snap a_24.gA ∧
  ((a_24.a.il.length < (100000 : Nat) ∧
  a_24.a.ml.length < (100000 : Nat) ∧
  a_24.a.nl.length < (100000 : Nat) ∧
  a_24.a.ol.length < (100000 : Nat)) ∧
  Has a_24.gO a_24.gA a_24.v a_24.a ∧
  Has a_24.gO a_24.gA a_24.v2 (a_24.a.caps a_24.c)) ∧
  ∀ (b : Unit), True →
  ((!a_10) = Bool.true →
  InR IntKind.i64 (lookM a_6.nl (ix a a_6)).k →
  (((lookM a_6.nl (ix a a_6)).k != (0 : Int)) = Bool.true →
  ∃ (b : Unit), Bool.false = Bool.true ∧
  True ∧
  True) ∧
  (((lookM a_6.nl (ix a a_6)).k != (0 : Int)) = Bool.false →
  (a_10 = Bool.true →
  InR IntKind.i64 (toI (a.rows ((0 : Nat) + (↑a_6.i : Int).toNat) (0 : Nat))) →
  ((toI (a.rows ((0 : Nat) + (↑a_6.i : Int).toNat) (0 : Nat)) == (1 : Int)) = Bool.true →
  InR IntKind.i64 (toI (a.rows ((0 : Nat) + (↑a_6.i : Int).toNat) (1 : Nat))) →
  InR IntKind.i64 (toI (a.rows ((0 : Nat) + (↑a_6.i : Int).toNat) (1 : Nat))) →
  ((0 : Int) ≤ toI (a.rows ((0 : Nat) + (↑a_6.i : Int).toNat) (1 : Nat)) ∧
  toI (a.rows ((0 : Nat) + (↑a_6.i : Int).toNat) (1 : Nat)) ≤ (↑a_6.lcap : Int)) ∧
  ((0 : Int) ≤ toI (a.rows ((0 : Nat) + (↑a_6.i : Int).toNat) (1 : Nat)) ∧
  toI (a.rows ((0 : Nat) + (↑a_6.i : Int).toNat) (1 : Nat)) ≤ (↑(toI (a.rows ((0 : Nat) + (↑a_6.i : Int).toNat) (1 : Nat))).toNat : Int)) ∧
  (InR IntKind.i64 (toI (a.rows ((0 : Nat) + (↑a_6.i : Int).toNat) (1 : Nat))) →
  InR IntKind.i64 (toI (a.rows ((0 : Nat) + (↑a_6.i : Int).toNat) (1 : Nat)) + (1 : Int)) ∧
  ((0 : Int) ≤ toI (a.rows ((0 : Nat) + (↑a_6.i : Int).toNat) (1 : Nat)) + (1 : Int) ∧
  toI (a.rows ((0 : Nat) + (↑a_6.i : Int).toNat) (1 : Nat)) + (1 : Int) ≤ (↑a_6.l.length : Int)) ∧
  (0 : Nat) + ((toI (a.rows ((0 : Nat) + (↑a_6.i : Int).toNat) (1 : Nat))).toNat - (0 : Nat)) ≤ a_6.l.length ∧
  (0 : Nat) + (toI (a.rows ((0 : Nat) + (↑a_6.i : Int).toNat) (1 : Nat)) + (1 : Int)).toNat + (a_6.l.length - (toI (a.rows ((0 : Nat) + (↑a_6.i : Int).toNat) (1 : Nat)) + (1 : Int)).toNat) ≤ a_6.l.length ∧
  ((toI (a.rows ((0 : Nat) + (↑a_6.i : Int).toNat) (1 : Nat))).toNat - (0 : Nat) + (a_6.l.length - (toI (a.rows ((0 : Nat) + (↑a_6.i : Int).toNat) (1 : Nat)) + (1 : Int)).toNat)) * (256 : Nat) ≤ (140737488355328 : Nat) ∧
  ∀ (cap_1 : Nat), (toI (a.rows ((0 : Nat) + (↑a_6.i : Int).toNat) (1 : Nat))).toNat - (0 : Nat) + (a_6.l.length - (toI (a.rows ((0 : Nat) + (↑a_6.i : Int).toNat) (1 : Nat)) + (1 : Int)).toNat) ≤ cap_1 →
  cap_1 ≤ lenMax →
  ((toI (a.rows ((0 : Nat) + (↑a_6.i : Int).toNat) (1 : Nat))).toNat - (0 : Nat) + (a_6.l.length - (toI (a.rows ((0 : Nat) + (↑a_6.i : Int).toNat) (1 : Nat)) + (1 : Int)).toNat) ≤ (toI (a.rows ((0 : Nat) + (↑a_6.i : Int).toNat) (1 : Nat))).toNat - (0 : Nat) →
  cap_1 = (toI (a.rows ((0 : Nat) + (↑a_6.i : Int).toNat) (1 : Nat))).toNat - (0 : Nat)) →
  ∃ (a_38 : St), ((0 : Nat) = (0 : Nat) ∧
  (toI (a.rows ((0 : Nat) + (↑a_6.i : Int).toNat) (1 : Nat))).toNat - (0 : Nat) + (a_6.l.length - (toI (a.rows ((0 : Nat) + (↑a_6.i : Int).toNat) (1 : Nat)) + (1 : Int)).toNat) = a_38.l.length ∧
  cap_1 = a_38.lcap) ∧
  a_10 = a_10 ∧
  (0 : Nat) = (0 : Nat) ∧
  Decidable.decide ((↑a_6.i : Int) < (50 : Int)) = Decidable.decide ((↑a_6.i : Int) < (50 : Int)) ∧
  (↑a_6.i : Int) = (↑a_6.i : Int) ∧
  (0 : Nat) = (0 : Nat) ∧
  Bool.false = Bool.false ∧
  Bool.true = Bool.true ∧
  Bool.false = Bool.false ∧
  ((0 : Nat) = (0 : Nat) ∧
  a.n = a.n ∧
  a.cap = a.cap) ∧
  Snap a_24.gO = Snap a_38.g ∧
  (a_38.l.length ≤ (toI (a.rows ((0 : Nat) + (↑a_6.i : Int).toNat) (1 : Nat))).toNat - (0 : Nat) + (a_6.l.length - (toI (a.rows ((0 : Nat) + (↑a_6.i : Int).toNat) (1 : Nat)) + (1 : Int)).toNat) ∧
  RowsEq a_38.l.length (21 : Nat) (appRows (encRows encRM a_6.l) (0 : Nat) ((toI (a.rows ((0 : Nat) + (↑a_6.i : Int).toNat) (1 : Nat))).toNat - (0 : Nat)) fun (i j : Nat) => encRows encRM a_6.l ((0 : Nat) + (toI (a.rows ((0 : Nat) + (↑a_6.i : Int).toNat) (1 : Nat)) + (1 : Int)).toNat + i) j) (encRows encRM a_38.l)) ∧
  toI (a.rows ((0 : Nat) + (↑a_6.i : Int).toNat) (0 : Nat)) = toI (a.rows ((0 : Nat) + (↑a_6.i : Int).toNat) (0 : Nat)) ∧
  toI (a.rows ((0 : Nat) + (↑a_6.i : Int).toNat) (1 : Nat)) = toI (a.rows ((0 : Nat) + (↑a_6.i : Int).toNat) (1 : Nat)) ∧
  ((0 : Nat) = (0 : Nat) ∧
  n = n ∧
  cap = cap) ∧
  ((0 : Nat) = (0 : Nat) ∧
  a_19.nl.length = a_38.nl.length ∧
  a_19.y.ncap = a_38.ncap) ∧
  (a.n ≤ a.n ∧
  RowsEq a.n (3 : Nat) a.rows a.rows) ∧
  Snap a.gA = Snap a.gA ∧
  (a_38.nl.length ≤ a_19.nl.length ∧
  RowsEq a_38.nl.length (21 : Nat) (encRows encRM a_19.nl) (encRows encRM a_38.nl)) ∧
  (n ≤ n ∧
  RowsEq n (21 : Nat) rows rows) ∧
  (a_38.cs.length ≤ (4 : Nat) * a_6.i + (4 : Nat) ∧
  StOk a.gA a_38) ∧
  True)) ∧
  ((toI (a.rows ((0 : Nat) + (↑a_6.i : Int).toNat) (0 : Nat)) == (1 : Int)) = Bool.false →
  ∃ (a_32 : St), ((0 : Nat) = (0 : Nat) ∧
  a_6.l.length = a_32.l.length ∧
  a_6.lcap = a_32.lcap) ∧
  a_10 = a_10 ∧
  (0 : Nat) = (0 : Nat) ∧
  Decidable.decide ((↑a_6.i : Int) < (50 : Int)) = Decidable.decide ((↑a_6.i : Int) < (50 : Int)) ∧
  (↑a_6.i : Int) = (↑a_6.i : Int) ∧
  (0 : Nat) = (0 : Nat) ∧
  Bool.false = Bool.false ∧
  Bool.true = Bool.true ∧
  Bool.false = Bool.false ∧
  ((0 : Nat) = (0 : Nat) ∧
  a.n = a.n ∧
  a.cap = a.cap) ∧
  Snap a_24.gO = Snap a_32.g ∧
  (a_32.l.length ≤ a_6.l.length ∧
  RowsEq a_32.l.length (21 : Nat) (encRows encRM a_6.l) (encRows encRM a_32.l)) ∧
  toI (a.rows ((0 : Nat) + (↑a_6.i : Int).toNat) (0 : Nat)) = toI (a.rows ((0 : Nat) + (↑a_6.i : Int).toNat) (0 : Nat)) ∧
  toI (a.rows ((0 : Nat) + (↑a_6.i : Int).toNat) (1 : Nat)) = toI (a.rows ((0 : Nat) + (↑a_6.i : Int).toNat) (1 : Nat)) ∧
  ((0 : Nat) = (0 : Nat) ∧
  n = n ∧
  cap = cap) ∧
  ((0 : Nat) = (0 : Nat) ∧
  a_19.nl.length = a_32.nl.length ∧
  a_19.y.ncap = a_32.ncap) ∧
  (a.n ≤ a.n ∧
  RowsEq a.n (3 : Nat) a.rows a.rows) ∧
  Snap a.gA = Snap a.gA ∧
  (a_32.nl.length ≤ a_19.nl.length ∧
  RowsEq a_32.nl.length (21 : Nat) (encRows encRM a_19.nl) (encRows encRM a_32.nl)) ∧
  (n ≤ n ∧
  RowsEq n (21 : Nat) rows rows) ∧
  (a_32.cs.length ≤ (4 : Nat) * a_6.i + (4 : Nat) ∧
  StOk a.gA a_32) ∧
  True)) ∧
  (a_10 = Bool.false →
  ∃ (a_30 : St), ((0 : Nat) = (0 : Nat) ∧
  a_6.l.length = a_30.l.length ∧
  a_6.lcap = a_30.lcap) ∧
  a_10 = a_10 ∧
  (0 : Nat) = (0 : Nat) ∧
  Decidable.decide ((↑a_6.i : Int) < (50 : Int)) = Decidable.decide ((↑a_6.i : Int) < (50 : Int)) ∧
  (↑a_6.i : Int) = (↑a_6.i : Int) ∧
  (0 : Nat) = (0 : Nat) ∧
  Bool.false = Bool.false ∧
  Bool.true = Bool.true ∧
  Bool.false = Bool.false ∧
  ((0 : Nat) = (0 : Nat) ∧
  a.n = a.n ∧
  a.cap = a.cap) ∧
  Snap a_24.gO = Snap a_30.g ∧
  (a_30.l.length ≤ a_6.l.length ∧
  RowsEq a_30.l.length (21 : Nat) (encRows encRM a_6.l) (encRows encRM a_30.l)) ∧
  toI (a.rows ((0 : Nat) + (↑a_6.i : Int).toNat) (0 : Nat)) = toI (a.rows ((0 : Nat) + (↑a_6.i : Int).toNat) (0 : Nat)) ∧
  toI (a.rows ((0 : Nat) + (↑a_6.i : Int).toNat) (1 : Nat)) = toI (a.rows ((0 : Nat) + (↑a_6.i : Int).toNat) (1 : Nat)) ∧
  ((0 : Nat) = (0 : Nat) ∧
  n = n ∧
  cap = cap) ∧
  ((0 : Nat) = (0 : Nat) ∧
  a_19.nl.length = a_30.nl.length ∧
  a_19.y.ncap = a_30.ncap) ∧
  (a.n ≤ a.n ∧
  RowsEq a.n (3 : Nat) a.rows a.rows) ∧
  Snap a.gA = Snap a.gA ∧
  (a_30.nl.length ≤ a_19.nl.length ∧
  RowsEq a_30.nl.length (21 : Nat) (encRows encRM a_19.nl) (encRows encRM a_30.nl)) ∧
  (n ≤ n ∧
  RowsEq n (21 : Nat) rows rows) ∧
  (a_30.cs.length ≤ (4 : Nat) * a_6.i + (4 : Nat) ∧
  StOk a.gA a_30) ∧
  True))) ∧
  ((!a_10) = Bool.false →
  (a_10 = Bool.true →
  InR IntKind.i64 (toI (a.rows ((0 : Nat) + (↑a_6.i : Int).toNat) (0 : Nat))) →
  ((toI (a.rows ((0 : Nat) + (↑a_6.i : Int).toNat) (0 : Nat)) == (1 : Int)) = Bool.true →
  InR IntKind.i64 (toI (a.rows ((0 : Nat) + (↑a_6.i : Int).toNat) (1 : Nat))) →
  InR IntKind.i64 (toI (a.rows ((0 : Nat) + (↑a_6.i : Int).toNat) (1 : Nat))) →
  ((0 : Int) ≤ toI (a.rows ((0 : Nat) + (↑a_6.i : Int).toNat) (1 : Nat)) ∧
  toI (a.rows ((0 : Nat) + (↑a_6.i : Int).toNat) (1 : Nat)) ≤ (↑a_6.lcap : Int)) ∧
  ((0 : Int) ≤ toI (a.rows ((0 : Nat) + (↑a_6.i : Int).toNat) (1 : Nat)) ∧
  toI (a.rows ((0 : Nat) + (↑a_6.i : Int).toNat) (1 : Nat)) ≤ (↑(toI (a.rows ((0 : Nat) + (↑a_6.i : Int).toNat) (1 : Nat))).toNat : Int)) ∧
  (InR IntKind.i64 (toI (a.rows ((0 : Nat) + (↑a_6.i : Int).toNat) (1 : Nat))) →
  InR IntKind.i64 (toI (a.rows ((0 : Nat) + (↑a_6.i : Int).toNat) (1 : Nat)) + (1 : Int)) ∧
  ((0 : Int) ≤ toI (a.rows ((0 : Nat) + (↑a_6.i : Int).toNat) (1 : Nat)) + (1 : Int) ∧
  toI (a.rows ((0 : Nat) + (↑a_6.i : Int).toNat) (1 : Nat)) + (1 : Int) ≤ (↑a_6.l.length : Int)) ∧
  (0 : Nat) + ((toI (a.rows ((0 : Nat) + (↑a_6.i : Int).toNat) (1 : Nat))).toNat - (0 : Nat)) ≤ a_6.l.length ∧
  (0 : Nat) + (toI (a.rows ((0 : Nat) + (↑a_6.i : Int).toNat) (1 : Nat)) + (1 : Int)).toNat + (a_6.l.length - (toI (a.rows ((0 : Nat) + (↑a_6.i : Int).toNat) (1 : Nat)) + (1 : Int)).toNat) ≤ a_6.l.length ∧
  ((toI (a.rows ((0 : Nat) + (↑a_6.i : Int).toNat) (1 : Nat))).toNat - (0 : Nat) + (a_6.l.length - (toI (a.rows ((0 : Nat) + (↑a_6.i : Int).toNat) (1 : Nat)) + (1 : Int)).toNat)) * (256 : Nat) ≤ (140737488355328 : Nat) ∧
  ∀ (cap_1 : Nat), (toI (a.rows ((0 : Nat) + (↑a_6.i : Int).toNat) (1 : Nat))).toNat - (0 : Nat) + (a_6.l.length - (toI (a.rows ((0 : Nat) + (↑a_6.i : Int).toNat) (1 : Nat)) + (1 : Int)).toNat) ≤ cap_1 →
  cap_1 ≤ lenMax →
  ((toI (a.rows ((0 : Nat) + (↑a_6.i : Int).toNat) (1 : Nat))).toNat - (0 : Nat) + (a_6.l.length - (toI (a.rows ((0 : Nat) + (↑a_6.i : Int).toNat) (1 : Nat)) + (1 : Int)).toNat) ≤ (toI (a.rows ((0 : Nat) + (↑a_6.i : Int).toNat) (1 : Nat))).toNat - (0 : Nat) →
  cap_1 = (toI (a.rows ((0 : Nat) + (↑a_6.i : Int).toNat) (1 : Nat))).toNat - (0 : Nat)) →
  ∃ (a_36 : St), ((0 : Nat) = (0 : Nat) ∧
  (toI (a.rows ((0 : Nat) + (↑a_6.i : Int).toNat) (1 : Nat))).toNat - (0 : Nat) + (a_6.l.length - (toI (a.rows ((0 : Nat) + (↑a_6.i : Int).toNat) (1 : Nat)) + (1 : Int)).toNat) = a_36.l.length ∧
  cap_1 = a_36.lcap) ∧
  a_10 = a_10 ∧
  (0 : Nat) = (0 : Nat) ∧
  Decidable.decide ((↑a_6.i : Int) < (50 : Int)) = Decidable.decide ((↑a_6.i : Int) < (50 : Int)) ∧
  (↑a_6.i : Int) = (↑a_6.i : Int) ∧
  (0 : Nat) = (0 : Nat) ∧
  Bool.false = Bool.false ∧
  Bool.true = Bool.true ∧
  Bool.false = Bool.false ∧
  ((0 : Nat) = (0 : Nat) ∧
  a.n = a.n ∧
  a.cap = a.cap) ∧
  Snap a_24.gO = Snap a_36.g ∧
  (a_36.l.length ≤ (toI (a.rows ((0 : Nat) + (↑a_6.i : Int).toNat) (1 : Nat))).toNat - (0 : Nat) + (a_6.l.length - (toI (a.rows ((0 : Nat) + (↑a_6.i : Int).toNat) (1 : Nat)) + (1 : Int)).toNat) ∧
  RowsEq a_36.l.length (21 : Nat) (appRows (encRows encRM a_6.l) (0 : Nat) ((toI (a.rows ((0 : Nat) + (↑a_6.i : Int).toNat) (1 : Nat))).toNat - (0 : Nat)) fun (i j : Nat) => encRows encRM a_6.l ((0 : Nat) + (toI (a.rows ((0 : Nat) + (↑a_6.i : Int).toNat) (1 : Nat)) + (1 : Int)).toNat + i) j) (encRows encRM a_36.l)) ∧
  toI (a.rows ((0 : Nat) + (↑a_6.i : Int).toNat) (0 : Nat)) = toI (a.rows ((0 : Nat) + (↑a_6.i : Int).toNat) (0 : Nat)) ∧
  toI (a.rows ((0 : Nat) + (↑a_6.i : Int).toNat) (1 : Nat)) = toI (a.rows ((0 : Nat) + (↑a_6.i : Int).toNat) (1 : Nat)) ∧
  ((0 : Nat) = (0 : Nat) ∧
  n = n ∧
  cap = cap) ∧
  ((0 : Nat) = (0 : Nat) ∧
  a_19.nl.length = a_36.nl.length ∧
  a_19.y.ncap = a_36.ncap) ∧
  (a.n ≤ a.n ∧
  RowsEq a.n (3 : Nat) a.rows a.rows) ∧
  Snap a.gA = Snap a.gA ∧
  (a_36.nl.length ≤ a_19.nl.length ∧
  RowsEq a_36.nl.length (21 : Nat) (encRows encRM a_19.nl) (encRows encRM a_36.nl)) ∧
  (n ≤ n ∧
  RowsEq n (21 : Nat) rows rows) ∧
  (a_36.cs.length ≤ (4 : Nat) * a_6.i + (4 : Nat) ∧
  StOk a.gA a_36) ∧
  True)) ∧
  ((toI (a.rows ((0 : Nat) + (↑a_6.i : Int).toNat) (0 : Nat)) == (1 : Int)) = Bool.false →
  ∃ (a_30 : St), ((0 : Nat) = (0 : Nat) ∧
  a_6.l.length = a_30.l.length ∧
  a_6.lcap = a_30.lcap) ∧
  a_10 = a_10 ∧
  (0 : Nat) = (0 : Nat) ∧
  Decidable.decide ((↑a_6.i : Int) < (50 : Int)) = Decidable.decide ((↑a_6.i : Int) < (50 : Int)) ∧
  (↑a_6.i : Int) = (↑a_6.i : Int) ∧
  (0 : Nat) = (0 : Nat) ∧
  Bool.false = Bool.false ∧
  Bool.true = Bool.true ∧
  Bool.false = Bool.false ∧
  ((0 : Nat) = (0 : Nat) ∧
  a.n = a.n ∧
  a.cap = a.cap) ∧
  Snap a_24.gO = Snap a_30.g ∧
  (a_30.l.length ≤ a_6.l.length ∧
  RowsEq a_30.l.length (21 : Nat) (encRows encRM a_6.l) (encRows encRM a_30.l)) ∧
  toI (a.rows ((0 : Nat) + (↑a_6.i : Int).toNat) (0 : Nat)) = toI (a.rows ((0 : Nat) + (↑a_6.i : Int).toNat) (0 : Nat)) ∧
  toI (a.rows ((0 : Nat) + (↑a_6.i : Int).toNat) (1 : Nat)) = toI (a.rows ((0 : Nat) + (↑a_6.i : Int).toNat) (1 : Nat)) ∧
  ((0 : Nat) = (0 : Nat) ∧
  n = n ∧
  cap = cap) ∧
  ((0 : Nat) = (0 : Nat) ∧
  a_19.nl.length = a_30.nl.length ∧
  a_19.y.ncap = a_30.ncap) ∧
  (a.n ≤ a.n ∧
  RowsEq a.n (3 : Nat) a.rows a.rows) ∧
  Snap a.gA = Snap a.gA ∧
  (a_30.nl.length ≤ a_19.nl.length ∧
  RowsEq a_30.nl.length (21 : Nat) (encRows encRM a_19.nl) (encRows encRM a_30.nl)) ∧
  (n ≤ n ∧
  RowsEq n (21 : Nat) rows rows) ∧
  (a_30.cs.length ≤ (4 : Nat) * a_6.i + (4 : Nat) ∧
  StOk a.gA a_30) ∧
  True)) ∧
  (a_10 = Bool.false →
  ∃ (a_28 : St), ((0 : Nat) = (0 : Nat) ∧
  a_6.l.length = a_28.l.length ∧
  a_6.lcap = a_28.lcap) ∧
  a_10 = a_10 ∧
  (0 : Nat) = (0 : Nat) ∧
  Decidable.decide ((↑a_6.i : Int) < (50 : Int)) = Decidable.decide ((↑a_6.i : Int) < (50 : Int)) ∧
  (↑a_6.i : Int) = (↑a_6.i : Int) ∧
  (0 : Nat) = (0 : Nat) ∧
  Bool.false = Bool.false ∧
  Bool.true = Bool.true ∧
  Bool.false = Bool.false ∧
  ((0 : Nat) = (0 : Nat) ∧
  a.n = a.n ∧
  a.cap = a.cap) ∧
  Snap a_24.gO = Snap a_28.g ∧
  (a_28.l.length ≤ a_6.l.length ∧
  RowsEq a_28.l.length (21 : Nat) (encRows encRM a_6.l) (encRows encRM a_28.l)) ∧
  toI (a.rows ((0 : Nat) + (↑a_6.i : Int).toNat) (0 : Nat)) = toI (a.rows ((0 : Nat) + (↑a_6.i : Int).toNat) (0 : Nat)) ∧
  toI (a.rows ((0 : Nat) + (↑a_6.i : Int).toNat) (1 : Nat)) = toI (a.rows ((0 : Nat) + (↑a_6.i : Int).toNat) (1 : Nat)) ∧
  ((0 : Nat) = (0 : Nat) ∧
  n = n ∧
  cap = cap) ∧
  ((0 : Nat) = (0 : Nat) ∧
  a_19.nl.length = a_28.nl.length ∧
  a_19.y.ncap = a_28.ncap) ∧
  (a.n ≤ a.n ∧
  RowsEq a.n (3 : Nat) a.rows a.rows) ∧
  Snap a.gA = Snap a.gA ∧
  (a_28.nl.length ≤ a_19.nl.length ∧
  RowsEq a_28.nl.length (21 : Nat) (encRows encRM a_19.nl) (encRows encRM a_28.nl)) ∧
  (n ≤ n ∧
  RowsEq n (21 : Nat) rows rows) ∧
  (a_28.cs.length ≤ (4 : Nat) * a_6.i + (4 : Nat) ∧
  StOk a.gA a_28) ∧
  True))) ∧
  (a_10 = Bool.false →
  ((!a_10) = Bool.true →
  InR IntKind.i64 (lookM a_6.nl (ix a a_6)).k →
  (((lookM a_6.nl (ix a a_6)).k != (0 : Int)) = Bool.true →
  ∃ (b : Unit), Bool.false = Bool.true ∧
  True ∧
  True) ∧
  (((lookM a_6.nl (ix a a_6)).k != (0 : Int)) = Bool.false →
  (a_10 = Bool.true →
  InR IntKind.i64 (toI (a.rows ((0 : Nat) + (↑a_6.i : Int).toNat) (0 : Nat))) →
  ((toI (a.rows ((0 : Nat) + (↑a_6.i : Int).toNat) (0 : Nat)) == (1 : Int)) = Bool.true →
  InR IntKind.i64 (toI (a.rows ((0 : Nat) + (↑a_6.i : Int).toNat) (1 : Nat))) →
  InR IntKind.i64 (toI (a.rows ((0 : Nat) + (↑a_6.i : Int).toNat) (1 : Nat))) →
  ((0 : Int) ≤ toI (a.rows ((0 : Nat) + (↑a_6.i : Int).toNat) (1 : Nat)) ∧
  toI (a.rows ((0 : Nat) + (↑a_6.i : Int).toNat) (1 : Nat)) ≤ (↑a_6.lcap : Int)) ∧
  ((0 : Int) ≤ toI (a.rows ((0 : Nat) + (↑a_6.i : Int).toNat) (1 : Nat)) ∧
  toI (a.rows ((0 : Nat) + (↑a_6.i : Int).toNat) (1 : Nat)) ≤ (↑(toI (a.rows ((0 : Nat) + (↑a_6.i : Int).toNat) (1 : Nat))).toNat : Int)) ∧
  (InR IntKind.i64 (toI (a.rows ((0 : Nat) + (↑a_6.i : Int).toNat) (1 : Nat))) →
  InR IntKind.i64 (toI (a.rows ((0 : Nat) + (↑a_6.i : Int).toNat) (1 : Nat)) + (1 : Int)) ∧
  ((0 : Int) ≤ toI (a.rows ((0 : Nat) + (↑a_6.i : Int).toNat) (1 : Nat)) + (1 : Int) ∧
  toI (a.rows ((0 : Nat) + (↑a_6.i : Int).toNat) (1 : Nat)) + (1 : Int) ≤ (↑a_6.l.length : Int)) ∧
  (0 : Nat) + ((toI (a.rows ((0 : Nat) + (↑a_6.i : Int).toNat) (1 : Nat))).toNat - (0 : Nat)) ≤ a_6.l.length ∧
  (0 : Nat) + (toI (a.rows ((0 : Nat) + (↑a_6.i : Int).toNat) (1 : Nat)) + (1 : Int)).toNat + (a_6.l.length - (toI (a.rows ((0 : Nat) + (↑a_6.i : Int).toNat) (1 : Nat)) + (1 : Int)).toNat) ≤ a_6.l.length ∧
  ((toI (a.rows ((0 : Nat) + (↑a_6.i : Int).toNat) (1 : Nat))).toNat - (0 : Nat) + (a_6.l.length - (toI (a.rows ((0 : Nat) + (↑a_6.i : Int).toNat) (1 : Nat)) + (1 : Int)).toNat)) * (256 : Nat) ≤ (140737488355328 : Nat) ∧
  ∀ (cap_1 : Nat), (toI (a.rows ((0 : Nat) + (↑a_6.i : Int).toNat) (1 : Nat))).toNat - (0 : Nat) + (a_6.l.length - (toI (a.rows ((0 : Nat) + (↑a_6.i : Int).toNat) (1 : Nat)) + (1 : Int)).toNat) ≤ cap_1 →
  cap_1 ≤ lenMax →
  ((toI (a.rows ((0 : Nat) + (↑a_6.i : Int).toNat) (1 : Nat))).toNat - (0 : Nat) + (a_6.l.length - (toI (a.rows ((0 : Nat) + (↑a_6.i : Int).toNat) (1 : Nat)) + (1 : Int)).toNat) ≤ (toI (a.rows ((0 : Nat) + (↑a_6.i : Int).toNat) (1 : Nat))).toNat - (0 : Nat) →
  cap_1 = (toI (a.rows ((0 : Nat) + (↑a_6.i : Int).toNat) (1 : Nat))).toNat - (0 : Nat)) →
  ∃ (a_35 : St), ((0 : Nat) = (0 : Nat) ∧
  (toI (a.rows ((0 : Nat) + (↑a_6.i : Int).toNat) (1 : Nat))).toNat - (0 : Nat) + (a_6.l.length - (toI (a.rows ((0 : Nat) + (↑a_6.i : Int).toNat) (1 : Nat)) + (1 : Int)).toNat) = a_35.l.length ∧
  cap_1 = a_35.lcap) ∧
  a_10 = a_10 ∧
  (0 : Nat) = (0 : Nat) ∧
  Decidable.decide ((↑a_6.i : Int) < (50 : Int)) = Decidable.decide ((↑a_6.i : Int) < (50 : Int)) ∧
  (↑a_6.i : Int) = (↑a_6.i : Int) ∧
  (0 : Nat) = (0 : Nat) ∧
  Bool.false = Bool.false ∧
  Bool.true = Bool.true ∧
  Bool.false = Bool.false ∧
  ((0 : Nat) = (0 : Nat) ∧
  a.n = a.n ∧
  a.cap = a.cap) ∧
  Snap a_19.y.g = Snap a_35.g ∧
  (a_35.l.length ≤ (toI (a.rows ((0 : Nat) + (↑a_6.i : Int).toNat) (1 : Nat))).toNat - (0 : Nat) + (a_6.l.length - (toI (a.rows ((0 : Nat) + (↑a_6.i : Int).toNat) (1 : Nat)) + (1 : Int)).toNat) ∧
  RowsEq a_35.l.length (21 : Nat) (appRows (encRows encRM a_6.l) (0 : Nat) ((toI (a.rows ((0 : Nat) + (↑a_6.i : Int).toNat) (1 : Nat))).toNat - (0 : Nat)) fun (i j : Nat) => encRows encRM a_6.l ((0 : Nat) + (toI (a.rows ((0 : Nat) + (↑a_6.i : Int).toNat) (1 : Nat)) + (1 : Int)).toNat + i) j) (encRows encRM a_35.l)) ∧
  toI (a.rows ((0 : Nat) + (↑a_6.i : Int).toNat) (0 : Nat)) = toI (a.rows ((0 : Nat) + (↑a_6.i : Int).toNat) (0 : Nat)) ∧
  toI (a.rows ((0 : Nat) + (↑a_6.i : Int).toNat) (1 : Nat)) = toI (a.rows ((0 : Nat) + (↑a_6.i : Int).toNat) (1 : Nat)) ∧
  ((0 : Nat) = (0 : Nat) ∧
  n = n ∧
  cap = cap) ∧
  ((0 : Nat) = (0 : Nat) ∧
  a_19.nl.length = a_35.nl.length ∧
  a_19.y.ncap = a_35.ncap) ∧
  (a.n ≤ a.n ∧
  RowsEq a.n (3 : Nat) a.rows a.rows) ∧
  Snap a.gA = Snap a.gA ∧
  (a_35.nl.length ≤ a_19.nl.length ∧
  RowsEq a_35.nl.length (21 : Nat) (encRows encRM a_19.nl) (encRows encRM a_35.nl)) ∧
  (n ≤ n ∧
  RowsEq n (21 : Nat) rows rows) ∧
  (a_35.cs.length ≤ (4 : Nat) * a_6.i + (4 : Nat) ∧
  StOk a.gA a_35) ∧
  True)) ∧
  ((toI (a.rows ((0 : Nat) + (↑a_6.i : Int).toNat) (0 : Nat)) == (1 : Int)) = Bool.false →
  ∃ (a_29 : St), ((0 : Nat) = (0 : Nat) ∧
  a_6.l.length = a_29.l.length ∧
  a_6.lcap = a_29.lcap) ∧
  a_10 = a_10 ∧
  (0 : Nat) = (0 : Nat) ∧
  Decidable.decide ((↑a_6.i : Int) < (50 : Int)) = Decidable.decide ((↑a_6.i : Int) < (50 : Int)) ∧
  (↑a_6.i : Int) = (↑a_6.i : Int) ∧
  (0 : Nat) = (0 : Nat) ∧
  Bool.false = Bool.false ∧
  Bool.true = Bool.true ∧
  Bool.false = Bool.false ∧
  ((0 : Nat) = (0 : Nat) ∧
  a.n = a.n ∧
  a.cap = a.cap) ∧
  Snap a_19.y.g = Snap a_29.g ∧
  (a_29.l.length ≤ a_6.l.length ∧
  RowsEq a_29.l.length (21 : Nat) (encRows encRM a_6.l) (encRows encRM a_29.l)) ∧
  toI (a.rows ((0 : Nat) + (↑a_6.i : Int).toNat) (0 : Nat)) = toI (a.rows ((0 : Nat) + (↑a_6.i : Int).toNat) (0 : Nat)) ∧
  toI (a.rows ((0 : Nat) + (↑a_6.i : Int).toNat) (1 : Nat)) = toI (a.rows ((0 : Nat) + (↑a_6.i : Int).toNat) (1 : Nat)) ∧
  ((0 : Nat) = (0 : Nat) ∧
  n = n ∧
  cap = cap) ∧
  ((0 : Nat) = (0 : Nat) ∧
  a_19.nl.length = a_29.nl.length ∧
  a_19.y.ncap = a_29.ncap) ∧
  (a.n ≤ a.n ∧
  RowsEq a.n (3 : Nat) a.rows a.rows) ∧
  Snap a.gA = Snap a.gA ∧
  (a_29.nl.length ≤ a_19.nl.length ∧
  RowsEq a_29.nl.length (21 : Nat) (encRows encRM a_19.nl) (encRows encRM a_29.nl)) ∧
  (n ≤ n ∧
  RowsEq n (21 : Nat) rows rows) ∧
  (a_29.cs.length ≤ (4 : Nat) * a_6.i + (4 : Nat) ∧
  StOk a.gA a_29) ∧
  True)) ∧
  (a_10 = Bool.false →
  ∃ (a_27 : St), ((0 : Nat) = (0 : Nat) ∧
  a_6.l.length = a_27.l.length ∧
  a_6.lcap = a_27.lcap) ∧
  a_10 = a_10 ∧
  (0 : Nat) = (0 : Nat) ∧
  Decidable.decide ((↑a_6.i : Int) < (50 : Int)) = Decidable.decide ((↑a_6.i : Int) < (50 : Int)) ∧
  (↑a_6.i : Int) = (↑a_6.i : Int) ∧
  (0 : Nat) = (0 : Nat) ∧
  Bool.false = Bool.false ∧
  Bool.true = Bool.true ∧
  Bool.false = Bool.false ∧
  ((0 : Nat) = (0 : Nat) ∧
  a.n = a.n ∧
  a.cap = a.cap) ∧
  Snap a_19.y.g = Snap a_27.g ∧
  (a_27.l.length ≤ a_6.l.length ∧
  RowsEq a_27.l.length (21 : Nat) (encRows encRM a_6.l) (encRows encRM a_27.l)) ∧
  toI (a.rows ((0 : Nat) + (↑a_6.i : Int).toNat) (0 : Nat)) = toI (a.rows ((0 : Nat) + (↑a_6.i : Int).toNat) (0 : Nat)) ∧
  toI (a.rows ((0 : Nat) + (↑a_6.i : Int).toNat) (1 : Nat)) = toI (a.rows ((0 : Nat) + (↑a_6.i : Int).toNat) (1 : Nat)) ∧
  ((0 : Nat) = (0 : Nat) ∧
  n = n ∧
  cap = cap) ∧
  ((0 : Nat) = (0 : Nat) ∧
  a_19.nl.length = a_27.nl.length ∧
  a_19.y.ncap = a_27.ncap) ∧
  (a.n ≤ a.n ∧
  RowsEq a.n (3 : Nat) a.rows a.rows) ∧
  Snap a.gA = Snap a.gA ∧
  (a_27.nl.length ≤ a_19.nl.length ∧
  RowsEq a_27.nl.length (21 : Nat) (encRows encRM a_19.nl) (encRows encRM a_27.nl)) ∧
  (n ≤ n ∧
  RowsEq n (21 : Nat) rows rows) ∧
  (a_27.cs.length ≤ (4 : Nat) * a_6.i + (4 : Nat) ∧
  StOk a.gA a_27) ∧
  True))) ∧
  ((!a_10) = Bool.false →
  (a_10 = Bool.true →
  InR IntKind.i64 (toI (a.rows ((0 : Nat) + (↑a_6.i : Int).toNat) (0 : Nat))) →
  ((toI (a.rows ((0 : Nat) + (↑a_6.i : Int).toNat) (0 : Nat)) == (1 : Int)) = Bool.true →
  InR IntKind.i64 (toI (a.rows ((0 : Nat) + (↑a_6.i : Int).toNat) (1 : Nat))) →
  InR IntKind.i64 (toI (a.rows ((0 : Nat) + (↑a_6.i : Int).toNat) (1 : Nat))) →
  ((0 : Int) ≤ toI (a.rows ((0 : Nat) + (↑a_6.i : Int).toNat) (1 : Nat)) ∧
  toI (a.rows ((0 : Nat) + (↑a_6.i : Int).toNat) (1 : Nat)) ≤ (↑a_6.lcap : Int)) ∧
  ((0 : Int) ≤ toI (a.rows ((0 : Nat) + (↑a_6.i : Int).toNat) (1 : Nat)) ∧
  toI (a.rows ((0 : Nat) + (↑a_6.i : Int).toNat) (1 : Nat)) ≤ (↑(toI (a.rows ((0 : Nat) + (↑a_6.i : Int).toNat) (1 : Nat))).toNat : Int)) ∧
  (InR IntKind.i64 (toI (a.rows ((0 : Nat) + (↑a_6.i : Int).toNat) (1 : Nat))) →
  InR IntKind.i64 (toI (a.rows ((0 : Nat) + (↑a_6.i : Int).toNat) (1 : Nat)) + (1 : Int)) ∧
  ((0 : Int) ≤ toI (a.rows ((0 : Nat) + (↑a_6.i : Int).toNat) (1 : Nat)) + (1 : Int) ∧
  toI (a.rows ((0 : Nat) + (↑a_6.i : Int).toNat) (1 : Nat)) + (1 : Int) ≤ (↑a_6.l.length : Int)) ∧
  (0 : Nat) + ((toI (a.rows ((0 : Nat) + (↑a_6.i : Int).toNat) (1 : Nat))).toNat - (0 : Nat)) ≤ a_6.l.length ∧
  (0 : Nat) + (toI (a.rows ((0 : Nat) + (↑a_6.i : Int).toNat) (1 : Nat)) + (1 : Int)).toNat + (a_6.l.length - (toI (a.rows ((0 : Nat) + (↑a_6.i : Int).toNat) (1 : Nat)) + (1 : Int)).toNat) ≤ a_6.l.length ∧
  ((toI (a.rows ((0 : Nat) + (↑a_6.i : Int).toNat) (1 : Nat))).toNat - (0 : Nat) + (a_6.l.length - (toI (a.rows ((0 : Nat) + (↑a_6.i : Int).toNat) (1 : Nat)) + (1 : Int)).toNat)) * (256 : Nat) ≤ (140737488355328 : Nat) ∧
  ∀ (cap_1 : Nat), (toI (a.rows ((0 : Nat) + (↑a_6.i : Int).toNat) (1 : Nat))).toNat - (0 : Nat) + (a_6.l.length - (toI (a.rows ((0 : Nat) + (↑a_6.i : Int).toNat) (1 : Nat)) + (1 : Int)).toNat) ≤ cap_1 →
  cap_1 ≤ lenMax →
  ((toI (a.rows ((0 : Nat) + (↑a_6.i : Int).toNat) (1 : Nat))).toNat - (0 : Nat) + (a_6.l.length - (toI (a.rows ((0 : Nat) + (↑a_6.i : Int).toNat) (1 : Nat)) + (1 : Int)).toNat) ≤ (toI (a.rows ((0 : Nat) + (↑a_6.i : Int).toNat) (1 : Nat))).toNat - (0 : Nat) →
  cap_1 = (toI (a.rows ((0 : Nat) + (↑a_6.i : Int).toNat) (1 : Nat))).toNat - (0 : Nat)) →
  ∃ (a_33 : St), ((0 : Nat) = (0 : Nat) ∧
  (toI (a.rows ((0 : Nat) + (↑a_6.i : Int).toNat) (1 : Nat))).toNat - (0 : Nat) + (a_6.l.length - (toI (a.rows ((0 : Nat) + (↑a_6.i : Int).toNat) (1 : Nat)) + (1 : Int)).toNat) = a_33.l.length ∧
  cap_1 = a_33.lcap) ∧
  a_10 = a_10 ∧
  (0 : Nat) = (0 : Nat) ∧
  Decidable.decide ((↑a_6.i : Int) < (50 : Int)) = Decidable.decide ((↑a_6.i : Int) < (50 : Int)) ∧
  (↑a_6.i : Int) = (↑a_6.i : Int) ∧
  (0 : Nat) = (0 : Nat) ∧
  Bool.false = Bool.false ∧
  Bool.true = Bool.true ∧
  Bool.false = Bool.false ∧
  ((0 : Nat) = (0 : Nat) ∧
  a.n = a.n ∧
  a.cap = a.cap) ∧
  Snap a_19.y.g = Snap a_33.g ∧
  (a_33.l.length ≤ (toI (a.rows ((0 : Nat) + (↑a_6.i : Int).toNat) (1 : Nat))).toNat - (0 : Nat) + (a_6.l.length - (toI (a.rows ((0 : Nat) + (↑a_6.i : Int).toNat) (1 : Nat)) + (1 : Int)).toNat) ∧
  RowsEq a_33.l.length (21 : Nat) (appRows (encRows encRM a_6.l) (0 : Nat) ((toI (a.rows ((0 : Nat) + (↑a_6.i : Int).toNat) (1 : Nat))).toNat - (0 : Nat)) fun (i j : Nat) => encRows encRM a_6.l ((0 : Nat) + (toI (a.rows ((0 : Nat) + (↑a_6.i : Int).toNat) (1 : Nat)) + (1 : Int)).toNat + i) j) (encRows encRM a_33.l)) ∧
  toI (a.rows ((0 : Nat) + (↑a_6.i : Int).toNat) (0 : Nat)) = toI (a.rows ((0 : Nat) + (↑a_6.i : Int).toNat) (0 : Nat)) ∧
  toI (a.rows ((0 : Nat) + (↑a_6.i : Int).toNat) (1 : Nat)) = toI (a.rows ((0 : Nat) + (↑a_6.i : Int).toNat) (1 : Nat)) ∧
  ((0 : Nat) = (0 : Nat) ∧
  n = n ∧
  cap = cap) ∧
  ((0 : Nat) = (0 : Nat) ∧
  a_19.nl.length = a_33.nl.length ∧
  a_19.y.ncap = a_33.ncap) ∧
  (a.n ≤ a.n ∧
  RowsEq a.n (3 : Nat) a.rows a.rows) ∧
  Snap a.gA = Snap a.gA ∧
  (a_33.nl.length ≤ a_19.nl.length ∧
  RowsEq a_33.nl.length (21 : Nat) (encRows encRM a_19.nl) (encRows encRM a_33.nl)) ∧
  (n ≤ n ∧
  RowsEq n (21 : Nat) rows rows) ∧
  (a_33.cs.length ≤ (4 : Nat) * a_6.i + (4 : Nat) ∧
  StOk a.gA a_33) ∧
  True)) ∧
  ((toI (a.rows ((0 : Nat) + (↑a_6.i : Int).toNat) (0 : Nat)) == (1 : Int)) = Bool.false →
  ∃ (a_27 : St), ((0 : Nat) = (0 : Nat) ∧
  a_6.l.length = a_27.l.length ∧
  a_6.lcap = a_27.lcap) ∧
  a_10 = a_10 ∧
  (0 : Nat) = (0 : Nat) ∧
  Decidable.decide ((↑a_6.i : Int) < (50 : Int)) = Decidable.decide ((↑a_6.i : Int) < (50 : Int)) ∧
  (↑a_6.i : Int) = (↑a_6.i : Int) ∧
  (0 : Nat) = (0 : Nat) ∧
  Bool.false = Bool.false ∧
  Bool.true = Bool.true ∧
  Bool.false = Bool.false ∧
  ((0 : Nat) = (0 : Nat) ∧
  a.n = a.n ∧
  a.cap = a.cap) ∧
  Snap a_19.y.g = Snap a_27.g ∧
  (a_27.l.length ≤ a_6.l.length ∧
  RowsEq a_27.l.length (21 : Nat) (encRows encRM a_6.l) (encRows encRM a_27.l)) ∧
  toI (a.rows ((0 : Nat) + (↑a_6.i : Int).toNat) (0 : Nat)) = toI (a.rows ((0 : Nat) + (↑a_6.i : Int).toNat) (0 : Nat)) ∧
  toI (a.rows ((0 : Nat) + (↑a_6.i : Int).toNat) (1 : Nat)) = toI (a.rows ((0 : Nat) + (↑a_6.i : Int).toNat) (1 : Nat)) ∧
  ((0 : Nat) = (0 : Nat) ∧
  n = n ∧
  cap = cap) ∧
  ((0 : Nat) = (0 : Nat) ∧
  a_19.nl.length = a_27.nl.length ∧
  a_19.y.ncap = a_27.ncap) ∧
  (a.n ≤ a.n ∧
  RowsEq a.n (3 : Nat) a.rows a.rows) ∧
  Snap a.gA = Snap a.gA ∧
  (a_27.nl.length ≤ a_19.nl.length ∧
  RowsEq a_27.nl.length (21 : Nat) (encRows encRM a_19.nl) (encRows encRM a_27.nl)) ∧
  (n ≤ n ∧
  RowsEq n (21 : Nat) rows rows) ∧
  (a_27.cs.length ≤ (4 : Nat) * a_6.i + (4 : Nat) ∧
  StOk a.gA a_27) ∧
  True)) ∧
  (a_10 = Bool.false →
  ∃ (a_25 : St), ((0 : Nat) = (0 : Nat) ∧
  a_6.l.length = a_25.l.length ∧
  a_6.lcap = a_25.lcap) ∧
  a_10 = a_10 ∧
  (0 : Nat) = (0 : Nat) ∧
  Decidable.decide ((↑a_6.i : Int) < (50 : Int)) = Decidable.decide ((↑a_6.i : Int) < (50 : Int)) ∧
  (↑a_6.i : Int) = (↑a_6.i : Int) ∧
  (0 : Nat) = (0 : Nat) ∧
  Bool.false = Bool.false ∧
  Bool.true = Bool.true ∧
  Bool.false = Bool.false ∧
  ((0 : Nat) = (0 : Nat) ∧
  a.n = a.n ∧
  a.cap = a.cap) ∧
  Snap a_19.y.g = Snap a_25.g ∧
  (a_25.l.length ≤ a_6.l.length ∧
  RowsEq a_25.l.length (21 : Nat) (encRows encRM a_6.l) (encRows encRM a_25.l)) ∧
  toI (a.rows ((0 : Nat) + (↑a_6.i : Int).toNat) (0 : Nat)) = toI (a.rows ((0 : Nat) + (↑a_6.i : Int).toNat) (0 : Nat)) ∧
  toI (a.rows ((0 : Nat) + (↑a_6.i : Int).toNat) (1 : Nat)) = toI (a.rows ((0 : Nat) + (↑a_6.i : Int).toNat) (1 : Nat)) ∧
  ((0 : Nat) = (0 : Nat) ∧
  n = n ∧
  cap = cap) ∧
  ((0 : Nat) = (0 : Nat) ∧
  a_19.nl.length = a_25.nl.length ∧
  a_19.y.ncap = a_25.ncap) ∧
  (a.n ≤ a.n ∧
  RowsEq a.n (3 : Nat) a.rows a.rows) ∧
  Snap a.gA = Snap a.gA ∧
  (a_25.nl.length ≤ a_19.nl.length ∧
  RowsEq a_25.nl.length (21 : Nat) (encRows encRM a_19.nl) (encRows encRM a_25.nl)) ∧
  (n ≤ n ∧
  RowsEq n (21 : Nat) rows rows) ∧
  (a_25.cs.length ≤ (4 : Nat) * a_6.i + (4 : Nat) ∧
  StOk a.gA a_25) ∧
  True))))) ∧
  ((toI (a.rows ((0 : Nat) + (↑a_6.i : Int).toNat) (0 : Nat)) == (2 : Int)) = Bool.false →
  InR IntKind.i64 (toI (a.rows ((0 : Nat) + (↑a_6.i : Int).toNat) (1 : Nat))) →
  ∃ (a_17 : DropA), (0 : Nat) = (0 : Nat) ∧
  toI (a.rows ((0 : Nat) + (↑a_6.i : Int).toNat) (1 : Nat)) = a_17.i ∧
  ((0 : Nat) = (0 : Nat) ∧
  a_6.nl.length = a_17.l.length ∧
  a_6.ncap = a_17.cap) ∧
  (a_17.l.length ≤ a_6.nl.length ∧
  RowsEq a_17.l.length (21 : Nat) (encRows encRM a_6.nl) (encRows encRM a_17.l)) ∧
  (a_17.l.length ≤ (300 : Nat) ∧
  a_17.l.length ≤ a_17.cap) ∧
  ∀ (b : Nat), (dropM a_17.l a_17.i).length ≤ b →
  ((!lookB a_17.l a_17.i == a_10) = Bool.true →
  ∃ (b : Unit), Bool.false = Bool.true ∧
  True ∧
  True) ∧
  ((!lookB a_17.l a_17.i == a_10) = Bool.false →
  (a_10 = Bool.true →
  InR IntKind.i64 (toI (a.rows ((0 : Nat) + (↑a_6.i : Int).toNat) (1 : Nat))) →
  InR IntKind.i64 (toI (a.rows ((0 : Nat) + (↑a_6.i : Int).toNat) (1 : Nat))) →
  ((0 : Int) ≤ toI (a.rows ((0 : Nat) + (↑a_6.i : Int).toNat) (1 : Nat)) ∧
  toI (a.rows ((0 : Nat) + (↑a_6.i : Int).toNat) (1 : Nat)) ≤ (↑a_6.lcap : Int)) ∧
  ((0 : Int) ≤ toI (a.rows ((0 : Nat) + (↑a_6.i : Int).toNat) (1 : Nat)) ∧
  toI (a.rows ((0 : Nat) + (↑a_6.i : Int).toNat) (1 : Nat)) ≤ (↑(toI (a.rows ((0 : Nat) + (↑a_6.i : Int).toNat) (1 : Nat))).toNat : Int)) ∧
  (InR IntKind.i64 (toI (a.rows ((0 : Nat) + (↑a_6.i : Int).toNat) (1 : Nat))) →
  InR IntKind.i64 (toI (a.rows ((0 : Nat) + (↑a_6.i : Int).toNat) (1 : Nat)) + (1 : Int)) ∧
  ((0 : Int) ≤ toI (a.rows ((0 : Nat) + (↑a_6.i : Int).toNat) (1 : Nat)) + (1 : Int) ∧
  toI (a.rows ((0 : Nat) + (↑a_6.i : Int).toNat) (1 : Nat)) + (1 : Int) ≤ (↑a_6.l.length : Int)) ∧
  (0 : Nat) + ((toI (a.rows ((0 : Nat) + (↑a_6.i : Int).toNat) (1 : Nat))).toNat - (0 : Nat)) ≤ a_6.l.length ∧
  (0 : Nat) + (toI (a.rows ((0 : Nat) + (↑a_6.i : Int).toNat) (1 : Nat)) + (1 : Int)).toNat + (a_6.l.length - (toI (a.rows ((0 : Nat) + (↑a_6.i : Int).toNat) (1 : Nat)) + (1 : Int)).toNat) ≤ a_6.l.length ∧
  ((toI (a.rows ((0 : Nat) + (↑a_6.i : Int).toNat) (1 : Nat))).toNat - (0 : Nat) + (a_6.l.length - (toI (a.rows ((0 : Nat) + (↑a_6.i : Int).toNat) (1 : Nat)) + (1 : Int)).toNat)) * (256 : Nat) ≤ (140737488355328 : Nat) ∧
  ∀ (cap_1 : Nat), (toI (a.rows ((0 : Nat) + (↑a_6.i : Int).toNat) (1 : Nat))).toNat - (0 : Nat) + (a_6.l.length - (toI (a.rows ((0 : Nat) + (↑a_6.i : Int).toNat) (1 : Nat)) + (1 : Int)).toNat) ≤ cap_1 →
  cap_1 ≤ lenMax →
  ((toI (a.rows ((0 : Nat) + (↑a_6.i : Int).toNat) (1 : Nat))).toNat - (0 : Nat) + (a_6.l.length - (toI (a.rows ((0 : Nat) + (↑a_6.i : Int).toNat) (1 : Nat)) + (1 : Int)).toNat) ≤ (toI (a.rows ((0 : Nat) + (↑a_6.i : Int).toNat) (1 : Nat))).toNat - (0 : Nat) →
  cap_1 = (toI (a.rows ((0 : Nat) + (↑a_6.i : Int).toNat) (1 : Nat))).toNat - (0 : Nat)) →
  ∃ (a_27 : St), ((0 : Nat) = (0 : Nat) ∧
  (toI (a.rows ((0 : Nat) + (↑a_6.i : Int).toNat) (1 : Nat))).toNat - (0 : Nat) + (a_6.l.length - (toI (a.rows ((0 : Nat) + (↑a_6.i : Int).toNat) (1 : Nat)) + (1 : Int)).toNat) = a_27.l.length ∧
  cap_1 = a_27.lcap) ∧
  a_10 = a_10 ∧
  (0 : Nat) = (0 : Nat) ∧
  Decidable.decide ((↑a_6.i : Int) < (50 : Int)) = Decidable.decide ((↑a_6.i : Int) < (50 : Int)) ∧
  (↑a_6.i : Int) = (↑a_6.i : Int) ∧
  (0 : Nat) = (0 : Nat) ∧
  Bool.false = Bool.false ∧
  Bool.true = Bool.true ∧
  Bool.false = Bool.false ∧
  ((0 : Nat) = (0 : Nat) ∧
  a.n = a.n ∧
  a.cap = a.cap) ∧
  Snap a_6.g = Snap a_27.g ∧
  (a_27.l.length ≤ (toI (a.rows ((0 : Nat) + (↑a_6.i : Int).toNat) (1 : Nat))).toNat - (0 : Nat) + (a_6.l.length - (toI (a.rows ((0 : Nat) + (↑a_6.i : Int).toNat) (1 : Nat)) + (1 : Int)).toNat) ∧
  RowsEq a_27.l.length (21 : Nat) (appRows (encRows encRM a_6.l) (0 : Nat) ((toI (a.rows ((0 : Nat) + (↑a_6.i : Int).toNat) (1 : Nat))).toNat - (0 : Nat)) fun (i j : Nat) => encRows encRM a_6.l ((0 : Nat) + (toI (a.rows ((0 : Nat) + (↑a_6.i : Int).toNat) (1 : Nat)) + (1 : Int)).toNat + i) j) (encRows encRM a_27.l)) ∧
  toI (a.rows ((0 : Nat) + (↑a_6.i : Int).toNat) (0 : Nat)) = toI (a.rows ((0 : Nat) + (↑a_6.i : Int).toNat) (0 : Nat)) ∧
  toI (a.rows ((0 : Nat) + (↑a_6.i : Int).toNat) (1 : Nat)) = toI (a.rows ((0 : Nat) + (↑a_6.i : Int).toNat) (1 : Nat)) ∧
  ((0 : Nat) = (0 : Nat) ∧
  n = n ∧
  cap = cap) ∧
  ((0 : Nat) = (0 : Nat) ∧
  (dropM a_17.l a_17.i).length = a_27.nl.length ∧
  b = a_27.ncap) ∧
  (a.n ≤ a.n ∧
  RowsEq a.n (3 : Nat) a.rows a.rows) ∧
  Snap a.gA = Snap a.gA ∧
  (a_27.nl.length ≤ (dropM a_17.l a_17.i).length ∧
  RowsEq a_27.nl.length (21 : Nat) (encRows encRM (dropM a_17.l a_17.i)) (encRows encRM a_27.nl)) ∧
  (n ≤ n ∧
  RowsEq n (21 : Nat) rows rows) ∧
  (a_27.cs.length ≤ (4 : Nat) * a_6.i + (4 : Nat) ∧
  StOk a.gA a_27) ∧
  True)) ∧
  (a_10 = Bool.false →
  ∃ (a_21 : St), ((0 : Nat) = (0 : Nat) ∧
  a_6.l.length = a_21.l.length ∧
  a_6.lcap = a_21.lcap) ∧
  a_10 = a_10 ∧
  (0 : Nat) = (0 : Nat) ∧
  Decidable.decide ((↑a_6.i : Int) < (50 : Int)) = Decidable.decide ((↑a_6.i : Int) < (50 : Int)) ∧
  (↑a_6.i : Int) = (↑a_6.i : Int) ∧
  (0 : Nat) = (0 : Nat) ∧
  Bool.false = Bool.false ∧
  Bool.true = Bool.true ∧
  Bool.false = Bool.false ∧
  ((0 : Nat) = (0 : Nat) ∧
  a.n = a.n ∧
  a.cap = a.cap) ∧
  Snap a_6.g = Snap a_21.g ∧
  (a_21.l.length ≤ a_6.l.length ∧
  RowsEq a_21.l.length (21 : Nat) (encRows encRM a_6.l) (encRows encRM a_21.l)) ∧
  toI (a.rows ((0 : Nat) + (↑a_6.i : Int).toNat) (0 : Nat)) = toI (a.rows ((0 : Nat) + (↑a_6.i : Int).toNat) (0 : Nat)) ∧
  toI (a.rows ((0 : Nat) + (↑a_6.i : Int).toNat) (1 : Nat)) = toI (a.rows ((0 : Nat) + (↑a_6.i : Int).toNat) (1 : Nat)) ∧
  ((0 : Nat) = (0 : Nat) ∧
  n = n ∧
  cap = cap) ∧
  ((0 : Nat) = (0 : Nat) ∧
  (dropM a_17.l a_17.i).length = a_21.nl.length ∧
  b = a_21.ncap) ∧
  (a.n ≤ a.n ∧
  RowsEq a.n (3 : Nat) a.rows a.rows) ∧
  Snap a.gA = Snap a.gA ∧
  (a_21.nl.length ≤ (dropM a_17.l a_17.i).length ∧
  RowsEq a_21.nl.length (21 : Nat) (encRows encRM (dropM a_17.l a_17.i)) (encRows encRM a_21.nl)) ∧
  (n ≤ n ∧
  RowsEq n (21 : Nat) rows rows) ∧
  (a_21.cs.length ≤ (4 : Nat) * a_6.i + (4 : Nat) ∧
  StOk a.gA a_21) ∧
  True)))))) ∧
  ∀ (a_12 : St), a_12.cs.length ≤ (4 : Nat) * a_6.i + (4 : Nat) ∧
  StOk a.gA a_12 →
  (((↑a_12.nl.length : Int) != (↑a_12.l.length : Int)) = Bool.true →
  ∃ (b : Unit), Bool.false = Bool.true ∧
  True ∧
  True) ∧
  (((↑a_12.nl.length : Int) != (↑a_12.l.length : Int)) = Bool.false →
  InR IntKind.i64 ((↑a_6.i : Int) + (1 : Int)) ∧
  ∃ (a' : St), (↑a_6.i : Int) + (1 : Int) = (↑a'.i : Int) ∧
  ((0 : Nat) = (0 : Nat) ∧
  a_12.l.length = a'.l.length ∧
  a_12.lcap = a'.lcap) ∧
  (0 : Nat) = (0 : Nat) ∧
  Bool.false = Bool.false ∧
  Bool.true = Bool.true ∧
  Bool.false = Bool.false ∧
  ((0 : Nat) = (0 : Nat) ∧
  a.n = a.n ∧
  a.cap = a.cap) ∧
  Snap a_12.g = Snap a'.g ∧
  (a'.l.length ≤ a_12.l.length ∧
  RowsEq a'.l.length (21 : Nat) (encRows encRM a_12.l) (encRows encRM a'.l)) ∧
  ((0 : Nat) = (0 : Nat) ∧
  a_12.nl.length = a'.nl.length ∧
  a_12.ncap = a'.ncap) ∧
  (a.n ≤ a.n ∧
  RowsEq a.n (3 : Nat) a.rows a.rows) ∧
  Snap a.gA = Snap a.gA ∧
  (a'.nl.length ≤ a_12.nl.length ∧
  RowsEq a'.nl.length (21 : Nat) (encRows encRM a_12.nl) (encRows encRM a'.nl)) ∧
  (a'.i ≤ (50 : Nat) ∧
  a'.i ≤ a.n ∧
  a'.cs.length ≤ (4 : Nat) * a'.i ∧
  StOk a.gA a') ∧
  (50 : Nat) - a'.i < (50 : Nat) - a_6.i)) ∧
  (Decidable.decide ((↑a_6.i : Int) < (50 : Int)) = Bool.false →
  ∃ (a_10 : St), ((0 : Nat) = (0 : Nat) ∧
  a_6.l.length = a_10.l.length ∧
  a_6.lcap = a_10.lcap) ∧
  (0 : Nat) = (0 : Nat) ∧
  Bool.false = Bool.false ∧
  Bool.true = Bool.true ∧
  Bool.false = Bool.false ∧
  ((0 : Nat) = (0 : Nat) ∧
  a.n = a.n ∧
  a.cap = a.cap) ∧
  Snap a_6.g = Snap a_10.g ∧
  (a_10.l.length ≤ a_6.l.length ∧
  RowsEq a_10.l.length (21 : Nat) (encRows encRM a_6.l) (encRows encRM a_10.l)) ∧
  ((0 : Nat) = (0 : Nat) ∧
  a_6.nl.length = a_10.nl.length ∧
  a_6.ncap = a_10.ncap) ∧
  (a.n ≤ a.n ∧
  RowsEq a.n (3 : Nat) a.rows a.rows) ∧
  Snap a.gA = Snap a.gA ∧
  (a_10.nl.length ≤ a_6.nl.length ∧
  RowsEq a_10.nl.length (21 : Nat) (encRows encRM a_6.nl) (encRows encRM a_10.nl)) ∧
  (a_10.cs.length ≤ (200 : Nat) ∧
  StOk a.gA a_10) ∧
  True)) ∧
  (Decidable.decide ((↑a_6.i : Int) < (↑a.n : Int)) = Bool.false →
  ∃ (a_9 : St), ((0 : Nat) = (0 : Nat) ∧
  a_6.l.length = a_9.l.length ∧
  a_6.lcap = a_9.lcap) ∧
  (0 : Nat) = (0 : Nat) ∧
  Bool.false = Bool.false ∧
  Bool.true = Bool.true ∧
  Bool.false = Bool.false ∧
  ((0 : Nat) = (0 : Nat) ∧
  a.n = a.n ∧
  a.cap = a.cap) ∧
  Snap a_6.g = Snap a_9.g ∧
  (a_9.l.length ≤ a_6.l.length ∧
  RowsEq a_9.l.length (21 : Nat) (encRows encRM a_6.l) (encRows encRM a_9.l)) ∧
  ((0 : Nat) = (0 : Nat) ∧
  a_6.nl.length = a_9.nl.length ∧
  a_6.ncap = a_9.ncap) ∧
  (a.n ≤ a.n ∧
  RowsEq a.n (3 : Nat) a.rows a.rows) ∧
  Snap a.gA = Snap a.gA ∧
  (a_9.nl.length ≤ a_6.nl.length ∧
  RowsEq a_9.nl.length (21 : Nat) (encRows encRM a_6.nl) (encRows encRM a_9.nl)) ∧
  (a_9.cs.length ≤ (200 : Nat) ∧
  StOk a.gA a_9) ∧
  True)) ∧
  ∀ (a_6 : St), a_6.cs.length ≤ (200 : Nat) ∧
  StOk a.gA a_6 →
  (∃ (a_8 : St), (0 : Int) = (↑a_8.i : Int) ∧
  ((0 : Nat) = (0 : Nat) ∧
  a_6.l.length = a_8.l.length ∧
  a_6.lcap = a_8.lcap) ∧
  (0 : Nat) = (0 : Nat) ∧
  Bool.false = Bool.false ∧
  Bool.true = Bool.true ∧
  Bool.false = Bool.false ∧
  ((0 : Nat) = (0 : Nat) ∧
  a.n = a.n ∧
  a.cap = a.cap) ∧
  Snap a_6.g = Snap a_8.g ∧
  (a_8.l.length ≤ a_6.l.length ∧
  RowsEq a_8.l.length (21 : Nat) (encRows encRM a_6.l) (encRows encRM a_8.l)) ∧
  ((0 : Nat) = (0 : Nat) ∧
  a_6.nl.length = a_8.nl.length ∧
  a_6.ncap = a_8.ncap) ∧
  (a.n ≤ a.n ∧
  RowsEq a.n (3 : Nat) a.rows a.rows) ∧
  Snap a.gA = Snap a.gA ∧
  (a_8.nl.length ≤ a_6.nl.length ∧
  RowsEq a_8.nl.length (21 : Nat) (encRows encRM a_6.nl) (encRows encRM a_8.nl)) ∧
  (a_8.i ≤ a_8.cs.length ∧
  a_8.cs.length ≤ (200 : Nat) ∧
  StOk a.gA a_8) ∧
  True) ∧
  ∀ (a_8 : St), a_8.i ≤ a_8.cs.length ∧
  a_8.cs.length ≤ (200 : Nat) ∧
  StOk a.gA a_8 →
  (Decidable.decide ((↑a_8.i : Int) < (↑a_8.l.length : Int)) = Bool.true →
  ∃ (a_11 : LookA), (0 : Nat) = (0 : Nat) ∧
  (↑a_8.i : Int) = a_11.i ∧
  Snap a_8.g = Snap a_11.gO ∧
  ((0 : Nat) = (0 : Nat) ∧
  a_8.nl.length = a_11.l.length ∧
  a_8.ncap = a_11.cap) ∧
  (a_11.l.length ≤ a_8.nl.length ∧
  RowsEq a_11.l.length (21 : Nat) (encRows encRM a_8.nl) (encRows encRM a_11.l)) ∧
  Snap a.gA = Snap a_11.gA ∧
  (a_11.l.length ≤ (300 : Nat) ∧
  Likes a_11.gO a_11.gA a_11.l a_11.cs ∧
  allLens a_11.cs) ∧
  ∀ (b : LookB), looked a_11 b →
  ((!lookB a_11.l a_11.i) = Bool.true →
  ∃ (b : Unit), Bool.false = Bool.true ∧
  True ∧
  True) ∧
  ((!lookB a_11.l a_11.i) = Bool.false →
  ((0 : Int) ≤ (↑a_8.i : Int) ∧
  (↑a_8.i : Int) < (↑a_8.l.length : Int)) ∧
  (0 : Nat) + (↑a_8.i : Int).toNat < a_8.l.length ∧
  ∃ (a_14 : EqVA), (lookM a_11.l a_11.i).k = a_14.a.m.k ∧
  (lookM a_11.l a_11.i).f = a_14.a.m.f ∧
  (lookM a_11.l a_11.i).t = a_14.a.m.t ∧
  (lookM a_11.l a_11.i).ep = a_14.a.m.ep ∧
  (lookM a_11.l a_11.i).ti = a_14.a.m.ti ∧
  (lookM a_11.l a_11.i).sq = a_14.a.m.sq ∧
  (lookM a_11.l a_11.i).n = a_14.a.m.n ∧
  (lookM a_11.l a_11.i).id = a_14.a.m.id ∧
  (lookM a_11.l a_11.i).op = a_14.a.m.op ∧
  (lookM a_11.l a_11.i).key = a_14.a.m.key ∧
  (lookM a_11.l a_11.i).err = a_14.a.m.err ∧
  (lookM a_11.l a_11.i).last = a_14.a.m.last ∧
  (lookM a_11.l a_11.i).it.key = a_14.a.m.it.key ∧
  (lookM a_11.l a_11.i).it.val = a_14.a.m.it.val ∧
  (lookM a_11.l a_11.i).it.en = a_14.a.m.it.en ∧
  (lookM a_11.l a_11.i).it.gone = a_14.a.m.it.gone ∧
  b.v.i = a_14.v.i ∧
  b.v.m = a_14.v.m ∧
  b.v.n = a_14.v.n ∧
  (lookM a_11.l a_11.i).base = a_14.a.m.base ∧
  b.v.o = a_14.v.o ∧
  (gl a_8.l ((0 : Nat) + (↑a_8.i : Int).toNat)).m.k = a_14.a.m.k ∧
  (gl a_8.l ((0 : Nat) + (↑a_8.i : Int).toNat)).m.f = a_14.a.m.f ∧
  (gl a_8.l ((0 : Nat) + (↑a_8.i : Int).toNat)).m.t = a_14.a.m.t ∧
  (gl a_8.l ((0 : Nat) + (↑a_8.i : Int).toNat)).m.ep = a_14.a.m.ep ∧
  (gl a_8.l ((0 : Nat) + (↑a_8.i : Int).toNat)).m.ti = a_14.a.m.ti ∧
  (gl a_8.l ((0 : Nat) + (↑a_8.i : Int).toNat)).m.sq = a_14.a.m.sq ∧
  (gl a_8.l ((0 : Nat) + (↑a_8.i : Int).toNat)).m.n = a_14.a.m.n ∧
  (gl a_8.l ((0 : Nat) + (↑a_8.i : Int).toNat)).m.id = a_14.a.m.id ∧
  (gl a_8.l ((0 : Nat) + (↑a_8.i : Int).toNat)).m.op = a_14.a.m.op ∧
  (gl a_8.l ((0 : Nat) + (↑a_8.i : Int).toNat)).m.key = a_14.a.m.key ∧
  (gl a_8.l ((0 : Nat) + (↑a_8.i : Int).toNat)).m.err = a_14.a.m.err ∧
  (gl a_8.l ((0 : Nat) + (↑a_8.i : Int).toNat)).m.last = a_14.a.m.last ∧
  (gl a_8.l ((0 : Nat) + (↑a_8.i : Int).toNat)).m.it.key = a_14.a.m.it.key ∧
  (gl a_8.l ((0 : Nat) + (↑a_8.i : Int).toNat)).m.it.val = a_14.a.m.it.val ∧
  (gl a_8.l ((0 : Nat) + (↑a_8.i : Int).toNat)).m.it.en = a_14.a.m.it.en ∧
  (gl a_8.l ((0 : Nat) + (↑a_8.i : Int).toNat)).m.it.gone = a_14.a.m.it.gone ∧
  encRows encRM a_8.l ((0 : Nat) + (↑a_8.i : Int).toNat) (16 : Nat) = a_14.v2.i ∧
  encRows encRM a_8.l ((0 : Nat) + (↑a_8.i : Int).toNat) (17 : Nat) = a_14.v2.m ∧
  encRows encRM a_8.l ((0 : Nat) + (↑a_8.i : Int).toNat) (18 : Nat) = a_14.v2.n ∧
  (gl a_8.l ((0 : Nat) + (↑a_8.i : Int).toNat)).m.base = a_14.a.m.base ∧
  encRows encRM a_8.l ((0 : Nat) + (↑a_8.i : Int).toNat) (20 : Nat) = a_14.v2.o ∧
  Snap b.g = Snap a_14.gO ∧
  Snap a.gA = Snap a_14.gA ∧
  ((a_14.a.il.length < (100000 : Nat) ∧
  a_14.a.ml.length < (100000 : Nat) ∧
  a_14.a.nl.length < (100000 : Nat) ∧
  a_14.a.ol.length < (100000 : Nat)) ∧
  Has a_14.gO a_14.gA a_14.v a_14.a ∧
  Has a_14.gO a_14.gA a_14.v2 (a_14.a.caps a_14.c)) ∧
  ∀ (b : Unit), True →
  InR IntKind.i64 ((↑a_8.i : Int) + (1 : Int)) ∧
  ∃ (a' : St), (↑a_8.i : Int) + (1 : Int) = (↑a'.i : Int) ∧
  ((0 : Nat) = (0 : Nat) ∧
  a_8.l.length = a'.l.length ∧
  a_8.lcap = a'.lcap) ∧
  (0 : Nat) = (0 : Nat) ∧
  Bool.false = Bool.false ∧
  Bool.true = Bool.true ∧
  Bool.false = Bool.false ∧
  ((0 : Nat) = (0 : Nat) ∧
  a.n = a.n ∧
  a.cap = a.cap) ∧
  Snap a_14.gO = Snap a'.g ∧
  (a'.l.length ≤ a_8.l.length ∧
  RowsEq a'.l.length (21 : Nat) (encRows encRM a_8.l) (encRows encRM a'.l)) ∧
  ((0 : Nat) = (0 : Nat) ∧
  a_8.nl.length = a'.nl.length ∧
  a_8.ncap = a'.ncap) ∧
  (a.n ≤ a.n ∧
  RowsEq a.n (3 : Nat) a.rows a.rows) ∧
  Snap a.gA = Snap a.gA ∧
  (a'.nl.length ≤ a_8.nl.length ∧
  RowsEq a'.nl.length (21 : Nat) (encRows encRM a_8.nl) (encRows encRM a'.nl)) ∧
  (a'.i ≤ a'.cs.length ∧
  a'.cs.length ≤ (200 : Nat) ∧
  StOk a.gA a') ∧
  a'.cs.length - a'.i < a_8.cs.length - a_8.i)) ∧
  (Decidable.decide ((↑a_8.i : Int) < (↑a_8.l.length : Int)) = Bool.false →
  ∃ (b : Unit), Bool.true = Bool.true ∧
  True ∧
  True)) (by kernel_rfl) (by
  rintro a ⟨hle, hmx, hms⟩
  simp only [Nat.zero_add, Int.toNat_natCast, InR, decide_eq_true_eq, decide_eq_false_iff_not, Nat.sub_zero, beq_iff_eq, beq_eq_false_iff_ne, bne_iff_ne, bne_eq_false_iff_eq]
  refine ⟨(), trivial, fun _ _ => ⟨(), trivial, fun _ _ => ⟨⟨⟨⟨0, [], [], [], 0, 0, Pool.none⟩, ?_⟩, fun x hx => ⟨fun c1 => ⟨fun c2 => ?_, fun c2 => ⟨x, ?_⟩⟩, fun c1 => ⟨x, ?_⟩⟩⟩, fun x hx => ⟨⟨⟨0, x.l, x.nl, x.cs, x.lcap, x.ncap, x.g⟩, ?_⟩, fun y hy => ⟨fun c => ?_, fun _ => ⟨(), trivial, trivial, trivial⟩⟩⟩⟩⟩⟩
  · ((repeat' apply And.intro) <;> first | with_reducible rfl | omega | (dsimp only; omega) | exact RowsEq.refl _ _ _ | assumption | rfl | trivial | exact Nat.le_refl _ | skip)
    exact stok0 _
  · obtain ⟨x1, x2, x3, xo⟩ := hx
    have hi : x.i < a.n := by omega
    obtain ⟨⟨ml, ncs, mcap, msl, mlk⟩⟩ := hms x.i hi
    have hcl := xo.l.len
    have hnn := xo.nl.len
    have hnl : x.nl.length = x.l.length := by omega
    have e1 : kd a x = toI (a.rows x.i 0) := rfl
    have e2 : ix a x = toI (a.rows x.i 1) := rfl
    have hin : lookB x.nl (ix a x) = lookB x.l (ix a x) := by simp [lookB, hnl]
    refine ⟨⟨by omega, by omega⟩, hi, a.gA, ml.length, mcap, encRows encRM ml, rfl, msl, ⟨fun _ => ⟨fun c3 _ => ⟨decide (toI (a.rows x.i 1) < x.l.length), ?_⟩, fun c3 => ⟨false, ?_⟩⟩, fun b hb => ⟨fun _ => ⟨fun k0 => ⟨⟨⟨⟨0, [], 0, [], x.l, x.lcap, x.g, 0⟩, ?_⟩, fun y yo => ⟨fun d1 => ⟨fun d2 => ?_, fun d2 => ⟨y, ?_⟩⟩, fun d1 => ⟨y, ?_⟩⟩⟩, fun y yo => ?_⟩, fun k0 => ?_⟩, fun y hy => ?_⟩⟩⟩
    · ((repeat' apply And.intro) <;> first | with_reducible rfl | omega | (dsimp only; omega) | exact RowsEq.refl _ _ _ | assumption | rfl | trivial | exact Nat.le_refl _ | skip)
      simp [lookB, e2, c3]
    · ((repeat' apply And.intro) <;> first | with_reducible rfl | omega | (dsimp only; omega) | exact RowsEq.refl _ _ _ | assumption | rfl | trivial | exact Nat.le_refl _ | skip)
      simp [lookB, e2, c3]
    · ((repeat' apply And.intro) <;> first | with_reducible rfl | omega | (dsimp only; omega) | exact RowsEq.refl _ _ _ | assumption | rfl | trivial | exact Nat.le_refl _ | skip)
      exact ⟨Nat.zero_le _, rfl, rfl, Likes.nil _ _, ⟨fun i hi => absurd hi (Nat.not_lt_zero _)⟩, by simpa using xo.l, Pool.Ext.refl _, xo.lc, Nat.le_refl _⟩
    · -- a message more
      have hj : y.j < ml.length := by omega
      obtain ⟨hm, c0, hh⟩ := mlk.at_ y.j hj
      have hh0 := has_right (g1 := y.g) hh
      have hh' : Has y.g a.gA (gl ml y.j).v (withM ((gl ncs y.j).caps c0) (gl ml y.j).m) := ⟨hh0.i, hh0.m, hh0.n, hh0.o⟩
      have hml := yo.ms.len
      have hll := yo.l.len
      have hfl := List.length_filter_le mayB y.mcs
      have hmj := yo.mj
      have hyk := yo.k
      rw [List.length_append] at hll
      refine ⟨⟨by omega, by omega⟩, hj, ⟨withM ((gl ncs y.j).caps c0) (gl ml y.j).m, (gl ml y.j).v, y.g, a.gA⟩, ?_⟩
      ((repeat' apply And.intro) <;> first | with_reducible rfl | omega | (dsimp only; omega) | exact RowsEq.refl _ _ _ | assumption | rfl | trivial | exact Nat.le_refl _ | skip)
      rintro b ⟨b1, b2⟩
      have hlens := cut_lens (withM ((gl ncs y.j).caps c0) (gl ml y.j).m) b.b1 b.b2
      refine ⟨Nat.le_refl _, Nat.le_refl _, by omega, fun mc g1 g2 g3 => ⟨⟨cutA (withM ((gl ncs y.j).caps c0) (gl ml y.j).m) b.b1 b.b2, b.v, b.g, a.gA⟩, ?_⟩⟩
      have hc : Has b.g a.gA b.v ((cutA (withM ((gl ncs y.j).caps c0) (gl ml y.j).m) b.b1 b.b2).caps ⟨b.b1, b.b2, (cutA (withM ((gl ncs y.j).caps c0) (gl ml y.j).m) b.b1 b.b2).cn, (cutA (withM ((gl ncs y.j).caps c0) (gl ml y.j).m) b.b1 b.b2).co⟩) := b2
      ((repeat' apply And.intro) <;> first | with_reducible rfl | omega | (dsimp only; omega) | exact RowsEq.refl _ _ _ | assumption | rfl | trivial | exact Nat.le_refl _ | skip)
      · exact hlens.n
      · exact hlens.o
      intro q hq
      refine ⟨fun e => ⟨Nat.le_refl _, Nat.le_refl _, by omega, fun lc g4 g5 g6 => ⟨by omega, by omega, ⟨y.j + 1, y.ms ++ [⟨cutMR (withM ((gl ncs y.j).caps c0) (gl ml y.j).m).m, b.v⟩], mc, y.mcs ++ [cutA (withM ((gl ncs y.j).caps c0) (gl ml y.j).m) b.b1 b.b2], y.l ++ [⟨cutMR (withM ((gl ncs y.j).caps c0) (gl ml y.j).m).m, b.v⟩], lc, b.g, y.k + 1⟩, ?_⟩⟩, fun e => ⟨by omega, ⟨y.j + 1, y.ms ++ [⟨cutMR (withM ((gl ncs y.j).caps c0) (gl ml y.j).m).m, b.v⟩], mc, y.mcs ++ [cutA (withM ((gl ncs y.j).caps c0) (gl ml y.j).m) b.b1 b.b2], y.l, y.lcap, b.g, y.k⟩, ?_⟩⟩
      · have hmay : mayB (cutA (withM ((gl ncs y.j).caps c0) (gl ml y.j).m) b.b1 b.b2) = true := (mayB_iff _).2 (hq.1 e)
        have nx := yo.next (x := x) (r := ⟨cutMR (withM ((gl ncs y.j).caps c0) (gl ml y.j).m).m, b.v⟩) (mc := mc) (lc := lc) (by omega) rfl b1 hc hlens g1 g4 hmay
        ((repeat' apply And.intro) <;> first | with_reducible rfl | omega | (dsimp only; omega) | exact RowsEq.refl _ _ _ | assumption | rfl | trivial | exact Nat.le_refl _ | skip)
        · simp
        · simp
        · simp
        · exact .push rfl (by simp) rfl
        · simp
        · exact .push rfl (by simp) rfl
      · have hmay : mayB (cutA (withM ((gl ncs y.j).caps c0) (gl ml y.j).m) b.b1 b.b2) = false := by
          cases h : mayB (cutA (withM ((gl ncs y.j).caps c0) (gl ml y.j).m) b.b1 b.b2) with
          | false => rfl
          | true => rw [hq.2 ((mayB_iff _).1 h)] at e; cases e
        have nx := yo.skip (x := x) (r := ⟨cutMR (withM ((gl ncs y.j).caps c0) (gl ml y.j).m).m, b.v⟩) (mc := mc) (by omega) rfl b1 hc hlens g1 hmay
        ((repeat' apply And.intro) <;> first | with_reducible rfl | omega | (dsimp only; omega) | exact RowsEq.refl _ _ _ | assumption | rfl | trivial | exact Nat.le_refl _ | skip)
        · simp
        · simp
        · exact .push rfl (by simp) rfl
    · ((repeat' apply And.intro) <;> first | with_reducible rfl | omega | (dsimp only; omega) | exact RowsEq.refl _ _ _ | assumption | rfl | trivial | exact Nat.le_refl _ | skip)
    · ((repeat' apply And.intro) <;> first | with_reducible rfl | omega | (dsimp only; omega) | exact RowsEq.refl _ _ _ | assumption | rfl | trivial | exact Nat.le_refl _ | skip)
    · have hml := yo.ms.len
      have hll := yo.l.len
      have hfl := List.length_filter_le mayB y.mcs
      have hmj := yo.mj
      have hyk := yo.k
      have hyj := yo.j
      refine ⟨⟨x.nl, x.ncap, y.ms, y.mcap, y.mcs, y.g, a.gA⟩, ?_⟩
      ((repeat' apply And.intro) <;> first | with_reducible rfl | omega | (dsimp only; omega) | exact RowsEq.refl _ _ _ | assumption | rfl | trivial | exact Nat.le_refl _ | skip)
      · exact xo.nc
      · exact yo.ms
      · exact yo.mlens
      rintro b ⟨b1, b2, b3⟩
      have hbl := b2.len
      dsimp only at b1 b2 b3 hbl ⊢
      refine ⟨fun e => absurd (show (b.new.length : Int) = y.k by omega) e, fun e => ⟨⟨0, y.l, x.nl ++ b.new, x.cs ++ y.mcs.filter mayB, y.lcap, b.cap, b.g⟩, ?_⟩⟩
      ((repeat' apply And.intro) <;> first | with_reducible rfl | omega | (dsimp only; omega) | exact RowsEq.refl _ _ _ | assumption | rfl | trivial | exact Nat.le_refl _ | skip)
      · simp; omega
      · exact ⟨yo.l.ext b1, (xo.nl.ext (yo.ext.trans b1)).app b2, .of_mem fun q hq => by
          rcases List.mem_append.1 hq with h | h
          · exact xo.lens.mem h
          · exact yo.mlens.mem (List.mem_filter.1 h).1, yo.lc, b3⟩
    · subst hb
      simp only [e2] at hin ⊢
      simp only [e1]
      generalize toI (a.rows x.i 1) = I at *
      generalize toI (a.rows x.i 0) = K at *
      rcases hbb : lookB x.l I with _ | _
      · rw [hbb] at hin
        have hlc := xo.lc
        have hnc := xo.nc
        have hm : lookM x.nl I = zeroMR := by simp [lookM, hin]
        have hd : dropM x.nl I = x.nl := by simp [dropM, hin]
        refine ⟨fun k1 => ⟨fun _ _ => ⟨⟨x.nl, x.ncap, I, x.cs, x.g, a.gA⟩, ?_⟩, fun k1' => absurd k1 k1'⟩, fun k1 => ⟨fun k2 => ?_, fun k2 => ?_⟩⟩
        · ((repeat' apply And.intro) <;> first | with_reducible rfl | omega | (dsimp only; omega) | exact RowsEq.refl _ _ _ | assumption | rfl | trivial | exact Nat.le_refl _ | skip)
          · exact xo.nl
          · exact xo.lens
          rintro b ⟨b1, b2⟩
          refine ⟨fun _ => ⟨fun _ _ => ⟨⟨x.nl, x.ncap, I, x.cs, b.g, a.gA⟩, ?_⟩, fun k1' => absurd k1 k1'⟩, fun z hz => ?_⟩
          · have xb := xo.to 0 b1
            ((repeat' apply And.intro) <;> first | with_reducible rfl | omega | (dsimp only; omega) | exact RowsEq.refl _ _ _ | assumption | rfl | trivial | exact Nat.le_refl _ | skip)
            · exact xb.nl
            · exact xo.lens
            rintro d ⟨⟨d1, d2⟩, d3⟩
            have hmid : MidOk a x (dropM x.nl I) ⟨d.b.v, d.cap, d.b.g⟩ := ⟨b1.trans d1, fun h => (by rw [e2, hin] at h; cases h), d3⟩
            refine ⟨⟨dropM x.nl I, ⟨d.b.v, d.cap, d.b.g⟩⟩, ?_⟩
            ((repeat' apply And.intro) <;> first | with_reducible rfl | omega | (dsimp only; omega) | exact RowsEq.refl _ _ _ | assumption | rfl | trivial | exact Nat.le_refl _ | skip)
            rw [if_pos k1]
          · obtain ⟨z1, z2, z3, z4⟩ := hz
            rw [if_pos k1, hd] at z1
            dsimp only
            rw [hin, hm]
            simp only [Bool.not_true, Bool.not_false, Bool.true_eq_false, Bool.false_eq_true, beq_self_eq_true, false_implies, true_implies, forall_const, and_true, true_and, not_true_eq_false, not_false_eq_true, ne_eq]
            rw [z1] at z4 ⊢
            refine fun _ => ⟨fun e => absurd rfl e, fun _ => ⟨⟨0, x.l, x.nl, x.cs, x.lcap, z.y.ncap, z.y.g⟩, ?_⟩⟩
            ((repeat' apply And.intro) <;> first | with_reducible rfl | omega | (dsimp only; omega) | exact RowsEq.refl _ _ _ | assumption | rfl | trivial | exact Nat.le_refl _ | skip)
            exact ⟨xo.l.ext z2, xo.nl.ext z2, xo.lens, hlc, z4⟩
        · refine fun _ => ⟨⟨x.nl, x.ncap, I, x.cs, x.g, a.gA⟩, ?_⟩
          ((repeat' apply And.intro) <;> first | with_reducible rfl | omega | (dsimp only; omega) | exact RowsEq.refl _ _ _ | assumption | rfl | trivial | exact Nat.le_refl _ | skip)
          · exact xo.nl
          · exact xo.lens
          rintro b ⟨b1, b2⟩
          refine ⟨fun _ => ⟨fun k1' => absurd k1' k1, fun _ => ⟨⟨x.nl, ⟨b.v, x.ncap, b.g⟩⟩, ?_⟩⟩, fun z hz => ?_⟩
          · have hmid : MidOk a x x.nl ⟨b.v, x.ncap, b.g⟩ := ⟨b1, fun h => (by rw [e2, hin] at h; cases h), hnc⟩
            ((repeat' apply And.intro) <;> first | with_reducible rfl | omega | (dsimp only; omega) | exact RowsEq.refl _ _ _ | assumption | rfl | trivial | exact Nat.le_refl _ | skip)
            rw [if_neg k1]
          · obtain ⟨z1, z2, z3, z4⟩ := hz
            rw [if_neg k1] at z1
            dsimp only
            rw [hin, hm]
            simp only [Bool.not_true, Bool.not_false, Bool.true_eq_false, Bool.false_eq_true, beq_self_eq_true, false_implies, true_implies, forall_const, and_true, true_and, not_true_eq_false, not_false_eq_true, ne_eq]
            rw [z1] at z4 ⊢
            refine fun _ => ⟨fun e => absurd rfl e, fun _ => ⟨⟨0, x.l, x.nl, x.cs, x.lcap, z.y.ncap, z.y.g⟩, ?_⟩⟩
            ((repeat' apply And.intro) <;> first | with_reducible rfl | omega | (dsimp only; omega) | exact RowsEq.refl _ _ _ | assumption | rfl | trivial | exact Nat.le_refl _ | skip)
            exact ⟨xo.l.ext z2, xo.nl.ext z2, xo.lens, hlc, z4⟩
        · refine fun _ => ⟨⟨x.nl, x.ncap, I⟩, ?_⟩
          ((repeat' apply And.intro) <;> first | with_reducible rfl | omega | (dsimp only; omega) | exact RowsEq.refl _ _ _ | assumption | rfl | trivial | exact Nat.le_refl _ | skip)
          intro b hb'
          dsimp only at hb' ⊢
          rw [hin]
          rw [hd] at hb' ⊢
          simp only [Bool.not_true, Bool.not_false, Bool.true_eq_false, Bool.false_eq_true, beq_self_eq_true, false_implies, true_implies, forall_const, and_true, true_and, not_true_eq_false, not_false_eq_true, ne_eq]
          refine ⟨⟨0, x.l, x.nl, x.cs, x.lcap, b, x.g⟩, ?_⟩
          ((repeat' apply And.intro) <;> first | with_reducible rfl | omega | (dsimp only; omega) | exact RowsEq.refl _ _ _ | assumption | rfl | trivial | exact Nat.le_refl _ | skip)
          exact ⟨xo.l, xo.nl, xo.lens, hlc, hb'⟩
      · rw [hbb] at hin
        obtain ⟨k, rfl⟩ : ∃ k : Nat, I = k := ⟨I.toNat, by simp [lookB] at hbb; omega⟩
        have hk : k < x.l.length := by rw [lookB_nat] at hbb; simpa using hbb
        obtain ⟨m1, c2, h2⟩ := xo.l.at_ k hk
        obtain ⟨m2, c3, h3⟩ := xo.nl.at_ k (by omega)
        have hlen := xo.lens.at_ k (by omega)
        have hm : lookM x.nl (k : Int) = (gl x.cs k).m := by simp [lookM, hin, m2]
        have hd : dropM x.nl (k : Int) = x.nl.eraseIdx k := by simp [dropM, hin]
        have el : (x.l.eraseIdx k).length = x.l.length - 1 := by rw [List.length_eraseIdx]; simp [hk]
        have en : (x.nl.eraseIdx k).length = x.l.length - 1 := by rw [List.length_eraseIdx]; simp [hnl, hk]
        have ec : (x.cs.eraseIdx k).length ≤ x.cs.length := by rw [List.length_eraseIdx]; split <;> omega
        have t1 : ((k : Int) + 1).toNat = k + 1 := by omega
        have t2 : k + (x.l.length - (k + 1)) = x.l.length - 1 := by omega
        have hlc := xo.lc
        have hnc := xo.nc
        refine ⟨fun k1 => ⟨fun _ _ => ⟨⟨x.nl, x.ncap, (k : Int), x.cs, x.g, a.gA⟩, ?_⟩, fun k1' => absurd k1 k1'⟩, fun k1 => ⟨fun k2 => ?_, fun k2 => ?_⟩⟩
        · ((repeat' apply And.intro) <;> first | with_reducible rfl | omega | (dsimp only; omega) | exact RowsEq.refl _ _ _ | assumption | rfl | trivial | exact Nat.le_refl _ | skip)
          · exact xo.nl
          · exact xo.lens
          rintro b ⟨b1, b2⟩
          refine ⟨fun _ => ⟨fun _ _ => ⟨⟨x.nl, x.ncap, (k : Int), x.cs, b.g, a.gA⟩, ?_⟩, fun k1' => absurd k1 k1'⟩, fun z hz => ?_⟩
          · have xb := xo.to 0 b1
            ((repeat' apply And.intro) <;> first | with_reducible rfl | omega | (dsimp only; omega) | exact RowsEq.refl _ _ _ | assumption | rfl | trivial | exact Nat.le_refl _ | skip)
            · exact xb.nl
            · exact xo.lens
            rintro d ⟨⟨d1, d2⟩, d3⟩
            have hmid : MidOk a x (dropM x.nl (k : Int)) ⟨d.b.v, d.cap, d.b.g⟩ := ⟨b1.trans d1, fun h => ⟨d.b.c, by have := d2 (by rw [← e2]; exact h); rw [e2]; exact this⟩, d3⟩
            refine ⟨⟨dropM x.nl (k : Int), ⟨d.b.v, d.cap, d.b.g⟩⟩, ?_⟩
            ((repeat' apply And.intro) <;> first | with_reducible rfl | omega | (dsimp only; omega) | exact RowsEq.refl _ _ _ | assumption | rfl | trivial | exact Nat.le_refl _ | skip)
            rw [if_pos k1]
          · obtain ⟨z1, z2, z3, z4⟩ := hz
            rw [if_pos k1, hd] at z1
            obtain ⟨c1, h1⟩ := z3 (by rw [e2]; exact hin)
            rw [e2] at h1
            dsimp only
            rw [hin]
            simp only [Bool.not_true, Bool.not_false, Bool.true_eq_false, Bool.false_eq_true, beq_self_eq_true, false_implies, true_implies, forall_const, and_true, true_and, not_true_eq_false, not_false_eq_true, ne_eq]
            simp only [Int.toNat_natCast, hm, m1, Nat.sub_zero, Nat.zero_add, t1, t2]
            refine fun _ => ⟨by omega, hk, ⟨(gl x.cs k).caps c1, c2, z.y.v, (gl x.l k).v, z.y.g, a.gA⟩, ?_⟩
            ((repeat' apply And.intro) <;> first | with_reducible rfl | omega | (dsimp only; omega) | exact RowsEq.refl _ _ _ | assumption | rfl | trivial | exact Nat.le_refl _ | skip)
            · exact hlen.i
            · exact hlen.m
            · exact hlen.n
            · exact hlen.o
            · exact h2.ext z2
            rw [z1] at z4 ⊢
            refine fun _ => ⟨fun _ _ _ => ⟨by omega, by omega, fun _ => ⟨by omega, by omega, by omega, by omega, by omega, fun cap' g1 g2 g3 => ⟨⟨0, x.l.eraseIdx k, x.nl.eraseIdx k, x.cs.eraseIdx k, cap', z.y.ncap, z.y.g⟩, ?_⟩⟩⟩, fun k1' => absurd k1 k1'⟩
            ((repeat' apply And.intro) <;> first | with_reducible rfl | omega | (dsimp only; omega) | exact RowsEq.refl _ _ _ | assumption | rfl | trivial | exact Nat.le_refl _ | skip)
            · exact erase_rows hk (by dsimp only; omega)
            · exact xo.erase hk z2 (by omega) z4
        · refine fun _ => ⟨⟨x.nl, x.ncap, (k : Int), x.cs, x.g, a.gA⟩, ?_⟩
          ((repeat' apply And.intro) <;> first | with_reducible rfl | omega | (dsimp only; omega) | exact RowsEq.refl _ _ _ | assumption | rfl | trivial | exact Nat.le_refl _ | skip)
          · exact xo.nl
          · exact xo.lens
          rintro b ⟨b1, b2⟩
          refine ⟨fun _ => ⟨fun k1' => absurd k1' k1, fun _ => ⟨⟨x.nl, ⟨b.v, x.ncap, b.g⟩⟩, ?_⟩⟩, fun z hz => ?_⟩
          · have hmid : MidOk a x x.nl ⟨b.v, x.ncap, b.g⟩ := ⟨b1, fun h => ⟨b.c, by have := b2 (by rw [← e2]; exact h); rw [e2]; exact this⟩, hnc⟩
            ((repeat' apply And.intro) <;> first | with_reducible rfl | omega | (dsimp only; omega) | exact RowsEq.refl _ _ _ | assumption | rfl | trivial | exact Nat.le_refl _ | skip)
            rw [if_neg k1]
          · obtain ⟨z1, z2, z3, z4⟩ := hz
            rw [if_neg k1] at z1
            obtain ⟨c1, h1⟩ := z3 (by rw [e2]; exact hin)
            rw [e2] at h1
            dsimp only
            rw [hin]
            simp only [Bool.not_true, Bool.not_false, Bool.true_eq_false, Bool.false_eq_true, beq_self_eq_true, false_implies, true_implies, forall_const, and_true, true_and, not_true_eq_false, not_false_eq_true, ne_eq]
            simp only [Int.toNat_natCast, hm, m1, Nat.sub_zero, Nat.zero_add, t1, t2]
            refine fun _ => ⟨by omega, hk, ⟨(gl x.cs k).caps c1, c2, z.y.v, (gl x.l k).v, z.y.g, a.gA⟩, ?_⟩
            ((repeat' apply And.intro) <;> first | with_reducible rfl | omega | (dsimp only; omega) | exact RowsEq.refl _ _ _ | assumption | rfl | trivial | exact Nat.le_refl _ | skip)
            · exact hlen.i
            · exact hlen.m
            · exact hlen.n
            · exact hlen.o
            · exact h2.ext z2
            rw [z1] at z4 ⊢
            refine fun _ => ⟨fun k1' => absurd k1' k1, fun _ => ⟨⟨0, x.l, x.nl, x.cs, x.lcap, z.y.ncap, z.y.g⟩, ?_⟩⟩
            ((repeat' apply And.intro) <;> first | with_reducible rfl | omega | (dsimp only; omega) | exact RowsEq.refl _ _ _ | assumption | rfl | trivial | exact Nat.le_refl _ | skip)
            exact ⟨xo.l.ext z2, xo.nl.ext z2, xo.lens, hlc, z4⟩
        · refine fun _ => ⟨⟨x.nl, x.ncap, (k : Int)⟩, ?_⟩
          ((repeat' apply And.intro) <;> first | with_reducible rfl | omega | (dsimp only; omega) | exact RowsEq.refl _ _ _ | assumption | rfl | trivial | exact Nat.le_refl _ | skip)
          intro b hb'
          dsimp only at hb' ⊢
          rw [hin]
          rw [hd] at hb' ⊢
          simp only [Bool.not_true, Bool.not_false, Bool.true_eq_false, Bool.false_eq_true, beq_self_eq_true, false_implies, true_implies, forall_const, and_true, true_and, not_true_eq_false, not_false_eq_true, ne_eq]
          simp only [Int.toNat_natCast, Nat.sub_zero, Nat.zero_add, t1, t2]
          refine fun _ _ => ⟨by omega, by omega, fun _ => ⟨by omega, by omega, by omega, by omega, by omega, fun cap' g1 g2 g3 => ⟨⟨0, x.l.eraseIdx k, x.nl.eraseIdx k, x.cs.eraseIdx k, cap', b, x.g⟩, ?_⟩⟩⟩
          ((repeat' apply And.intro) <;> first | with_reducible rfl | omega | (dsimp only; omega) | exact RowsEq.refl _ _ _ | assumption | rfl | trivial | exact Nat.le_refl _ | skip)
          · exact erase_rows hk (by dsimp only; omega)
          · exact xo.erase hk (Pool.Ext.refl _) (by omega) hb'
    · obtain ⟨y1, yo⟩ := hy
      have h1 := yo.l.len
      have h2 := yo.nl.len
      refine ⟨fun e => absurd (show (y.nl.length : Int) = y.l.length by omega) e, fun _ => ⟨by omega, ⟨x.i + 1, y.l, y.nl, y.cs, y.lcap, y.ncap, y.g⟩, ?_⟩⟩
      ((repeat' apply And.intro) <;> first | with_reducible rfl | omega | (dsimp only; omega) | exact RowsEq.refl _ _ _ | assumption | rfl | trivial | exact Nat.le_refl _ | skip)
      exact yo.to _ (Pool.Ext.refl _)
  · obtain ⟨x1, x2, x3, xo⟩ := hx
    ((repeat' apply And.intro) <;> first | with_reducible rfl | omega | (dsimp only; omega) | exact RowsEq.refl _ _ _ | assumption | rfl | trivial | exact Nat.le_refl _ | skip)
  · obtain ⟨x1, x2, x3, xo⟩ := hx
    ((repeat' apply And.intro) <;> first | with_reducible rfl | omega | (dsimp only; omega) | exact RowsEq.refl _ _ _ | assumption | rfl | trivial | exact Nat.le_refl _ | skip)
  · obtain ⟨x1, xo⟩ := hx
    ((repeat' apply And.intro) <;> first | with_reducible rfl | omega | (dsimp only; omega) | exact RowsEq.refl _ _ _ | assumption | rfl | trivial | exact Nat.le_refl _ | skip)
    exact xo.to 0 (Pool.Ext.refl _)
  · obtain ⟨y1, y2, yo⟩ := hy
    have hcl := yo.l.len
    have hnl := yo.nl.len
    have hk : y.i < y.l.length := by omega
    obtain ⟨m1, c1, h1⟩ := yo.l.at_ y.i hk
    obtain ⟨m2, c2, h2⟩ := yo.nl.at_ y.i (by omega)
    have hlen := yo.lens.at_ y.i (by omega)
    have hb : lookB y.nl (y.i : Int) = true := by rw [lookB_nat]; simp; omega
    have hm : lookM y.nl (y.i : Int) = (gl y.cs y.i).m := by simp [lookM, hb, m2]
    refine ⟨⟨y.nl, y.ncap, (y.i : Int), y.cs, y.g, a.gA⟩, ?_⟩
    ((repeat' apply And.intro) <;> first | with_reducible rfl | omega | (dsimp only; omega) | exact RowsEq.refl _ _ _ | assumption | rfl | trivial | exact Nat.le_refl _ | skip)
    · exact yo.nl
    · exact yo.lens
    rintro b ⟨b1, b2⟩
    dsimp only at b1 b2 ⊢
    rw [hb, hm, m1]
    refine ⟨fun e => (by simp at e), fun _ => ⟨⟨by omega, by omega⟩, hk, ⟨(gl y.cs y.i).caps b.c, c1, b.v, (gl y.l y.i).v, b.g, a.gA⟩, ?_⟩⟩
    ((repeat' apply And.intro) <;> first | with_reducible rfl | omega | (dsimp only; omega) | exact RowsEq.refl _ _ _ | assumption | rfl | trivial | exact Nat.le_refl _ | skip)
    · exact hlen.i
    · exact hlen.m
    · exact hlen.n
    · exact hlen.o
    · exact b2 hb
    · exact h1.ext b1
    refine fun _ _ => ⟨by omega, ⟨y.i + 1, y.l, y.nl, y.cs, y.lcap, y.ncap, b.g⟩, ?_⟩
    ((repeat' apply And.intro) <;> first | with_reducible rfl | omega | (dsimp only; omega) | exact RowsEq.refl _ _ _ | assumption | rfl | trivial | exact Nat.le_refl _ | skip)
    exact yo.to _ b1)
end Go.Proofs.Ythgnaehfepcblaa
