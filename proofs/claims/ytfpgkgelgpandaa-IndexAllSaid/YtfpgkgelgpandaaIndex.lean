/-
  The layer index's functions, as what they do to a table; no condition but that tables are short.
-/
import Derived.Test.YtfpgkgelgpandaaMix
namespace Go.Proofs.Ytfpgkgelgpandaa
open Go.Sx
set_option maxRecDepth 100000
set_option linter.unusedVariables false

structure PlaceR where
  key : ByteArray
  pos : Int
  has : Bool
  gone : Bool
  deriving Inhabited
def encP (p : PlaceR) : List Value := [.string p.key, .int .i64 p.pos, .bool p.has, .bool p.gone]
def ksP : List CK := [.str, .int .i64, .bool, .bool]
def hashOf (key : ByteArray) : Int := hashG (fun _ => key) 1
def startOf (L : Nat) (key : ByteArray) : Nat := (hashOf key).toNat % L

/-- the road of find: so many places from here, a free one so far (or -1) -/
def hit (key : ByteArray) (p : PlaceR) : Bool := p.has && decide (p.key = key)
def bare (p : PlaceR) : Bool := !p.has && !p.gone
def findFrom (t : List PlaceR) (key : ByteArray) : Nat → Nat → Int → Int × Int
  | 0, _, free => (-1, free)
  | k + 1, i, free => if hit key (gl t i) then ((i : Int), (i : Int)) else
    let f := if !(gl t i).has && decide (free < 0) then (i : Int) else free
    if bare (gl t i) then (-1, f) else findFrom t key k ((i + 1) % t.length) f
def findP (t : List PlaceR) (key : ByteArray) : Int × Int := findFrom t key t.length (startOf t.length key) (-1)

/-- an index's cells, its places -/
def idxHp (o a : Nat) (t : List PlaceR) (cap n used : Nat) : List (Nat × Chunk) := [(o, .obj 52 [.slc a 0 4 t.length cap, .int .i64 n, .int .i64 used]), (a, .arr 56 ksP t.length (encRows encP t))]

theorem wrap_in {k : IntKind} {n : Int} (h : InR k n) : k.wrap n = n := by
  cases k <;> simp only [InR] at h <;> simp [IntKind.wrap, IntKind.bits, IntKind.signed, Int.emod_def] <;> omega
theorem x64_range (a b : Int) : 0 ≤ x64 a b ∧ x64 a b < 18446744073709551616 := by
  unfold x64 ibits
  simp only [uw_eq, uw]
  omega
theorem hashOf_nonneg (key : ByteArray) : 0 ≤ hashOf key := (x64_range _ _).1
theorem startOf_lt {L : Nat} (key : ByteArray) (h : 1 ≤ L) : startOf L key < L := Nat.mod_lt _ h
theorem start_eq {L : Nat} (key : ByteArray) (h : 1 ≤ L) (h2 : L < 100000) : uw .i64 (hashG (fun _ => key) 1 % uw .u64 (L : Int)) = (startOf L key : Int) := by
  have e1 : uw .u64 (L : Int) = L := by simp only [uw]; omega
  have h0 := hashOf_nonneg key
  have h3 := startOf_lt key h
  have e2 : hashOf key % (L : Int) = (startOf L key : Int) := by
    unfold startOf
    rw [Int.natCast_emod, Int.toNat_of_nonneg h0]
  rw [e1]
  show uw .i64 (hashOf key % (L : Int)) = _
  rw [e2]
  exact wrap_in (by simp only [InR]; omega)
theorem next_eq {i L : Nat} : ((i : Int) + 1).tmod (L : Int) = (((i + 1) % L : Nat) : Int) := by
  rw [Int.tmod_eq_emod_of_nonneg (by omega), Int.natCast_emod]; rfl
theorem find_step {t : List PlaceR} {key : ByteArray} {i at_ : Nat} {free : Int} {r : Int × Int} (hi : i < t.length) (h : findFrom t key (t.length - i) at_ free = r) :
    (if hit key (gl t at_) then ((at_ : Int), (at_ : Int)) else
    if bare (gl t at_) then (-1, if !(gl t at_).has && decide (free < 0) then (at_ : Int) else free) else findFrom t key (t.length - (i + 1)) ((at_ + 1) % t.length) (if !(gl t at_).has && decide (free < 0) then (at_ : Int) else free)) = r := by
  rw [← h, show t.length - i = (t.length - (i + 1)) + 1 by omega]; rfl

structure FindA where
  t : List PlaceR
  cap : Nat
  n : Nat
  used : Nat
  key : ByteArray
noncomputable def cFind : Con where
  α := FindA
  β := Unit
  m := 2
  m' := 2
  pre := fun a => 1 ≤ a.t.length ∧ a.t.length < 100000 ∧ a.key.size ≤ lenMax
  args := fun a => [.a (.ptr 0 0 0 0), .a (.str a.key)]
  hp := fun _ => []
  ro := fun a => idxHp 0 1 a.t a.cap a.n a.used
  post := fun _ _ => True
  res := fun a _ => .tup [.a (.int .i64 (findP a.t a.key).1), .a (.int .i64 (findP a.t a.key).2)]
  hp' := fun _ _ => []
def iFind (a : FindA) : An := .flat 4 (Nat × Nat × Int) (fun s x => ((s.int 25 x.1).int 7 x.2.1).set 6 (.a (.int .i64 x.2.2)))
  (fun _ x => x.1 ≤ a.t.length ∧ x.2.1 < a.t.length ∧ -1 ≤ x.2.2 ∧ x.2.2 < a.t.length ∧ findFrom a.t a.key (a.t.length - x.1) x.2.1 x.2.2 = findP a.t a.key) (fun _ x => a.t.length - x.1)
set_option maxHeartbeats 4000000 in
theorem bodyFind : fnBody (Y Try.prog) [(24, cMixOf)] 22 cFind fun a => [(22, [iFind a], [])] := fnBody.of (p :=
  ∀ (a : FindA), (1 : Nat) ≤ a.t.length ∧
  a.t.length < (100000 : Nat) ∧
  a.key.size ≤ lenMax →
  ∃ (a_2 : OfA), ((0 : Nat) = (0 : Nat) ∧
  (1 : Nat) = a_2.n ∧
  (1 : Nat) = a_2.cap) ∧
  (a_2.n ≤ (1 : Nat) ∧
  RowsEq a_2.n (1 : Nat) (flatRows (1 : Nat) [Value.string a.key]) fun (i x : Nat) => Value.string (a_2.g i)) ∧
  (a_2.n < (100000 : Nat) ∧
  ∀ (i : Nat), i < a_2.n →
  (a_2.g i).size ≤ lenMax) ∧
  ∀ (b : Unit), True →
  uw IntKind.u64 (↑a.t.length : Int) ≠ (0 : Int) ∧
  (∃ (a_4 : Nat × Nat × Int), (-1 : Int) = a_4.snd.snd ∧
  uw IntKind.i64 (hashG a_2.g a_2.n % uw IntKind.u64 (↑a.t.length : Int)) = (↑a_4.snd.fst : Int) ∧
  (0 : Int) = (↑a_4.fst : Int) ∧
  (↑a.t.length : Int) = (↑a.t.length : Int) ∧
  (0 : Int) = (0 : Int) ∧
  (0 : Int) = (0 : Int) ∧
  (0 : Nat) = (0 : Nat) ∧
  a.key = a.key ∧
  ((0 : Nat) = (0 : Nat) ∧
  a.t.length = a.t.length ∧
  a.cap = a.cap) ∧
  (↑a.n : Int) = (↑a.n : Int) ∧
  (↑a.used : Int) = (↑a.used : Int) ∧
  (a.t.length ≤ a.t.length ∧
  RowsEq a.t.length (4 : Nat) (encRows encP a.t) (encRows encP a.t)) ∧
  (a_4.fst ≤ a.t.length ∧
  a_4.snd.fst < a.t.length ∧
  (-1 : Int) ≤ a_4.snd.snd ∧
  a_4.snd.snd < (↑a.t.length : Int) ∧
  findFrom a.t a.key (a.t.length - a_4.fst) a_4.snd.fst a_4.snd.snd = findP a.t a.key) ∧
  True) ∧
  ∀ (a_4 : Nat × Nat × Int), a_4.fst ≤ a.t.length ∧
  a_4.snd.fst < a.t.length ∧
  (-1 : Int) ≤ a_4.snd.snd ∧
  a_4.snd.snd < (↑a.t.length : Int) ∧
  findFrom a.t a.key (a.t.length - a_4.fst) a_4.snd.fst a_4.snd.snd = findP a.t a.key →
  (Decidable.decide ((↑a_4.fst : Int) < (↑a.t.length : Int)) = Bool.true →
  ((0 : Int) ≤ (↑a_4.snd.fst : Int) ∧
  (↑a_4.snd.fst : Int) < (↑a.t.length : Int)) ∧
  (0 : Nat) + (↑a_4.snd.fst : Int).toNat < a.t.length ∧
  ((gl a.t ((0 : Nat) + (↑a_4.snd.fst : Int).toNat)).has = Bool.true →
  (Decidable.decide ((gl a.t ((0 : Nat) + (↑a_4.snd.fst : Int).toNat)).key = a.key) = Bool.true →
  ∃ (b : Unit), (↑a_4.snd.fst : Int) = (findP a.t a.key).fst ∧
  (↑a_4.snd.fst : Int) = (findP a.t a.key).snd ∧
  True ∧
  True) ∧
  (Decidable.decide ((gl a.t ((0 : Nat) + (↑a_4.snd.fst : Int).toNat)).key = a.key) = Bool.false →
  ((!(gl a.t ((0 : Nat) + (↑a_4.snd.fst : Int).toNat)).has) = Bool.true →
  (Decidable.decide (a_4.snd.snd < (0 : Int)) = Bool.true →
  ((!(gl a.t ((0 : Nat) + (↑a_4.snd.fst : Int).toNat)).has) = Bool.true →
  ((!(gl a.t ((0 : Nat) + (↑a_4.snd.fst : Int).toNat)).gone) = Bool.true →
  ∃ (b : Unit), (-1 : Int) = (findP a.t a.key).fst ∧
  (↑a_4.snd.fst : Int) = (findP a.t a.key).snd ∧
  True ∧
  True) ∧
  ((!(gl a.t ((0 : Nat) + (↑a_4.snd.fst : Int).toNat)).gone) = Bool.false →
  InR IntKind.i64 ((↑a_4.snd.fst : Int) + (1 : Int)) ∧
  (↑a.t.length : Int) ≠ (0 : Int) ∧
  InR IntKind.i64 ((↑a_4.fst : Int) + (1 : Int)) ∧
  ∃ (a' : Nat × Nat × Int), (↑a_4.snd.fst : Int) = a'.snd.snd ∧
  ((↑a_4.snd.fst : Int) + (1 : Int)).tmod (↑a.t.length : Int) = (↑a'.snd.fst : Int) ∧
  (↑a_4.fst : Int) + (1 : Int) = (↑a'.fst : Int) ∧
  (↑a.t.length : Int) = (↑a.t.length : Int) ∧
  (0 : Int) = (0 : Int) ∧
  (0 : Int) = (0 : Int) ∧
  (0 : Nat) = (0 : Nat) ∧
  a.key = a.key ∧
  ((0 : Nat) = (0 : Nat) ∧
  a.t.length = a.t.length ∧
  a.cap = a.cap) ∧
  (↑a.n : Int) = (↑a.n : Int) ∧
  (↑a.used : Int) = (↑a.used : Int) ∧
  (a.t.length ≤ a.t.length ∧
  RowsEq a.t.length (4 : Nat) (encRows encP a.t) (encRows encP a.t)) ∧
  (a'.fst ≤ a.t.length ∧
  a'.snd.fst < a.t.length ∧
  (-1 : Int) ≤ a'.snd.snd ∧
  a'.snd.snd < (↑a.t.length : Int) ∧
  findFrom a.t a.key (a.t.length - a'.fst) a'.snd.fst a'.snd.snd = findP a.t a.key) ∧
  a.t.length - a'.fst < a.t.length - a_4.fst)) ∧
  ((!(gl a.t ((0 : Nat) + (↑a_4.snd.fst : Int).toNat)).has) = Bool.false →
  InR IntKind.i64 ((↑a_4.snd.fst : Int) + (1 : Int)) ∧
  (↑a.t.length : Int) ≠ (0 : Int) ∧
  InR IntKind.i64 ((↑a_4.fst : Int) + (1 : Int)) ∧
  ∃ (a' : Nat × Nat × Int), (↑a_4.snd.fst : Int) = a'.snd.snd ∧
  ((↑a_4.snd.fst : Int) + (1 : Int)).tmod (↑a.t.length : Int) = (↑a'.snd.fst : Int) ∧
  (↑a_4.fst : Int) + (1 : Int) = (↑a'.fst : Int) ∧
  (↑a.t.length : Int) = (↑a.t.length : Int) ∧
  (0 : Int) = (0 : Int) ∧
  (0 : Int) = (0 : Int) ∧
  (0 : Nat) = (0 : Nat) ∧
  a.key = a.key ∧
  ((0 : Nat) = (0 : Nat) ∧
  a.t.length = a.t.length ∧
  a.cap = a.cap) ∧
  (↑a.n : Int) = (↑a.n : Int) ∧
  (↑a.used : Int) = (↑a.used : Int) ∧
  (a.t.length ≤ a.t.length ∧
  RowsEq a.t.length (4 : Nat) (encRows encP a.t) (encRows encP a.t)) ∧
  (a'.fst ≤ a.t.length ∧
  a'.snd.fst < a.t.length ∧
  (-1 : Int) ≤ a'.snd.snd ∧
  a'.snd.snd < (↑a.t.length : Int) ∧
  findFrom a.t a.key (a.t.length - a'.fst) a'.snd.fst a'.snd.snd = findP a.t a.key) ∧
  a.t.length - a'.fst < a.t.length - a_4.fst)) ∧
  (Decidable.decide (a_4.snd.snd < (0 : Int)) = Bool.false →
  ((!(gl a.t ((0 : Nat) + (↑a_4.snd.fst : Int).toNat)).has) = Bool.true →
  ((!(gl a.t ((0 : Nat) + (↑a_4.snd.fst : Int).toNat)).gone) = Bool.true →
  ∃ (b : Unit), (-1 : Int) = (findP a.t a.key).fst ∧
  a_4.snd.snd = (findP a.t a.key).snd ∧
  True ∧
  True) ∧
  ((!(gl a.t ((0 : Nat) + (↑a_4.snd.fst : Int).toNat)).gone) = Bool.false →
  InR IntKind.i64 ((↑a_4.snd.fst : Int) + (1 : Int)) ∧
  (↑a.t.length : Int) ≠ (0 : Int) ∧
  InR IntKind.i64 ((↑a_4.fst : Int) + (1 : Int)) ∧
  ∃ (a' : Nat × Nat × Int), a_4.snd.snd = a'.snd.snd ∧
  ((↑a_4.snd.fst : Int) + (1 : Int)).tmod (↑a.t.length : Int) = (↑a'.snd.fst : Int) ∧
  (↑a_4.fst : Int) + (1 : Int) = (↑a'.fst : Int) ∧
  (↑a.t.length : Int) = (↑a.t.length : Int) ∧
  (0 : Int) = (0 : Int) ∧
  (0 : Int) = (0 : Int) ∧
  (0 : Nat) = (0 : Nat) ∧
  a.key = a.key ∧
  ((0 : Nat) = (0 : Nat) ∧
  a.t.length = a.t.length ∧
  a.cap = a.cap) ∧
  (↑a.n : Int) = (↑a.n : Int) ∧
  (↑a.used : Int) = (↑a.used : Int) ∧
  (a.t.length ≤ a.t.length ∧
  RowsEq a.t.length (4 : Nat) (encRows encP a.t) (encRows encP a.t)) ∧
  (a'.fst ≤ a.t.length ∧
  a'.snd.fst < a.t.length ∧
  (-1 : Int) ≤ a'.snd.snd ∧
  a'.snd.snd < (↑a.t.length : Int) ∧
  findFrom a.t a.key (a.t.length - a'.fst) a'.snd.fst a'.snd.snd = findP a.t a.key) ∧
  a.t.length - a'.fst < a.t.length - a_4.fst)) ∧
  ((!(gl a.t ((0 : Nat) + (↑a_4.snd.fst : Int).toNat)).has) = Bool.false →
  InR IntKind.i64 ((↑a_4.snd.fst : Int) + (1 : Int)) ∧
  (↑a.t.length : Int) ≠ (0 : Int) ∧
  InR IntKind.i64 ((↑a_4.fst : Int) + (1 : Int)) ∧
  ∃ (a' : Nat × Nat × Int), a_4.snd.snd = a'.snd.snd ∧
  ((↑a_4.snd.fst : Int) + (1 : Int)).tmod (↑a.t.length : Int) = (↑a'.snd.fst : Int) ∧
  (↑a_4.fst : Int) + (1 : Int) = (↑a'.fst : Int) ∧
  (↑a.t.length : Int) = (↑a.t.length : Int) ∧
  (0 : Int) = (0 : Int) ∧
  (0 : Int) = (0 : Int) ∧
  (0 : Nat) = (0 : Nat) ∧
  a.key = a.key ∧
  ((0 : Nat) = (0 : Nat) ∧
  a.t.length = a.t.length ∧
  a.cap = a.cap) ∧
  (↑a.n : Int) = (↑a.n : Int) ∧
  (↑a.used : Int) = (↑a.used : Int) ∧
  (a.t.length ≤ a.t.length ∧
  RowsEq a.t.length (4 : Nat) (encRows encP a.t) (encRows encP a.t)) ∧
  (a'.fst ≤ a.t.length ∧
  a'.snd.fst < a.t.length ∧
  (-1 : Int) ≤ a'.snd.snd ∧
  a'.snd.snd < (↑a.t.length : Int) ∧
  findFrom a.t a.key (a.t.length - a'.fst) a'.snd.fst a'.snd.snd = findP a.t a.key) ∧
  a.t.length - a'.fst < a.t.length - a_4.fst))) ∧
  ((!(gl a.t ((0 : Nat) + (↑a_4.snd.fst : Int).toNat)).has) = Bool.false →
  ((!(gl a.t ((0 : Nat) + (↑a_4.snd.fst : Int).toNat)).has) = Bool.true →
  ((!(gl a.t ((0 : Nat) + (↑a_4.snd.fst : Int).toNat)).gone) = Bool.true →
  ∃ (b : Unit), (-1 : Int) = (findP a.t a.key).fst ∧
  a_4.snd.snd = (findP a.t a.key).snd ∧
  True ∧
  True) ∧
  ((!(gl a.t ((0 : Nat) + (↑a_4.snd.fst : Int).toNat)).gone) = Bool.false →
  InR IntKind.i64 ((↑a_4.snd.fst : Int) + (1 : Int)) ∧
  (↑a.t.length : Int) ≠ (0 : Int) ∧
  InR IntKind.i64 ((↑a_4.fst : Int) + (1 : Int)) ∧
  ∃ (a' : Nat × Nat × Int), a_4.snd.snd = a'.snd.snd ∧
  ((↑a_4.snd.fst : Int) + (1 : Int)).tmod (↑a.t.length : Int) = (↑a'.snd.fst : Int) ∧
  (↑a_4.fst : Int) + (1 : Int) = (↑a'.fst : Int) ∧
  (↑a.t.length : Int) = (↑a.t.length : Int) ∧
  (0 : Int) = (0 : Int) ∧
  (0 : Int) = (0 : Int) ∧
  (0 : Nat) = (0 : Nat) ∧
  a.key = a.key ∧
  ((0 : Nat) = (0 : Nat) ∧
  a.t.length = a.t.length ∧
  a.cap = a.cap) ∧
  (↑a.n : Int) = (↑a.n : Int) ∧
  (↑a.used : Int) = (↑a.used : Int) ∧
  (a.t.length ≤ a.t.length ∧
  RowsEq a.t.length (4 : Nat) (encRows encP a.t) (encRows encP a.t)) ∧
  (a'.fst ≤ a.t.length ∧
  a'.snd.fst < a.t.length ∧
  (-1 : Int) ≤ a'.snd.snd ∧
  a'.snd.snd < (↑a.t.length : Int) ∧
  findFrom a.t a.key (a.t.length - a'.fst) a'.snd.fst a'.snd.snd = findP a.t a.key) ∧
  a.t.length - a'.fst < a.t.length - a_4.fst)) ∧
  ((!(gl a.t ((0 : Nat) + (↑a_4.snd.fst : Int).toNat)).has) = Bool.false →
  InR IntKind.i64 ((↑a_4.snd.fst : Int) + (1 : Int)) ∧
  (↑a.t.length : Int) ≠ (0 : Int) ∧
  InR IntKind.i64 ((↑a_4.fst : Int) + (1 : Int)) ∧
  ∃ (a' : Nat × Nat × Int), a_4.snd.snd = a'.snd.snd ∧
  ((↑a_4.snd.fst : Int) + (1 : Int)).tmod (↑a.t.length : Int) = (↑a'.snd.fst : Int) ∧
  (↑a_4.fst : Int) + (1 : Int) = (↑a'.fst : Int) ∧
  (↑a.t.length : Int) = (↑a.t.length : Int) ∧
  (0 : Int) = (0 : Int) ∧
  (0 : Int) = (0 : Int) ∧
  (0 : Nat) = (0 : Nat) ∧
  a.key = a.key ∧
  ((0 : Nat) = (0 : Nat) ∧
  a.t.length = a.t.length ∧
  a.cap = a.cap) ∧
  (↑a.n : Int) = (↑a.n : Int) ∧
  (↑a.used : Int) = (↑a.used : Int) ∧
  (a.t.length ≤ a.t.length ∧
  RowsEq a.t.length (4 : Nat) (encRows encP a.t) (encRows encP a.t)) ∧
  (a'.fst ≤ a.t.length ∧
  a'.snd.fst < a.t.length ∧
  (-1 : Int) ≤ a'.snd.snd ∧
  a'.snd.snd < (↑a.t.length : Int) ∧
  findFrom a.t a.key (a.t.length - a'.fst) a'.snd.fst a'.snd.snd = findP a.t a.key) ∧
  a.t.length - a'.fst < a.t.length - a_4.fst)))) ∧
  ((gl a.t ((0 : Nat) + (↑a_4.snd.fst : Int).toNat)).has = Bool.false →
  ((!(gl a.t ((0 : Nat) + (↑a_4.snd.fst : Int).toNat)).has) = Bool.true →
  (Decidable.decide (a_4.snd.snd < (0 : Int)) = Bool.true →
  ((!(gl a.t ((0 : Nat) + (↑a_4.snd.fst : Int).toNat)).has) = Bool.true →
  ((!(gl a.t ((0 : Nat) + (↑a_4.snd.fst : Int).toNat)).gone) = Bool.true →
  ∃ (b : Unit), (-1 : Int) = (findP a.t a.key).fst ∧
  (↑a_4.snd.fst : Int) = (findP a.t a.key).snd ∧
  True ∧
  True) ∧
  ((!(gl a.t ((0 : Nat) + (↑a_4.snd.fst : Int).toNat)).gone) = Bool.false →
  InR IntKind.i64 ((↑a_4.snd.fst : Int) + (1 : Int)) ∧
  (↑a.t.length : Int) ≠ (0 : Int) ∧
  InR IntKind.i64 ((↑a_4.fst : Int) + (1 : Int)) ∧
  ∃ (a' : Nat × Nat × Int), (↑a_4.snd.fst : Int) = a'.snd.snd ∧
  ((↑a_4.snd.fst : Int) + (1 : Int)).tmod (↑a.t.length : Int) = (↑a'.snd.fst : Int) ∧
  (↑a_4.fst : Int) + (1 : Int) = (↑a'.fst : Int) ∧
  (↑a.t.length : Int) = (↑a.t.length : Int) ∧
  (0 : Int) = (0 : Int) ∧
  (0 : Int) = (0 : Int) ∧
  (0 : Nat) = (0 : Nat) ∧
  a.key = a.key ∧
  ((0 : Nat) = (0 : Nat) ∧
  a.t.length = a.t.length ∧
  a.cap = a.cap) ∧
  (↑a.n : Int) = (↑a.n : Int) ∧
  (↑a.used : Int) = (↑a.used : Int) ∧
  (a.t.length ≤ a.t.length ∧
  RowsEq a.t.length (4 : Nat) (encRows encP a.t) (encRows encP a.t)) ∧
  (a'.fst ≤ a.t.length ∧
  a'.snd.fst < a.t.length ∧
  (-1 : Int) ≤ a'.snd.snd ∧
  a'.snd.snd < (↑a.t.length : Int) ∧
  findFrom a.t a.key (a.t.length - a'.fst) a'.snd.fst a'.snd.snd = findP a.t a.key) ∧
  a.t.length - a'.fst < a.t.length - a_4.fst)) ∧
  ((!(gl a.t ((0 : Nat) + (↑a_4.snd.fst : Int).toNat)).has) = Bool.false →
  InR IntKind.i64 ((↑a_4.snd.fst : Int) + (1 : Int)) ∧
  (↑a.t.length : Int) ≠ (0 : Int) ∧
  InR IntKind.i64 ((↑a_4.fst : Int) + (1 : Int)) ∧
  ∃ (a' : Nat × Nat × Int), (↑a_4.snd.fst : Int) = a'.snd.snd ∧
  ((↑a_4.snd.fst : Int) + (1 : Int)).tmod (↑a.t.length : Int) = (↑a'.snd.fst : Int) ∧
  (↑a_4.fst : Int) + (1 : Int) = (↑a'.fst : Int) ∧
  (↑a.t.length : Int) = (↑a.t.length : Int) ∧
  (0 : Int) = (0 : Int) ∧
  (0 : Int) = (0 : Int) ∧
  (0 : Nat) = (0 : Nat) ∧
  a.key = a.key ∧
  ((0 : Nat) = (0 : Nat) ∧
  a.t.length = a.t.length ∧
  a.cap = a.cap) ∧
  (↑a.n : Int) = (↑a.n : Int) ∧
  (↑a.used : Int) = (↑a.used : Int) ∧
  (a.t.length ≤ a.t.length ∧
  RowsEq a.t.length (4 : Nat) (encRows encP a.t) (encRows encP a.t)) ∧
  (a'.fst ≤ a.t.length ∧
  a'.snd.fst < a.t.length ∧
  (-1 : Int) ≤ a'.snd.snd ∧
  a'.snd.snd < (↑a.t.length : Int) ∧
  findFrom a.t a.key (a.t.length - a'.fst) a'.snd.fst a'.snd.snd = findP a.t a.key) ∧
  a.t.length - a'.fst < a.t.length - a_4.fst)) ∧
  (Decidable.decide (a_4.snd.snd < (0 : Int)) = Bool.false →
  ((!(gl a.t ((0 : Nat) + (↑a_4.snd.fst : Int).toNat)).has) = Bool.true →
  ((!(gl a.t ((0 : Nat) + (↑a_4.snd.fst : Int).toNat)).gone) = Bool.true →
  ∃ (b : Unit), (-1 : Int) = (findP a.t a.key).fst ∧
  a_4.snd.snd = (findP a.t a.key).snd ∧
  True ∧
  True) ∧
  ((!(gl a.t ((0 : Nat) + (↑a_4.snd.fst : Int).toNat)).gone) = Bool.false →
  InR IntKind.i64 ((↑a_4.snd.fst : Int) + (1 : Int)) ∧
  (↑a.t.length : Int) ≠ (0 : Int) ∧
  InR IntKind.i64 ((↑a_4.fst : Int) + (1 : Int)) ∧
  ∃ (a' : Nat × Nat × Int), a_4.snd.snd = a'.snd.snd ∧
  ((↑a_4.snd.fst : Int) + (1 : Int)).tmod (↑a.t.length : Int) = (↑a'.snd.fst : Int) ∧
  (↑a_4.fst : Int) + (1 : Int) = (↑a'.fst : Int) ∧
  (↑a.t.length : Int) = (↑a.t.length : Int) ∧
  (0 : Int) = (0 : Int) ∧
  (0 : Int) = (0 : Int) ∧
  (0 : Nat) = (0 : Nat) ∧
  a.key = a.key ∧
  ((0 : Nat) = (0 : Nat) ∧
  a.t.length = a.t.length ∧
  a.cap = a.cap) ∧
  (↑a.n : Int) = (↑a.n : Int) ∧
  (↑a.used : Int) = (↑a.used : Int) ∧
  (a.t.length ≤ a.t.length ∧
  RowsEq a.t.length (4 : Nat) (encRows encP a.t) (encRows encP a.t)) ∧
  (a'.fst ≤ a.t.length ∧
  a'.snd.fst < a.t.length ∧
  (-1 : Int) ≤ a'.snd.snd ∧
  a'.snd.snd < (↑a.t.length : Int) ∧
  findFrom a.t a.key (a.t.length - a'.fst) a'.snd.fst a'.snd.snd = findP a.t a.key) ∧
  a.t.length - a'.fst < a.t.length - a_4.fst)) ∧
  ((!(gl a.t ((0 : Nat) + (↑a_4.snd.fst : Int).toNat)).has) = Bool.false →
  InR IntKind.i64 ((↑a_4.snd.fst : Int) + (1 : Int)) ∧
  (↑a.t.length : Int) ≠ (0 : Int) ∧
  InR IntKind.i64 ((↑a_4.fst : Int) + (1 : Int)) ∧
  ∃ (a' : Nat × Nat × Int), a_4.snd.snd = a'.snd.snd ∧
  ((↑a_4.snd.fst : Int) + (1 : Int)).tmod (↑a.t.length : Int) = (↑a'.snd.fst : Int) ∧
  (↑a_4.fst : Int) + (1 : Int) = (↑a'.fst : Int) ∧
  (↑a.t.length : Int) = (↑a.t.length : Int) ∧
  (0 : Int) = (0 : Int) ∧
  (0 : Int) = (0 : Int) ∧
  (0 : Nat) = (0 : Nat) ∧
  a.key = a.key ∧
  ((0 : Nat) = (0 : Nat) ∧
  a.t.length = a.t.length ∧
  a.cap = a.cap) ∧
  (↑a.n : Int) = (↑a.n : Int) ∧
  (↑a.used : Int) = (↑a.used : Int) ∧
  (a.t.length ≤ a.t.length ∧
  RowsEq a.t.length (4 : Nat) (encRows encP a.t) (encRows encP a.t)) ∧
  (a'.fst ≤ a.t.length ∧
  a'.snd.fst < a.t.length ∧
  (-1 : Int) ≤ a'.snd.snd ∧
  a'.snd.snd < (↑a.t.length : Int) ∧
  findFrom a.t a.key (a.t.length - a'.fst) a'.snd.fst a'.snd.snd = findP a.t a.key) ∧
  a.t.length - a'.fst < a.t.length - a_4.fst))) ∧
  ((!(gl a.t ((0 : Nat) + (↑a_4.snd.fst : Int).toNat)).has) = Bool.false →
  ((!(gl a.t ((0 : Nat) + (↑a_4.snd.fst : Int).toNat)).has) = Bool.true →
  ((!(gl a.t ((0 : Nat) + (↑a_4.snd.fst : Int).toNat)).gone) = Bool.true →
  ∃ (b : Unit), (-1 : Int) = (findP a.t a.key).fst ∧
  a_4.snd.snd = (findP a.t a.key).snd ∧
  True ∧
  True) ∧
  ((!(gl a.t ((0 : Nat) + (↑a_4.snd.fst : Int).toNat)).gone) = Bool.false →
  InR IntKind.i64 ((↑a_4.snd.fst : Int) + (1 : Int)) ∧
  (↑a.t.length : Int) ≠ (0 : Int) ∧
  InR IntKind.i64 ((↑a_4.fst : Int) + (1 : Int)) ∧
  ∃ (a' : Nat × Nat × Int), a_4.snd.snd = a'.snd.snd ∧
  ((↑a_4.snd.fst : Int) + (1 : Int)).tmod (↑a.t.length : Int) = (↑a'.snd.fst : Int) ∧
  (↑a_4.fst : Int) + (1 : Int) = (↑a'.fst : Int) ∧
  (↑a.t.length : Int) = (↑a.t.length : Int) ∧
  (0 : Int) = (0 : Int) ∧
  (0 : Int) = (0 : Int) ∧
  (0 : Nat) = (0 : Nat) ∧
  a.key = a.key ∧
  ((0 : Nat) = (0 : Nat) ∧
  a.t.length = a.t.length ∧
  a.cap = a.cap) ∧
  (↑a.n : Int) = (↑a.n : Int) ∧
  (↑a.used : Int) = (↑a.used : Int) ∧
  (a.t.length ≤ a.t.length ∧
  RowsEq a.t.length (4 : Nat) (encRows encP a.t) (encRows encP a.t)) ∧
  (a'.fst ≤ a.t.length ∧
  a'.snd.fst < a.t.length ∧
  (-1 : Int) ≤ a'.snd.snd ∧
  a'.snd.snd < (↑a.t.length : Int) ∧
  findFrom a.t a.key (a.t.length - a'.fst) a'.snd.fst a'.snd.snd = findP a.t a.key) ∧
  a.t.length - a'.fst < a.t.length - a_4.fst)) ∧
  ((!(gl a.t ((0 : Nat) + (↑a_4.snd.fst : Int).toNat)).has) = Bool.false →
  InR IntKind.i64 ((↑a_4.snd.fst : Int) + (1 : Int)) ∧
  (↑a.t.length : Int) ≠ (0 : Int) ∧
  InR IntKind.i64 ((↑a_4.fst : Int) + (1 : Int)) ∧
  ∃ (a' : Nat × Nat × Int), a_4.snd.snd = a'.snd.snd ∧
  ((↑a_4.snd.fst : Int) + (1 : Int)).tmod (↑a.t.length : Int) = (↑a'.snd.fst : Int) ∧
  (↑a_4.fst : Int) + (1 : Int) = (↑a'.fst : Int) ∧
  (↑a.t.length : Int) = (↑a.t.length : Int) ∧
  (0 : Int) = (0 : Int) ∧
  (0 : Int) = (0 : Int) ∧
  (0 : Nat) = (0 : Nat) ∧
  a.key = a.key ∧
  ((0 : Nat) = (0 : Nat) ∧
  a.t.length = a.t.length ∧
  a.cap = a.cap) ∧
  (↑a.n : Int) = (↑a.n : Int) ∧
  (↑a.used : Int) = (↑a.used : Int) ∧
  (a.t.length ≤ a.t.length ∧
  RowsEq a.t.length (4 : Nat) (encRows encP a.t) (encRows encP a.t)) ∧
  (a'.fst ≤ a.t.length ∧
  a'.snd.fst < a.t.length ∧
  (-1 : Int) ≤ a'.snd.snd ∧
  a'.snd.snd < (↑a.t.length : Int) ∧
  findFrom a.t a.key (a.t.length - a'.fst) a'.snd.fst a'.snd.snd = findP a.t a.key) ∧
  a.t.length - a'.fst < a.t.length - a_4.fst)))) ∧
  (Decidable.decide ((↑a_4.fst : Int) < (↑a.t.length : Int)) = Bool.false →
  ∃ (b : Unit), (-1 : Int) = (findP a.t a.key).fst ∧
  a_4.snd.snd = (findP a.t a.key).snd ∧
  True ∧
  True)) (by kernel_rfl) (by
  intro a h
  obtain ⟨h1, h2, h3⟩ := h
  have hst := startOf_lt a.key h1
  refine ⟨⟨fun _ => a.key, 1, 1⟩, ?_⟩
  simp only [Nat.zero_add, Int.toNat_natCast, start_eq a.key h1 h2, next_eq]
  refine ⟨⟨trivial, trivial, trivial⟩, ⟨Nat.le_refl _, .of_cells fun j hj => ?_⟩, ⟨by omega, fun _ _ => h3⟩, fun _ _ => ⟨by simp only [uw]; omega, ⟨(0, startOf a.t.length a.key, -1), ?_⟩, fun x hx => ?_⟩⟩
  · have : j = 0 := by omega
    subst this; rfl
  · dsimp only
    (repeat' apply And.intro) <;> (first | exact trivial | rfl | omega | assumption | exact RowsEq.refl _ _ _ | (simp only [InR]; omega) | (simp; done) | (simp; omega) | grind)
  · obtain ⟨i, at_, free⟩ := x
    obtain ⟨i1, i2, i3, i4, i5⟩ := hx
    dsimp only at *
    have hmod : (at_ + 1) % a.t.length < a.t.length := Nat.mod_lt _ h1
    have stop : i = a.t.length → findP a.t a.key = (-1, free) := by
      intro e; rw [← i5, e, Nat.sub_self]; rfl
    have step := fun hi => find_step (i := i) hi i5
    simp only [InR]
    repeat' (first | intro _ | apply And.intro | apply Exists.intro () | apply Exists.intro ((i + 1, (at_ + 1) % a.t.length, _) : Nat × Nat × Int))
    all_goals (try with_reducible rfl)
    all_goals (try exact RowsEq.refl _ _ _)
    all_goals (try dsimp only)
    all_goals (try simp only [decide_eq_true_eq, decide_eq_false_iff_not] at *)
    all_goals (try omega)
    all_goals (try (have h9 := step (by omega); grind [hit, bare]))
    all_goals (try (have h9 := stop (by omega); rw [h9])))
theorem callFind : CallsBy (Y Try.prog).G.X 22 cFind := fn_ok okY (tab := [(24, cMixOf)]) ⟨callMixOf, trivial⟩ bodyFind

/-! ### Put, where the table need not grow -/

structure IdxR where
  t : List PlaceR
  n : Nat
  used : Nat
def putRet (x : IdxR) (key : ByteArray) : Int := if 0 ≤ (findP x.t key).1 then (gl x.t (findP x.t key).1.toNat).pos else 0
def putI (x : IdxR) (key : ByteArray) (pos : Int) : IdxR :=
  if 0 ≤ (findP x.t key).1 then { x with t := x.t.set (findP x.t key).1.toNat { gl x.t (findP x.t key).1.toNat with pos := pos } }
  else ⟨x.t.set (findP x.t key).2.toNat ⟨key, pos, true, false⟩, x.n + 1, if (gl x.t (findP x.t key).2.toNat).gone then x.used else x.used + 1⟩
theorem putI_length (x : IdxR) (key : ByteArray) (pos : Int) : (putI x key pos).t.length = x.t.length := by unfold putI; split <;> simp
theorem findFrom_lt (t : List PlaceR) (key : ByteArray) (h : 1 ≤ t.length) : ∀ (k i : Nat) (f : Int), i < t.length → f < t.length → (findFrom t key k i f).1 < t.length ∧ (findFrom t key k i f).2 < t.length
  | 0, i, f, hi, hf => by simp only [findFrom]; omega
  | k + 1, i, f, hi, hf => by
    have h1 : (if !(gl t i).has && decide (f < 0) then (i : Int) else f) < t.length := by split <;> omega
    unfold findFrom
    by_cases hh : hit key (gl t i) = true
    · rw [if_pos hh]; exact ⟨by simp only; omega, by simp only; omega⟩
    · rw [if_neg hh]
      dsimp only
      by_cases hb : bare (gl t i) = true
      · rw [if_pos hb]; exact ⟨by simp only; omega, h1⟩
      · rw [if_neg hb]; exact findFrom_lt t key h k _ _ (Nat.mod_lt _ h) h1
theorem findP_lt {t : List PlaceR} (key : ByteArray) (h : 1 ≤ t.length) : (findP t key).1 < t.length ∧ (findP t key).2 < t.length :=
  findFrom_lt t key h _ _ _ (startOf_lt key h) (by omega)

structure PutA where
  x : IdxR
  cap : Nat
  key : ByteArray
  pos : Int
noncomputable def cPut0 : Con where
  α := PutA
  β := Unit
  m := 2
  m' := 2
  pre := fun a => 1 ≤ a.x.t.length ∧ a.x.t.length < 100000 ∧ a.key.size ≤ lenMax ∧ 2 * a.x.used < a.x.t.length ∧ a.x.n < 100000 ∧ ((findP a.x.t a.key).1 < 0 → 0 ≤ (findP a.x.t a.key).2)
  args := fun a => [.a (.ptr 0 0 0 0), .a (.str a.key), .a (.int .i64 a.pos)]
  hp := fun a => idxHp 0 1 a.x.t a.cap a.x.n a.x.used
  ro := fun _ => []
  post := fun _ _ => True
  res := fun a _ => .a (.int .i64 (putRet a.x a.key))
  hp' := fun a _ => idxHp 0 1 (putI a.x a.key a.pos).t a.cap (putI a.x a.key a.pos).n (putI a.x a.key a.pos).used
/-- not called here -/
noncomputable def cNever : Con where
  α := Unit
  β := Unit
  m := 1
  m' := 1
  pre := fun _ => False
  args := fun _ => [.a (.ptr 0 0 0 0)]
  hp := fun _ => []
  ro := fun _ => []
  post := fun _ _ => True
  res := fun _ _ => .a .any
  hp' := fun _ _ => []
theorem callNever (f : Nat) : CallsBy (Y Try.prog).G.X f cNever := fn_ok okY (tab := []) trivial (l := fun _ => []) ⟨fun a h => False.elim h⟩
set_option maxHeartbeats 4000000 in
theorem bodyPut0 : fnBody (Y Try.prog) [(22, cFind), (21, cNever)] 10 cPut0 fun _ => [] := fnBody.of (p :=
  ∀ (a : PutA), (1 : Nat) ≤ a.x.t.length ∧
  a.x.t.length < (100000 : Nat) ∧
  a.key.size ≤ lenMax ∧
  (2 : Nat) * a.x.used < a.x.t.length ∧
  a.x.n < (100000 : Nat) ∧
  ((findP a.x.t a.key).fst < (0 : Int) →
  (0 : Int) ≤ (findP a.x.t a.key).snd) →
  InR IntKind.i64 (↑a.x.used : Int) →
  InR IntKind.i64 ((2 : Int) * (↑a.x.used : Int)) ∧
  (Decidable.decide ((↑a.x.t.length : Int) ≤ (2 : Int) * (↑a.x.used : Int)) = Bool.true →
  ∃ (a_4 : Unit), (0 : Nat) = (0 : Nat) ∧
  False ∧
  ∀ (b : Unit), True →
  ∃ (a_6 : FindA), (0 : Nat) = (0 : Nat) ∧
  a.key = a_6.key ∧
  ((0 : Nat) = (0 : Nat) ∧
  a.x.t.length = a_6.t.length ∧
  a.cap = a_6.cap) ∧
  (↑a.x.n : Int) = (↑a_6.n : Int) ∧
  (↑a.x.used : Int) = (↑a_6.used : Int) ∧
  (a_6.t.length ≤ a.x.t.length ∧
  RowsEq a_6.t.length (4 : Nat) (encRows encP a.x.t) (encRows encP a_6.t)) ∧
  ((1 : Nat) ≤ a_6.t.length ∧
  a_6.t.length < (100000 : Nat) ∧
  a_6.key.size ≤ lenMax) ∧
  ∀ (b : Unit), True →
  (Decidable.decide ((0 : Int) ≤ (findP a_6.t a_6.key).fst) = Bool.true →
  ((0 : Int) ≤ (findP a_6.t a_6.key).fst ∧
  (findP a_6.t a_6.key).fst < (↑a.x.t.length : Int)) ∧
  (0 : Nat) + (findP a_6.t a_6.key).fst.toNat < a.x.t.length ∧
  (InR IntKind.i64 (gl a.x.t ((0 : Nat) + (findP a_6.t a_6.key).fst.toNat)).pos →
  ((0 : Int) ≤ (findP a_6.t a_6.key).fst ∧
  (findP a_6.t a_6.key).fst < (↑a.x.t.length : Int)) ∧
  (0 : Nat) + (findP a_6.t a_6.key).fst.toNat < a.x.t.length ∧
  ∃ (b : Unit), (gl a.x.t ((0 : Nat) + (findP a_6.t a_6.key).fst.toNat)).pos = putRet a.x a.key ∧
  ((0 : Nat) = (0 : Nat) ∧
  a.x.t.length = (putI a.x a.key a.pos).t.length ∧
  a.cap = a.cap) ∧
  (↑a.x.n : Int) = (↑(putI a.x a.key a.pos).n : Int) ∧
  (↑a.x.used : Int) = (↑(putI a.x a.key a.pos).used : Int) ∧
  ((putI a.x a.key a.pos).t.length ≤ a.x.t.length ∧
  RowsEq (putI a.x a.key a.pos).t.length (4 : Nat) (updR (encRows encP a.x.t) ((0 : Nat) + (findP a_6.t a_6.key).fst.toNat) (1 : Nat) [Value.int IntKind.i64 a.pos]) (encRows encP (putI a.x a.key a.pos).t)) ∧
  True ∧
  True)) ∧
  (Decidable.decide ((0 : Int) ≤ (findP a_6.t a_6.key).fst) = Bool.false →
  ((0 : Int) ≤ (findP a_6.t a_6.key).snd ∧
  (findP a_6.t a_6.key).snd < (↑a.x.t.length : Int)) ∧
  (0 : Nat) + (findP a_6.t a_6.key).snd.toNat < a.x.t.length ∧
  ((!(gl a.x.t ((0 : Nat) + (findP a_6.t a_6.key).snd.toNat)).gone) = Bool.true →
  InR IntKind.i64 (↑a.x.used : Int) →
  InR IntKind.i64 ((↑a.x.used : Int) + (1 : Int)) ∧
  ((0 : Int) ≤ (findP a_6.t a_6.key).snd ∧
  (findP a_6.t a_6.key).snd < (↑a.x.t.length : Int)) ∧
  (0 : Nat) + (findP a_6.t a_6.key).snd.toNat < a.x.t.length ∧
  (InR IntKind.i64 (↑a.x.n : Int) →
  InR IntKind.i64 ((↑a.x.n : Int) + (1 : Int)) ∧
  ∃ (b : Unit), (0 : Int) = putRet a.x a.key ∧
  ((0 : Nat) = (0 : Nat) ∧
  a.x.t.length = (putI a.x a.key a.pos).t.length ∧
  a.cap = a.cap) ∧
  (↑a.x.n : Int) + (1 : Int) = (↑(putI a.x a.key a.pos).n : Int) ∧
  (↑a.x.used : Int) + (1 : Int) = (↑(putI a.x a.key a.pos).used : Int) ∧
  ((putI a.x a.key a.pos).t.length ≤ a.x.t.length ∧
  RowsEq (putI a.x a.key a.pos).t.length (4 : Nat) (updR (encRows encP a.x.t) ((0 : Nat) + (findP a_6.t a_6.key).snd.toNat) (0 : Nat) [Value.string a.key, Value.int IntKind.i64 a.pos, Value.bool Bool.true, Value.bool Bool.false]) (encRows encP (putI a.x a.key a.pos).t)) ∧
  True ∧
  True)) ∧
  ((!(gl a.x.t ((0 : Nat) + (findP a_6.t a_6.key).snd.toNat)).gone) = Bool.false →
  ((0 : Int) ≤ (findP a_6.t a_6.key).snd ∧
  (findP a_6.t a_6.key).snd < (↑a.x.t.length : Int)) ∧
  (0 : Nat) + (findP a_6.t a_6.key).snd.toNat < a.x.t.length ∧
  (InR IntKind.i64 (↑a.x.n : Int) →
  InR IntKind.i64 ((↑a.x.n : Int) + (1 : Int)) ∧
  ∃ (b : Unit), (0 : Int) = putRet a.x a.key ∧
  ((0 : Nat) = (0 : Nat) ∧
  a.x.t.length = (putI a.x a.key a.pos).t.length ∧
  a.cap = a.cap) ∧
  (↑a.x.n : Int) + (1 : Int) = (↑(putI a.x a.key a.pos).n : Int) ∧
  (↑a.x.used : Int) = (↑(putI a.x a.key a.pos).used : Int) ∧
  ((putI a.x a.key a.pos).t.length ≤ a.x.t.length ∧
  RowsEq (putI a.x a.key a.pos).t.length (4 : Nat) (updR (encRows encP a.x.t) ((0 : Nat) + (findP a_6.t a_6.key).snd.toNat) (0 : Nat) [Value.string a.key, Value.int IntKind.i64 a.pos, Value.bool Bool.true, Value.bool Bool.false]) (encRows encP (putI a.x a.key a.pos).t)) ∧
  True ∧
  True)))) ∧
  (Decidable.decide ((↑a.x.t.length : Int) ≤ (2 : Int) * (↑a.x.used : Int)) = Bool.false →
  ∃ (a_4 : FindA), (0 : Nat) = (0 : Nat) ∧
  a.key = a_4.key ∧
  ((0 : Nat) = (0 : Nat) ∧
  a.x.t.length = a_4.t.length ∧
  a.cap = a_4.cap) ∧
  (↑a.x.n : Int) = (↑a_4.n : Int) ∧
  (↑a.x.used : Int) = (↑a_4.used : Int) ∧
  (a_4.t.length ≤ a.x.t.length ∧
  RowsEq a_4.t.length (4 : Nat) (encRows encP a.x.t) (encRows encP a_4.t)) ∧
  ((1 : Nat) ≤ a_4.t.length ∧
  a_4.t.length < (100000 : Nat) ∧
  a_4.key.size ≤ lenMax) ∧
  ∀ (b : Unit), True →
  (Decidable.decide ((0 : Int) ≤ (findP a_4.t a_4.key).fst) = Bool.true →
  ((0 : Int) ≤ (findP a_4.t a_4.key).fst ∧
  (findP a_4.t a_4.key).fst < (↑a.x.t.length : Int)) ∧
  (0 : Nat) + (findP a_4.t a_4.key).fst.toNat < a.x.t.length ∧
  (InR IntKind.i64 (gl a.x.t ((0 : Nat) + (findP a_4.t a_4.key).fst.toNat)).pos →
  ((0 : Int) ≤ (findP a_4.t a_4.key).fst ∧
  (findP a_4.t a_4.key).fst < (↑a.x.t.length : Int)) ∧
  (0 : Nat) + (findP a_4.t a_4.key).fst.toNat < a.x.t.length ∧
  ∃ (b : Unit), (gl a.x.t ((0 : Nat) + (findP a_4.t a_4.key).fst.toNat)).pos = putRet a.x a.key ∧
  ((0 : Nat) = (0 : Nat) ∧
  a.x.t.length = (putI a.x a.key a.pos).t.length ∧
  a.cap = a.cap) ∧
  (↑a.x.n : Int) = (↑(putI a.x a.key a.pos).n : Int) ∧
  (↑a.x.used : Int) = (↑(putI a.x a.key a.pos).used : Int) ∧
  ((putI a.x a.key a.pos).t.length ≤ a.x.t.length ∧
  RowsEq (putI a.x a.key a.pos).t.length (4 : Nat) (updR (encRows encP a.x.t) ((0 : Nat) + (findP a_4.t a_4.key).fst.toNat) (1 : Nat) [Value.int IntKind.i64 a.pos]) (encRows encP (putI a.x a.key a.pos).t)) ∧
  True ∧
  True)) ∧
  (Decidable.decide ((0 : Int) ≤ (findP a_4.t a_4.key).fst) = Bool.false →
  ((0 : Int) ≤ (findP a_4.t a_4.key).snd ∧
  (findP a_4.t a_4.key).snd < (↑a.x.t.length : Int)) ∧
  (0 : Nat) + (findP a_4.t a_4.key).snd.toNat < a.x.t.length ∧
  ((!(gl a.x.t ((0 : Nat) + (findP a_4.t a_4.key).snd.toNat)).gone) = Bool.true →
  InR IntKind.i64 (↑a.x.used : Int) →
  InR IntKind.i64 ((↑a.x.used : Int) + (1 : Int)) ∧
  ((0 : Int) ≤ (findP a_4.t a_4.key).snd ∧
  (findP a_4.t a_4.key).snd < (↑a.x.t.length : Int)) ∧
  (0 : Nat) + (findP a_4.t a_4.key).snd.toNat < a.x.t.length ∧
  (InR IntKind.i64 (↑a.x.n : Int) →
  InR IntKind.i64 ((↑a.x.n : Int) + (1 : Int)) ∧
  ∃ (b : Unit), (0 : Int) = putRet a.x a.key ∧
  ((0 : Nat) = (0 : Nat) ∧
  a.x.t.length = (putI a.x a.key a.pos).t.length ∧
  a.cap = a.cap) ∧
  (↑a.x.n : Int) + (1 : Int) = (↑(putI a.x a.key a.pos).n : Int) ∧
  (↑a.x.used : Int) + (1 : Int) = (↑(putI a.x a.key a.pos).used : Int) ∧
  ((putI a.x a.key a.pos).t.length ≤ a.x.t.length ∧
  RowsEq (putI a.x a.key a.pos).t.length (4 : Nat) (updR (encRows encP a.x.t) ((0 : Nat) + (findP a_4.t a_4.key).snd.toNat) (0 : Nat) [Value.string a.key, Value.int IntKind.i64 a.pos, Value.bool Bool.true, Value.bool Bool.false]) (encRows encP (putI a.x a.key a.pos).t)) ∧
  True ∧
  True)) ∧
  ((!(gl a.x.t ((0 : Nat) + (findP a_4.t a_4.key).snd.toNat)).gone) = Bool.false →
  ((0 : Int) ≤ (findP a_4.t a_4.key).snd ∧
  (findP a_4.t a_4.key).snd < (↑a.x.t.length : Int)) ∧
  (0 : Nat) + (findP a_4.t a_4.key).snd.toNat < a.x.t.length ∧
  (InR IntKind.i64 (↑a.x.n : Int) →
  InR IntKind.i64 ((↑a.x.n : Int) + (1 : Int)) ∧
  ∃ (b : Unit), (0 : Int) = putRet a.x a.key ∧
  ((0 : Nat) = (0 : Nat) ∧
  a.x.t.length = (putI a.x a.key a.pos).t.length ∧
  a.cap = a.cap) ∧
  (↑a.x.n : Int) + (1 : Int) = (↑(putI a.x a.key a.pos).n : Int) ∧
  (↑a.x.used : Int) = (↑(putI a.x a.key a.pos).used : Int) ∧
  ((putI a.x a.key a.pos).t.length ≤ a.x.t.length ∧
  RowsEq (putI a.x a.key a.pos).t.length (4 : Nat) (updR (encRows encP a.x.t) ((0 : Nat) + (findP a_4.t a_4.key).snd.toNat) (0 : Nat) [Value.string a.key, Value.int IntKind.i64 a.pos, Value.bool Bool.true, Value.bool Bool.false]) (encRows encP (putI a.x a.key a.pos).t)) ∧
  True ∧
  True))))) (by kernel_rfl) (by
  intro a h
  obtain ⟨h1, h2, h3, h4, h5, h6⟩ := h
  obtain ⟨l1, l2⟩ := findP_lt a.key h1
  have hl := putI_length a.x a.key a.pos
  have yes : 0 ≤ (findP a.x.t a.key).1 → putI a.x a.key a.pos = { a.x with t := a.x.t.set (findP a.x.t a.key).1.toNat { gl a.x.t (findP a.x.t a.key).1.toNat with pos := a.pos } } := fun e => if_pos e
  have no : ¬ 0 ≤ (findP a.x.t a.key).1 → putI a.x a.key a.pos = ⟨a.x.t.set (findP a.x.t a.key).2.toNat ⟨a.key, a.pos, true, false⟩, a.x.n + 1, if (gl a.x.t (findP a.x.t a.key).2.toNat).gone then a.x.used else a.x.used + 1⟩ := fun e => if_neg e
  simp only [Nat.zero_add, InR]
  refine fun _ => ⟨by omega, fun e => absurd e (by simp; omega), fun _ => ⟨⟨a.x.t, a.cap, a.x.n, a.x.used, a.key⟩, ?_⟩⟩
  dsimp only
  repeat' (first | intro _ | apply And.intro | apply Exists.intro ())
  all_goals (try with_reducible rfl)
  all_goals (try simp only [decide_eq_true_eq, decide_eq_false_iff_not, Bool.not_eq_true', Bool.not_eq_false'] at *)
  all_goals (try exact trivial)
  all_goals (try omega)
  all_goals (try (grind [putRet]))
  all_goals (try (with_reducible exact RowsEq.refl _ _ _))
  all_goals (first | (rw [yes (by assumption)]; refine .set _ (by omega) (fun i hi => by simp only [updR_other hi]) ?_; simp only [updR_self]; rfl) | (rw [no (by assumption)]; refine .set _ (by omega) (fun i hi => by simp only [updR_other hi]) ?_; simp only [updR_self]; rfl)))
theorem callPut0 : CallsBy (Y Try.prog).G.X 10 cPut0 := fn_ok okY (tab := [(22, cFind), (21, cNever)]) ⟨callFind, callNever _, trivial⟩ bodyPut0

end Go.Proofs.Ytfpgkgelgpandaa
