/-
  The layer slog: a segment's records are found; no condition but that its bytes are not too many.
  A pool that has nothing may be there at any time; a contract that reads a slice by its tag, told of a slice of a pool.
  The layer slog: a segment is read; no condition but that the device has it.
  The library's sort and its way of letting entries go, where there is at most one segment; no condition but that.
  The layer slog: a log is opened; no condition but that at most one segment stands there.
  The layer slog: all records are told; no condition but that they are not too many.
  The layer mix: what the hash of texts comes to; no condition but that lists are short.
  The layer index's functions, as what they do to a table; no condition but that tables are short.
  The layer index, on from Put where the table need not grow: grow, Put, Get, Drop, Below, Len, New; no condition but that tables are short.
  The index's table as a plain list of places: what find tells, what Put, grow, Drop and Below do to the keys that are there. No program in sight.
-/
import Derived.Test.YtfobhkibkdmglaaGreatFlashNoneP4
import Derived.Test.YtfobhkibkdmglaaGreatFlashNoneP3
namespace Go.Proofs.YtfobhkibkdmglaaGreat
open Go.Sx
set_option maxRecDepth 100000
set_option linter.unusedVariables false
set_option linter.unusedSimpArgs false

structure GetVA where
 H : PH
 v : Value
 len : Nat
 c : Nat
 rows : Nat → Nat → Value
noncomputable def cGetV : Con where
 α := GetVA
 β := Unit
 m := 1
 m' := 1
 pre := fun a => slAt a.H a.v [.int .u8] a.len a.c a.rows ∧ a.len ≤ 8
 args := fun a => [.a (.val a.v)]
 hp := fun _ => []
 ro := fun a => [(0, .pool a.H)]
 post := fun _ _ => True
 res := fun a _ => .a (.int .u64 (getTo (fun i => u8 a.rows i) a.len))
 hp' := fun _ _ => []
def iGetV (a : GetVA) : An := .flat 3 Nat (fun s k => (s.set 3 (.a (.int .u64 (getTo (fun i => u8 a.rows i) k)))).int 8 k) (fun _ k => k ≤ a.len) (fun _ k => a.len - k)
set_option maxHeartbeats 4000000 in
theorem bodyGetV : fnBody (Y Tryz.prog) [] 70 cGetV fun a => [(70, [iGetV a], [])] := fnBody.of (p :=
 ∀ a : GetVA, slAt a.H a.v [CK.int IntKind.u8] a.len a.c a.rows ∧ a.len ≤ 8 → (∃ a_2 : Option Go.Addr, ∃ l c : Nat, a.v = Value.slice a_2 l c ∧ l ≤ lenMax) ∧ (∃ a_2 : Nat, 0 = (↑a_2 : Int) ∧ (0 : Int) = getTo (fun (i : Nat) => u8 a.rows i) a_2 ∧ (↑(slLen a.v) : Int) = (↑(slLen a.v) : Int) ∧ a.v = a.v ∧ (0 : Int) = 0 ∧ a.v = a.v ∧ a.H = a.H ∧ a_2 ≤ a.len ∧ True) ∧ ∀ a_2 : Nat, a_2 ≤ a.len → (decide ((↑a_2 : Int) < (↑(slLen a.v) : Int)) = true → ∃ b o : Nat, ∃ l c : Nat, a.v = slv b o l c ∧ (0 ≤ (↑a_2 : Int) ∧ (↑a_2 : Int) < (↑l : Int)) ∧ ∃ b_1 lo o_1 : Nat, ∃ cs : List Value, pv b (o + (↑a_2 : Int).toNat * 1) = pv b_1 (lo + o_1) ∧ a.H b_1 = some (lo, cs) ∧ ((∃ v : Value, cs[o_1]? = some v ∧ ∃ n : Int, v = Value.int IntKind.u8 n ∧ InR .u8 n) ∧ True) ∧ (InR .u8 (toI (cs.getD o_1 (Value.tuple #[]))) → (0 : Int) ≤ 8 ∧ InR .i64 ((↑a_2 : Int) + 1) ∧ ∃ (a' : Nat), (↑a_2 : Int) + 1 = (↑a' : Int) ∧ ibits Go.BinOp.or IntKind.u64 (uw .u64 (getTo (fun (i : Nat) => u8 a.rows i) a_2 * (256 : Int))) (toI (cs.getD o_1 (Value.tuple #[]))) = getTo (fun (i : Nat) => u8 a.rows i) a' ∧ (↑(slLen a.v) : Int) = (↑(slLen a.v) : Int) ∧ a.v = a.v ∧ (0 : Int) = 0 ∧ a.v = a.v ∧ a.H = a.H ∧ a' ≤ a.len ∧ a.len - a' < a.len - a_2)) ∧ (decide ((↑a_2 : Int) < (↑(slLen a.v) : Int)) = false → ∃ b : Unit, getTo (fun (i : Nat) => u8 a.rows i) a_2 = getTo (fun (i : Nat) => u8 a.rows i) a.len ∧ True ∧ True)) (by kernel_rfl) (by
 rintro ⟨H, v, len, c, rows⟩ ⟨hs, h1⟩
 dsimp only at *
 obtain ⟨e1, _, e3, e4, _, ⟨ea, e2⟩, _⟩ := slAt_len hs
 refine ⟨⟨ea, _, _, e2, by omega⟩, ⟨0, ?_⟩, fun k hk => ⟨fun c1 => ?_, fun c1 => ⟨(), ?_⟩⟩⟩
 ·(repeat' apply And.intro) <;> first | with_reducible (first | rfl | trivial | assumption) | omega | with_reducible (first | exact RowsEq.refl _ _ _ | exact Nat.le_refl _) | (dsimp only [List.length_cons, List.length_nil] <;> omega) | rfl
 ·rw [e1] at c1
  have hk : k < len := by have := of_decide_eq_true c1; omega
  rcases hs with ⟨_, h0, _⟩ | ⟨b, lo, o, cs, g1, g2, g3, g4, g5⟩
  ·omega
  ·obtain ⟨q1, m, q2, q3⟩ := g5.at_ k hk 0 (.int .u8) rfl
   have q1 : cs[o + k * 1]? = some (rows k 0) := q1
   have q4 : cs.getD (o + k * 1) (Value.tuple #[]) = rows k 0 := by rw [List.getD_eq_getElem?_getD, q1]; rfl
   refine ⟨_, _, _, _, g1, by omega, b, lo, o + k * 1, cs, by rw [Int.toNat_natCast, Nat.add_assoc], g3, ⟨⟨_, q1, m, q2, q3⟩, trivial⟩, fun _ => ?_⟩
   rw [q4]
   refine ⟨by omega, by simp only [InR]; omega, k + 1, ?_⟩
   (repeat' apply And.intro) <;> first | with_reducible (first | rfl | trivial | assumption) | omega | with_reducible (first | exact RowsEq.refl _ _ _ | exact Nat.le_refl _) | (dsimp only [List.length_cons, List.length_nil] <;> omega) | rfl
 ·have hk : k = len := by rw [e1] at c1; have := of_decide_eq_false c1; omega
  subst hk
  (repeat' apply And.intro) <;> first | with_reducible (first | rfl | trivial | assumption) | omega | with_reducible (first | exact RowsEq.refl _ _ _ | exact Nat.le_refl _) | (dsimp only [List.length_cons, List.length_nil] <;> omega) | rfl)
theorem callGetV : CallsBy (Y Tryz.prog).G.X 70 cGetV := fn_ok okY (tab := []) trivial bodyGetV
def recN (buf : List Int) (at_ : Nat) : Int := uw .i64 (getTo (fun k => gl buf (at_ + k)) 2)
def recP (buf : List Int) (at_ : Nat) : Int := uw .i64 (getTo (fun k => gl buf (at_ + 2 + k)) 6)
def recOk (buf : List Int) (at_ : Nat) : Bool := decide (at_ + 8 ≤ buf.length) && (decide (1 ≤ recN buf at_) && (decide (recN buf at_ ≤ 300) && decide ((at_ : Int) + 8 + recN buf at_ ≤ buf.length)))
def recAt (buf : List Int) (at_ : Nat) : RecM := ⟨recP buf at_, (buf.drop (at_ + 8)).take (recN buf at_).toNat⟩
def parseR (buf : List Int) : Nat → Nat → List RecM × Nat
 | 0, at_ => ([], at_)
 | k + 1, at_ => if recOk buf at_ then (recAt buf at_ :: (parseR buf k (at_ + 8 + (recN buf at_).toNat)).1, (parseR buf k (at_ + 8 + (recN buf at_).toNat)).2) else ([], at_)
def recsM (g : SegM) : SegM := { g with recs := (parseR g.buf 50 0).1, buf := g.buf.take (parseR g.buf 50 0).2 }
structure RecsA where
 H : PH
 y : SegL
 g : SegM
noncomputable def cRecords : Con where
 α := RecsA
 β := TakeR
 m := 1
 m' := 2
 pre := fun a => SegNd a.H a.y a.g ∧ a.g.buf.length ≤ 378 ∧ a.g.recs = []
 args := fun a => [.a (.val (pv a.y.b 0))]
 hp := fun a => [(0, .pool a.H)]
 ro := fun _ => []
 post := fun a b => SegNd b.H b.y (recsM a.g) ∧ b.y.b = a.y.b ∧ Fr a.H a.y b.H b.y
 res := fun _ _ => .tup []
 hp' := fun _ b => [(1, .pool b.H)]
structure RecsS where
 H : PH
 y : SegL
 rs : List RecM
 at_ : Nat
 k : Nat
def iRecs (a : RecsA) : An := .flat 1 RecsS (fun s x => S.pool (s.int 2 x.at_) x.H) (fun _ x => SegNd x.H x.y { a.g with recs := x.rs } ∧ x.y.b = a.y.b ∧ Fr a.H a.y x.H x.y ∧ x.at_ ≤ a.g.buf.length ∧ a.g.buf.length < x.at_ + 9 * x.k ∧ x.rs ++ (parseR a.g.buf x.k x.at_).1 = (parseR a.g.buf 50 0).1 ∧ (parseR a.g.buf x.k x.at_).2 = (parseR a.g.buf 50 0).2 ∧ x.rs.length * 9 ≤ x.at_) (fun _ x => a.g.buf.length - x.at_)
def iRecsC (a : RecsA) : An := .mk 7 RecsS (fun s x => S.pool (s.int 2 x.at_) x.H) (fun _ x => SegNd x.H x.y { a.g with recs := (parseR a.g.buf 50 0).1 } ∧ x.y.b = a.y.b ∧ Fr a.H a.y x.H x.y ∧ x.at_ ≤ a.g.buf.length ∧ x.at_ = (parseR a.g.buf 50 0).2) (fun _ _ => 0) fun _ => .mk 1000 [] []
set_option maxHeartbeats 4000000 in
theorem bodyRecords : fnBody (Y Tryz.prog) [(70, cGetV)] 72 cRecords fun a => [(72, [iRecs a], [iRecsC a])] := fnBody.of (p :=
 ∀ a : RecsA, SegNd a.H a.y a.g ∧ a.g.buf.length ≤ 378 ∧ a.g.recs = [] → ((∃ a_2 : RecsS, 0 = (↑a_2.at_ : Int) ∧ pv a.y.b 0 = pv a.y.b 0 ∧ a.H = a_2.H ∧ (SegNd a_2.H a_2.y { gen := a.g.gen, base := a.g.base, run := a.g.run, buf := a.g.buf, recs := a_2.rs } ∧ a_2.y.b = a.y.b ∧ Fr a.H a.y a_2.H a_2.y ∧ a_2.at_ ≤ a.g.buf.length ∧ a.g.buf.length < a_2.at_ + 9 * a_2.k ∧ a_2.rs ++ (parseR a.g.buf a_2.k a_2.at_).fst = (parseR a.g.buf 50 0).fst ∧ (parseR a.g.buf a_2.k a_2.at_).snd = (parseR a.g.buf 50 0).snd ∧ a_2.rs.length * 9 ≤ a_2.at_) ∧ True) ∧ ∀ a_2 : RecsS, SegNd a_2.H a_2.y { gen := a.g.gen, base := a.g.base, run := a.g.run, buf := a.g.buf, recs := a_2.rs } ∧ a_2.y.b = a.y.b ∧ Fr a.H a.y a_2.H a_2.y ∧ a_2.at_ ≤ a.g.buf.length ∧ a.g.buf.length < a_2.at_ + 9 * a_2.k ∧ a_2.rs ++ (parseR a.g.buf a_2.k a_2.at_).fst = (parseR a.g.buf 50 0).fst ∧ (parseR a.g.buf a_2.k a_2.at_).snd = (parseR a.g.buf 50 0).snd ∧ a_2.rs.length * 9 ≤ a_2.at_ → ∃ b o : Nat, pv a.y.b 0 = pv b o ∧ ∃ b_1 o_1 : Nat, pv b o = pv b_1 o_1 ∧ ∃ b lo o : Nat, ∃ cs : List Value, pv b_1 (o_1 + 3) = pv b (lo + o) ∧ a_2.H b = some (lo, cs) ∧ ((∃ v : Value, cs[o]? = some v ∧ v.oneCell' = true) ∧ True) ∧ (∃ a : Option Go.Addr, ∃ l c : Nat, cs.getD o (Value.tuple #[]) = Value.slice a l c ∧ l ≤ lenMax) ∧ InR .i64 ((↑(slLen (cs.getD o (Value.tuple #[]))) : Int) - (↑a_2.at_ : Int)) ∧ (decide (8 ≤ (↑(slLen (cs.getD o (Value.tuple #[]))) : Int) - (↑a_2.at_ : Int)) = true → ∃ b o : Nat, pv a.y.b 0 = pv b o ∧ ∃ b_2 o_2 : Nat, pv b o = pv b_2 o_2 ∧ 
 ∃ b lo o : Nat, ∃ cs : List Value, pv b_2 (o_2 + 3) = pv b (lo + o) ∧ a_2.H b = some (lo, cs) ∧ ((∃ v : Value, cs[o]? = some v ∧ v.oneCell' = true) ∧ True) ∧ InR .i64 ((↑a_2.at_ : Int) + 2) ∧ okSl (cs.getD o (Value.tuple #[])) ∧ (0 ≤ (↑a_2.at_ : Int) + 2 ∧ (↑a_2.at_ : Int) + 2 ≤ (↑(slCap (cs.getD o (Value.tuple #[]))) : Int)) ∧ (0 ≤ (↑a_2.at_ : Int) ∧ (↑a_2.at_ : Int) ≤ (↑((↑a_2.at_ : Int) + 2).toNat : Int)) ∧ ∃ a_5 : GetVA, slcut 1 (cs.getD o (Value.tuple #[])) (↑a_2.at_ : Int).toNat ((↑a_2.at_ : Int) + 2).toNat (slCap (cs.getD o (Value.tuple #[]))) = a_5.v ∧ a_2.H = a_5.H ∧ (slAt a_5.H a_5.v [CK.int IntKind.u8] a_5.len a_5.c a_5.rows ∧ a_5.len ≤ 8) ∧ ∀ b : Unit, True → ∃ b o : Nat, pv a.y.b 0 = pv b o ∧ ∃ b_3 o_3 : Nat, pv b o = pv b_3 o_3 ∧ ∃ b lo o : Nat, ∃ cs : List Value, pv b_3 (o_3 + 3) = pv b (lo + o) ∧ a_2.H b = some (lo, cs) ∧ ((∃ v : Value, cs[o]? = some v ∧ v.oneCell' = true) ∧ True) ∧ InR .i64 ((↑a_2.at_ : Int) + 2) ∧ InR .i64 ((↑a_2.at_ : Int) + 8) ∧ okSl (cs.getD o (Value.tuple #[])) ∧ (0 ≤ (↑a_2.at_ : Int) + 8 ∧ (↑a_2.at_ : Int) + 8 ≤ (↑(slCap (cs.getD o (Value.tuple #[]))) : Int)) ∧ (0 ≤ (↑a_2.at_ : Int) + 2 ∧ (↑a_2.at_ : Int) + 2 ≤ (↑((↑a_2.at_ : Int) + 8).toNat : Int)) ∧ ∃ a_7 : GetVA, slcut 1 (cs.getD o (Value.tuple #[])) ((↑a_2.at_ : Int) + 2).toNat ((↑a_2.at_ : Int) + 8).toNat (slCap (cs.getD o (Value.tuple #[]))) = a_7.v ∧ a_2.H = a_7.H ∧ (slAt a_7.H a_7.v [CK.int IntKind.u8] a_7.len a_7.c a_7.rows ∧ a_7.len ≤ 8) ∧ ∀ b : Unit, True → (decide (uw .i64 (getTo (fun (i : Nat) => u8 a_5.rows i) a_5.len) < (1 : Int)) = true → 
 ∃ a_10 : RecsS, (↑a_2.at_ : Int) = (↑a_10.at_ : Int) ∧ pv a.y.b 0 = pv a.y.b 0 ∧ a_2.H = a_10.H ∧ (SegNd a_10.H a_10.y { gen := a.g.gen, base := a.g.base, run := a.g.run, buf := a.g.buf, recs := (parseR a.g.buf 50 0).fst } ∧ a_10.y.b = a.y.b ∧ Fr a.H a.y a_10.H a_10.y ∧ a_10.at_ ≤ a.g.buf.length ∧ a_10.at_ = (parseR a.g.buf 50 0).snd) ∧ True) ∧ (decide (uw .i64 (getTo (fun (i : Nat) => u8 a_5.rows i) a_5.len) < (1 : Int)) = false → (decide ((300 : Int) < uw .i64 (getTo (fun (i : Nat) => u8 a_5.rows i) a_5.len)) = true → ∃ a_11 : RecsS, (↑a_2.at_ : Int) = (↑a_11.at_ : Int) ∧ pv a.y.b 0 = pv a.y.b 0 ∧ a_2.H = a_11.H ∧ (SegNd a_11.H a_11.y { gen := a.g.gen, base := a.g.base, run := a.g.run, buf := a.g.buf, recs := (parseR a.g.buf 50 0).fst } ∧ a_11.y.b = a.y.b ∧ Fr a.H a.y a_11.H a_11.y ∧ a_11.at_ ≤ a.g.buf.length ∧ a_11.at_ = (parseR a.g.buf 50 0).snd) ∧ True) ∧ (decide ((300 : Int) < uw .i64 (getTo (fun (i : Nat) => u8 a_5.rows i) a_5.len)) = false → ∃ b o : Nat, pv a.y.b 0 = pv b o ∧ ∃ b_4 o_4 : Nat, pv b o = pv b_4 o_4 ∧ ∃ b lo o : Nat, ∃ cs : List Value, pv b_4 (o_4 + 3) = pv b (lo + o) ∧ a_2.H b = some (lo, cs) ∧ ((∃ v : Value, cs[o]? = some v ∧ v.oneCell' = true) ∧ True) ∧ (∃ a : Option Go.Addr, ∃ l c : Nat, cs.getD o (Value.tuple #[]) = Value.slice a l c ∧ l ≤ lenMax) ∧ InR .i64 ((↑(slLen (cs.getD o (Value.tuple #[]))) : Int) - (↑a_2.at_ : Int)) ∧ InR .i64 ((↑(slLen (cs.getD o (Value.tuple #[]))) : Int) - (↑a_2.at_ : Int) - 8) ∧ (decide ((↑(slLen (cs.getD o (Value.tuple #[]))) : Int) - (↑a_2.at_ : Int) - 8 < uw .i64 (getTo (fun (i : Nat) => u8 a_5.rows i) a_5.len)) = true → 
 ∃ a_12 : RecsS, (↑a_2.at_ : Int) = (↑a_12.at_ : Int) ∧ pv a.y.b 0 = pv a.y.b 0 ∧ a_2.H = a_12.H ∧ (SegNd a_12.H a_12.y { gen := a.g.gen, base := a.g.base, run := a.g.run, buf := a.g.buf, recs := (parseR a.g.buf 50 0).fst } ∧ a_12.y.b = a.y.b ∧ Fr a.H a.y a_12.H a_12.y ∧ a_12.at_ ≤ a.g.buf.length ∧ a_12.at_ = (parseR a.g.buf 50 0).snd) ∧ True) ∧ (decide ((↑(slLen (cs.getD o (Value.tuple #[]))) : Int) - (↑a_2.at_ : Int) - 8 < uw .i64 (getTo (fun (i : Nat) => u8 a_5.rows i) a_5.len)) = false → ∃ b o : Nat, pv a.y.b 0 = pv b o ∧ ∃ b_5 o_5 : Nat, pv b o = pv b_5 o_5 ∧ ∃ b lo o : Nat, ∃ cs : List Value, pv b_5 (o_5 + 4) = pv b (lo + o) ∧ a_2.H b = some (lo, cs) ∧ ((∃ v : Value, cs[o]? = some v ∧ v.oneCell' = true) ∧ True) ∧ ∃ b o_6 : Nat, pv a.y.b 0 = pv b o_6 ∧ ∃ b_6 o_7 : Nat, pv b o_6 = pv b_6 o_7 ∧ ∃ b lo o_8 : Nat, ∃ cs_1 : List Value, pv b_6 (o_7 + 3) = pv b (lo + o_8) ∧ a_2.H b = some (lo, cs_1) ∧ ((∃ v : Value, cs_1[o_8]? = some v ∧ v.oneCell' = true) ∧ True) ∧ InR .i64 ((↑a_2.at_ : Int) + 8) ∧ InR .i64 ((↑a_2.at_ : Int) + 8) ∧ InR .i64 ((↑a_2.at_ : Int) + 8 + uw .i64 (getTo (fun (i : Nat) => u8 a_5.rows i) a_5.len)) ∧ okSl (cs_1.getD o_8 (Value.tuple #[])) ∧ (0 ≤ (↑a_2.at_ : Int) + 8 + uw .i64 (getTo (fun (i : Nat) => u8 a_5.rows i) a_5.len) ∧ (↑a_2.at_ : Int) + 8 + uw .i64 (getTo (fun (i : Nat) => u8 a_5.rows i) a_5.len) ≤ (↑(slCap (cs_1.getD o_8 (Value.tuple #[]))) : Int)) ∧ (0 ≤ (↑a_2.at_ : Int) + 8 ∧ (↑a_2.at_ : Int) + 8 ≤ (↑((↑a_2.at_ : Int) + 8 + uw .i64 (getTo (fun (i : Nat) => u8 a_5.rows i) a_5.len)).toNat : Int)) ∧ 
 (∃ a : Option Go.Addr, ∃ l c : Nat, slcut 1 (cs_1.getD o_8 (Value.tuple #[])) ((↑a_2.at_ : Int) + 8).toNat ((↑a_2.at_ : Int) + 8 + uw .i64 (getTo (fun (i : Nat) => u8 a_5.rows i) a_5.len)).toNat (slCap (cs_1.getD o_8 (Value.tuple #[]))) = Value.slice a l c) ∧ (nilS (slcut 1 (cs_1.getD o_8 (Value.tuple #[])) ((↑a_2.at_ : Int) + 8).toNat ((↑a_2.at_ : Int) + 8 + uw .i64 (getTo (fun (i : Nat) => u8 a_5.rows i) a_5.len)).toNat (slCap (cs_1.getD o_8 (Value.tuple #[])))) = true → ∃ l c : Nat, ∃ rows : Nat → Nat → Value, slAt a_2.H (cs.getD o (Value.tuple #[])) [CK.int IntKind.i64, CK.deep] l c rows ∧ 0 + l ≤ l ∧ 1 ≤ 1 ∧ (l + 1) * 32 ≤ 140737488355328 ∧ ∀ cap : Nat, l + 1 ≤ cap → cap ≤ lenMax → (l + 1 ≤ c → cap = c) → (cap ≠ 0 ∧ 0 + (l + 1) ≤ l + 1) ∧ ∀ (b lo : Nat) (cs_2 : List Value), pminusV a_2.H (cs.getD o (Value.tuple #[])) b = none → cs_2.length = cap * 2 → (PRows cs_2 0 [CK.int IntKind.i64, CK.deep] (l + 1) fun (i j : Nat) => appRows rows 0 l (fun (i j : Nat) => flatRows 2 [Value.int IntKind.i64 (uw .i64 (getTo (fun (i : Nat) => u8 a_7.rows i) a_7.len)), Value.slice none 0 0] (0 + i) j) (0 + i) j) → ∃ b_7 o_9 : Nat, pv a.y.b 0 = pv b_7 o_9 ∧ ∃ b_8 o_10 : Nat, pv b_7 o_9 = pv b_8 o_10 ∧ ∃ b_9 lo_1 o_11 : Nat, ∃ cs_3 : List Value, pv b_8 (o_10 + 4) = pv b_9 (lo_1 + o_11) ∧ pupd (pminusV a_2.H (cs.getD o (Value.tuple #[]))) b lo cs_2 b_9 = some (lo_1, cs_3) ∧ o_11 + [A.val (slv b lo (l + 1) cap)].length ≤ cs_3.length ∧ InR .i64 ((8 : Int) + uw .i64 (getTo (fun (i : Nat) => u8 a_5.rows i) a_5.len)) ∧ 
 InR .i64 ((↑a_2.at_ : Int) + ((8 : Int) + uw .i64 (getTo (fun (i : Nat) => u8 a_5.rows i) a_5.len))) ∧ ∃ (a' : RecsS), (↑a_2.at_ : Int) + ((8 : Int) + uw .i64 (getTo (fun (i : Nat) => u8 a_5.rows i) a_5.len)) = (↑a'.at_ : Int) ∧ pv a.y.b 0 = pv a.y.b 0 ∧ pupd (pupd (pminusV a_2.H (cs.getD o (Value.tuple #[]))) b lo cs_2) b_9 lo_1 (List.take o_11 cs_3 ++ [Value.slice (some { block := b, off := lo }) (l + 1) cap] ++ List.drop (o_11 + [Value.slice (some { block := b, off := lo }) (l + 1) cap].length) cs_3) = a'.H ∧ (SegNd a'.H a'.y { gen := a.g.gen, base := a.g.base, run := a.g.run, buf := a.g.buf, recs := a'.rs } ∧ a'.y.b = a.y.b ∧ Fr a.H a.y a'.H a'.y ∧ a'.at_ ≤ a.g.buf.length ∧ a.g.buf.length < a'.at_ + 9 * a'.k ∧ a'.rs ++ (parseR a.g.buf a'.k a'.at_).fst = (parseR a.g.buf 50 0).fst ∧ (parseR a.g.buf a'.k a'.at_).snd = (parseR a.g.buf 50 0).snd ∧ a'.rs.length * 9 ≤ a'.at_) ∧ a.g.buf.length - a'.at_ < a.g.buf.length - a_2.at_) ∧ (nilS (slcut 1 (cs_1.getD o_8 (Value.tuple #[])) ((↑a_2.at_ : Int) + 8).toNat ((↑a_2.at_ : Int) + 8 + uw .i64 (getTo (fun (i : Nat) => u8 a_5.rows i) a_5.len)).toNat (slCap (cs_1.getD o_8 (Value.tuple #[])))) = false → 0 ≤ 0 ∧ ∃ l c : Nat, ∃ rows : Nat → Nat → Value, slAt a_2.H (slcut 1 (cs_1.getD o_8 (Value.tuple #[])) ((↑a_2.at_ : Int) + 8).toNat ((↑a_2.at_ : Int) + 8 + uw .i64 (getTo (fun (i : Nat) => u8 a_5.rows i) a_5.len)).toNat (slCap (cs_1.getD o_8 (Value.tuple #[])))) [CK.int IntKind.u8] l c rows ∧ (0 + l) * 1 ≤ 140737488355328 ∧ ∀ cap : Nat, 0 + l ≤ cap → 
 cap ≤ lenMax → (0 + l ≤ 0 → cap = 0) → (cap ≠ 0 ∧ 0 + (0 + l) ≤ 0 + l) ∧ ∀ (b lo : Nat) (cs_2 : List Value), a_2.H b = none → cs_2.length = cap * 1 → (PRows cs_2 0 [CK.int IntKind.u8] (0 + l) fun (i j : Nat) => appRows (flatRows 1 []) 0 0 rows (0 + i) j) → ∃ l_1 c : Nat, ∃ rows : Nat → Nat → Value, slAt (pupd a_2.H b lo cs_2) (cs.getD o (Value.tuple #[])) [CK.int IntKind.i64, CK.deep] l_1 c rows ∧ 0 + l_1 ≤ l_1 ∧ (l_1 + 1) * 32 ≤ 140737488355328 ∧ ∀ cap_1 : Nat, l_1 + 1 ≤ cap_1 → cap_1 ≤ lenMax → (l_1 + 1 ≤ c → cap_1 = c) → (cap_1 ≠ 0 ∧ 0 + (l_1 + 1) ≤ l_1 + 1) ∧ ∀ (b_7 lo_1 : Nat) (cs_3 : List Value), pminusV (pupd a_2.H b lo cs_2) (cs.getD o (Value.tuple #[])) b_7 = none → cs_3.length = cap_1 * 2 → (PRows cs_3 0 [CK.int IntKind.i64, CK.deep] (l_1 + 1) fun (i j : Nat) => appRows rows 0 l_1 (rowsOfA [A.int IntKind.i64 (uw .i64 (getTo (fun (i : Nat) => u8 a_7.rows i) a_7.len)), A.val (slv b lo (0 + l) cap)] 2) (0 + i) j) → ∃ b_8 o_9 : Nat, pv a.y.b 0 = pv b_8 o_9 ∧ ∃ b_9 o_10 : Nat, pv b_8 o_9 = pv b_9 o_10 ∧ ∃ b_10 lo_2 o_11 : Nat, ∃ cs_4 : List Value, pv b_9 (o_10 + 4) = pv b_10 (lo_2 + o_11) ∧ pupd (pminusV (pupd a_2.H b lo cs_2) (cs.getD o (Value.tuple #[]))) b_7 lo_1 cs_3 b_10 = some (lo_2, cs_4) ∧ o_11 + [A.val (slv b_7 lo_1 (l_1 + 1) cap_1)].length ≤ cs_4.length ∧ InR .i64 ((8 : Int) + uw .i64 (getTo (fun (i : Nat) => u8 a_5.rows i) a_5.len)) ∧ InR .i64 ((↑a_2.at_ : Int) + ((8 : Int) + uw .i64 (getTo (fun (i : Nat) => u8 a_5.rows i) a_5.len))) ∧ ∃ (a' : RecsS), (↑a_2.at_ : Int) + ((8 : Int) + uw .i64 (getTo (fun (i : Nat) => u8 a_5.rows i) a_5.len)) = (↑a'.at_ : Int) ∧ 
 pv a.y.b 0 = pv a.y.b 0 ∧ pupd (pupd (pminusV (pupd a_2.H b lo cs_2) (cs.getD o (Value.tuple #[]))) b_7 lo_1 cs_3) b_10 lo_2 (List.take o_11 cs_4 ++ [Value.slice (some { block := b_7, off := lo_1 }) (l_1 + 1) cap_1] ++ List.drop (o_11 + [Value.slice (some { block := b_7, off := lo_1 }) (l_1 + 1) cap_1].length) cs_4) = a'.H ∧ (SegNd a'.H a'.y { gen := a.g.gen, base := a.g.base, run := a.g.run, buf := a.g.buf, recs := a'.rs } ∧ a'.y.b = a.y.b ∧ Fr a.H a.y a'.H a'.y ∧ a'.at_ ≤ a.g.buf.length ∧ a.g.buf.length < a'.at_ + 9 * a'.k ∧ a'.rs ++ (parseR a.g.buf a'.k a'.at_).fst = (parseR a.g.buf 50 0).fst ∧ (parseR a.g.buf a'.k a'.at_).snd = (parseR a.g.buf 50 0).snd ∧ a'.rs.length * 9 ≤ a'.at_) ∧ a.g.buf.length - a'.at_ < a.g.buf.length - a_2.at_))))) ∧ (decide (8 ≤ (↑(slLen (cs.getD o (Value.tuple #[]))) : Int) - (↑a_2.at_ : Int)) = false → ∃ a_5 : RecsS, (↑a_2.at_ : Int) = (↑a_5.at_ : Int) ∧ pv a.y.b 0 = pv a.y.b 0 ∧ a_2.H = a_5.H ∧ (SegNd a_5.H a_5.y { gen := a.g.gen, base := a.g.base, run := a.g.run, buf := a.g.buf, recs := (parseR a.g.buf 50 0).fst } ∧ a_5.y.b = a.y.b ∧ Fr a.H a.y a_5.H a_5.y ∧ a_5.at_ ≤ a.g.buf.length ∧ a_5.at_ = (parseR a.g.buf 50 0).snd) ∧ True)) ∧ ∀ a_2 : RecsS, SegNd a_2.H a_2.y { gen := a.g.gen, base := a.g.base, run := a.g.run, buf := a.g.buf, recs := (parseR a.g.buf 50 0).fst } ∧ a_2.y.b = a.y.b ∧ Fr a.H a.y a_2.H a_2.y ∧ a_2.at_ ≤ a.g.buf.length ∧ a_2.at_ = (parseR a.g.buf 50 0).snd → ∃ b o : Nat, pv a.y.b 0 = pv b o ∧ ∃ b_1 o_1 : Nat, pv b o = pv b_1 o_1 ∧ 
 ∃ b lo o : Nat, ∃ cs : List Value, pv b_1 (o_1 + 3) = pv b (lo + o) ∧ a_2.H b = some (lo, cs) ∧ ((∃ v : Value, cs[o]? = some v ∧ v.oneCell' = true) ∧ True) ∧ okSl (cs.getD o (Value.tuple #[])) ∧ (0 ≤ (↑a_2.at_ : Int) ∧ (↑a_2.at_ : Int) ≤ (↑(slCap (cs.getD o (Value.tuple #[]))) : Int)) ∧ ∃ b o_2 : Nat, pv a.y.b 0 = pv b o_2 ∧ ∃ b_2 o_3 : Nat, pv b o_2 = pv b_2 o_3 ∧ ∃ b lo o_4 : Nat, ∃ cs_1 : List Value, pv b_2 (o_3 + 3) = pv b (lo + o_4) ∧ a_2.H b = some (lo, cs_1) ∧ o_4 + [A.val (slcut 1 (cs.getD o (Value.tuple #[])) 0 (↑a_2.at_ : Int).toNat (slCap (cs.getD o (Value.tuple #[]))))].length ≤ cs_1.length ∧ ∃ b_3 : TakeR, pupd a_2.H b lo (List.take o_4 cs_1 ++ [slcut 1 (cs.getD o (Value.tuple #[])) 0 (↑a_2.at_ : Int).toNat (slCap (cs.getD o (Value.tuple #[])))] ++ List.drop (o_4 + [slcut 1 (cs.getD o (Value.tuple #[])) 0 (↑a_2.at_ : Int).toNat (slCap (cs.getD o (Value.tuple #[])))].length) cs_1) = b_3.H ∧ (SegNd b_3.H b_3.y (recsM a.g) ∧ b_3.y.b = a.y.b ∧ Fr a.H a.y b_3.H b_3.y) ∧ True) (by kernel_rfl) (by
 rintro ⟨H, y, g⟩ ⟨hs, hlen, hnil⟩
 dsimp only at *
 refine ⟨⟨⟨⟨H, y, [], 0, 50⟩, ?_⟩, ?_⟩, ?_⟩
 ·have hs' : SegNd H y { g with recs := [] } := by rw [← hnil]; exact hs
  (repeat' apply And.intro) <;> first | with_reducible (first | rfl | trivial | assumption) | omega | with_reducible (first | exact RowsEq.refl _ _ _ | exact Nat.le_refl _) | (dsimp only [List.length_cons, List.length_nil] <;> omega) | exact hs' | exact fun x _ hn => ⟨rfl, hn⟩ | rfl | skip
 ·rintro ⟨X, Y, rs, at_, k⟩ ⟨hX, hb, hfr, h1, h2, h3, h4, h5⟩
  dsimp only at *
  have hcell : X y.b = some (0, segC { g with recs := rs } Y.bv Y.rv) := by rw [← hb]; exact hX.at_.cell
  obtain ⟨b1, b2, b3, b4, ⟨ba, bc, b5⟩, b6⟩ := hX.at_.buf.len
  have b1 : slLen Y.bv = g.buf.length := b1
  have b4 : g.buf.length ≤ slCap Y.bv := b4
  have hbuf : BytesAt X Y.bv g.buf := hX.at_.buf
  have pstop : recOk g.buf at_ = false → rs = (parseR g.buf 50 0).1 ∧ at_ = (parseR g.buf 50 0).2 := fun hR => by
   have : parseR g.buf k at_ = ([], at_) := by
    cases k with
    | zero => rfl
    | succ k => unfold parseR; rw [hR]; rfl
   rw [this] at h3 h4
   exact ⟨by simpa using h3, h4⟩
  have e3 : (segC { g with recs := rs } Y.bv Y.rv).getD 3 (Value.tuple #[]) = Y.bv := rfl
  have e4 : (segC { g with recs := rs } Y.bv Y.rv).getD 4 (Value.tuple #[]) = Y.rv := rfl
  have eN : getTo (fun i => u8 (fun i => encRows encB g.buf (at_ + i)) i) 2 = getTo (fun k => gl g.buf (at_ + k)) 2 := rfl
  have eP : getTo (fun i => u8 (fun i => encRows encB g.buf (at_ + 2 + i)) i) 6 = getTo (fun k => gl g.buf (at_ + 2 + k)) 6 := rfl
  refine ⟨_, _, rfl, ?_⟩
  refine ⟨_, _, rfl, ?_⟩
  refine ⟨_, 0, _, _, rfl, hcell, ?_⟩
  refine ⟨⟨⟨_, rfl, b6⟩, trivial⟩, ⟨ba, _, bc, b5, b3⟩, ?_⟩
  simp only [e3, b1]
  refine ⟨by simp only [InR]; omega, fun c1 => ?_, fun c1 => ?_⟩
  ·have c1 : at_ + 8 ≤ g.buf.length := by have := of_decide_eq_true c1; omega
   have w1 : ((at_ : Int) + 2).toNat = at_ + 2 := by omega
   have w2 : ((at_ : Int) + 8).toNat = at_ + 8 := by omega
   have cut1 := hbuf.cut (a := at_) (e := at_ + 2) (by omega) (by omega)
   rw [show at_ + 2 - at_ = 2 by omega] at cut1
   have cut2 := hbuf.cut (a := at_ + 2) (e := at_ + 8) (by omega) (by omega)
   rw [show at_ + 8 - (at_ + 2) = 6 by omega] at cut2
   refine ⟨_, _, rfl, ?_⟩
   refine ⟨_, _, rfl, ?_⟩
   refine ⟨_, 0, _, _, rfl, hcell, ?_⟩
   refine ⟨⟨⟨_, rfl, b6⟩, trivial⟩, ?_⟩
   simp only [e3, w1, Int.toNat_natCast]
   repeat (first | refine And.intro (by omega) ?_ | refine And.intro (by dsimp only; omega) ?_ | refine And.intro (by simp only [InR]; omega) ?_)
   refine ⟨GetVA.mk X (slcut 1 Y.bv at_ (at_ + 2) (slCap Y.bv)) 2 (slCap Y.bv - at_) (fun i => encRows encB g.buf (at_ + i)), rfl, rfl, ⟨cut1, by show 2 ≤ 8; omega⟩, fun _ _ => ?_⟩
   dsimp only
   refine ⟨_, _, rfl, ?_⟩
   refine ⟨_, _, rfl, ?_⟩
   refine ⟨_, 0, _, _, rfl, hcell, ?_⟩
   refine ⟨⟨⟨_, rfl, b6⟩, trivial⟩, ?_⟩
   simp only [e3, w1, w2, eN]
   repeat (first | refine And.intro (by omega) ?_ | refine And.intro (by dsimp only; omega) ?_ | refine And.intro (by simp only [InR]; omega) ?_)
   refine ⟨GetVA.mk X (slcut 1 Y.bv (at_ + 2) (at_ + 8) (slCap Y.bv)) 6 (slCap Y.bv - (at_ + 2)) (fun i => encRows encB g.buf (at_ + 2 + i)), rfl, rfl, ⟨cut2, by show 6 ≤ 8; omega⟩, fun _ _ => ?_⟩
   dsimp only
   simp only [eP]
   rw [show uw .i64 (getTo (fun k => gl g.buf (at_ + k)) 2) = recN g.buf at_ from rfl, show uw .i64 (getTo (fun k => gl g.buf (at_ + 2 + k)) 6) = recP g.buf at_ from rfl]
   obtain ⟨N, hN⟩ : ∃ N, N = recN g.buf at_ := ⟨_, rfl⟩
   rw [← hN]
   have hNr : InR .i64 N := by rw [hN]; exact InR_uw _ _
   refine ⟨fun c2 => ?_, fun c2 => ⟨fun c3 => ?_, fun c3 => ?_⟩⟩
   ·have c2 := of_decide_eq_true c2
    refine ⟨RecsS.mk X Y rs at_ 0, ?_⟩
    have hR : recOk g.buf at_ = false := by unfold recOk; rw [← hN, show decide (1 ≤ N) = false from decide_eq_false (by omega)]; simp
    obtain ⟨hp1, hp2⟩ := pstop hR
    (repeat' apply And.intro) <;> first | with_reducible (first | rfl | trivial | assumption) | omega | with_reducible (first | exact RowsEq.refl _ _ _ | exact Nat.le_refl _) | (dsimp only [List.length_cons, List.length_nil] <;> omega) | (rw [← hp1]; exact hX) | exact hfr | exact hb | exact hp2
   ·have c3 := of_decide_eq_true c3
    refine ⟨RecsS.mk X Y rs at_ 0, ?_⟩
    have hR : recOk g.buf at_ = false := by unfold recOk; rw [← hN, show decide (N ≤ 300) = false from decide_eq_false (by omega)]; simp
    obtain ⟨hp1, hp2⟩ := pstop hR
    (repeat' apply And.intro) <;> first | with_reducible (first | rfl | trivial | assumption) | omega | with_reducible (first | exact RowsEq.refl _ _ _ | exact Nat.le_refl _) | (dsimp only [List.length_cons, List.length_nil] <;> omega) | (rw [← hp1]; exact hX) | exact hfr | exact hb | exact hp2
   ·have c2 := of_decide_eq_false c2
    have c3 := of_decide_eq_false c3
    refine ⟨_, _, rfl, ?_⟩
    refine ⟨_, _, rfl, ?_⟩
    refine ⟨_, 0, _, _, rfl, hcell, ?_⟩
    refine ⟨⟨⟨_, rfl, b6⟩, trivial⟩, ⟨ba, _, bc, b5, b3⟩, ?_⟩
    simp only [e3, b1]
    repeat (first | refine And.intro (by omega) ?_ | refine And.intro (by dsimp only; omega) ?_ | refine And.intro (by simp only [InR]; omega) ?_)
    refine ⟨fun c4 => ?_, fun c4 => ?_⟩
    ·have c4 := of_decide_eq_true c4
     refine ⟨RecsS.mk X Y rs at_ 0, ?_⟩
     have hR : recOk g.buf at_ = false := by unfold recOk; rw [← hN, show decide ((at_ : Int) + 8 + N ≤ g.buf.length) = false from decide_eq_false (by omega)]; simp
     obtain ⟨hp1, hp2⟩ := pstop hR
     (repeat' apply And.intro) <;> first | with_reducible (first | rfl | trivial | assumption) | omega | with_reducible (first | exact RowsEq.refl _ _ _ | exact Nat.le_refl _) | (dsimp only [List.length_cons, List.length_nil] <;> omega) | (rw [← hp1]; exact hX) | exact hfr | exact hb | exact hp2
    ·have c4 := of_decide_eq_false c4
     have hR : recOk g.buf at_ = true := by
      unfold recOk; rw [← hN]; simp only [Bool.and_eq_true, decide_eq_true_eq]; omega
     obtain ⟨nn, rfl⟩ : ∃ nn : Nat, N = nn := ⟨N.toNat, by omega⟩
     have w3 : ((at_ : Int) + 8 + nn).toNat = at_ + 8 + nn := by omega
     obtain ⟨c9, hrec⟩ := hX.at_.recs
     have hrec : slAt X Y.rv ksRec rs.length c9 (recR rs Y.vs) := hrec
     obtain ⟨m1, m2, m3, m4, m5, _, m6⟩ := slAt_len hrec
     have cut3 := hbuf.cut (a := at_ + 8) (e := at_ + 8 + nn) (by omega) (by omega)
     rw [show at_ + 8 + nn - (at_ + 8) = nn by omega] at cut3
     obtain ⟨_, _, _, _, _, ⟨za, zs⟩, _⟩ := slAt_len cut3
     have hnz : nilS (slcut 1 Y.bv (at_ + 8) (at_ + 8 + nn) (slCap Y.bv)) = false := by
      rcases cut3 with ⟨_, h0, _⟩ | ⟨b9, lo9, o9, cs9, h9, _⟩
      ·omega
      ·rw [h9]; rfl
     refine ⟨_, _, rfl, ?_⟩
     refine ⟨_, _, rfl, ?_⟩
     refine ⟨_, 0, _, _, rfl, hcell, ?_⟩
     refine ⟨⟨⟨_, rfl, m6⟩, trivial⟩, ?_⟩
     refine ⟨_, _, rfl, ?_⟩
     refine ⟨_, _, rfl, ?_⟩
     refine ⟨_, 0, _, _, rfl, hcell, ?_⟩
     refine ⟨⟨⟨_, rfl, b6⟩, trivial⟩, ?_⟩
     simp only [e3, e4, w2, w3]
     repeat (first | refine And.intro (by omega) ?_ | refine And.intro (by dsimp only; omega) ?_ | refine And.intro (by simp only [InR]; omega) ?_)
     refine ⟨⟨za, _, _, zs⟩, fun c5 => absurd c5 (by rw [hnz]; decide), fun _ => ?_⟩
     repeat (first | refine And.intro (by omega) ?_ | refine And.intro (by dsimp only; omega) ?_ | refine And.intro (by simp only [InR]; omega) ?_)
     refine ⟨_, _, _, cut3, ?_⟩
     simp only [Nat.zero_add]
     repeat (first | refine And.intro (by omega) ?_ | refine And.intro (by dsimp only; omega) ?_ | refine And.intro (by simp only [InR]; omega) ?_)
     intro cap3 u1 u2 u3
     repeat (first | refine And.intro (by omega) ?_ | refine And.intro (by dsimp only; omega) ?_ | refine And.intro (by simp only [InR]; omega) ?_)
     intro p3 lo3 cs3 hp3 hl3 hr3
     obtain ⟨r, hr⟩ : ∃ r, r = recAt g.buf at_ := ⟨_, rfl⟩
     have hrb : r.body.length = nn := by
      rw [hr]; simp only [recAt, ← hN]; simp; omega
     have hC : Step X (.slice none 0 0) (pupd X p3 lo3 cs3) (slv p3 lo3 nn cap3) := new_step hp3
     have hCb : BytesAt (pupd X p3 lo3 cs3) (slv p3 lo3 nn cap3) r.body := by
      refine ⟨cap3, ?_⟩
      rw [hrb]
      refine slAt_new hl3 u1 u2 hr3 fun i hi j hj => ?_
      have hj0 : j = 0 := by simpa using hj
      subst hj0
      simp only [appRows, Nat.not_lt_zero, if_false, Nat.sub_zero, encRows, encB, List.getD_cons_zero]
      have : gl r.body i = gl g.buf (at_ + 8 + i) := by
       rw [hr]; simp only [recAt, ← hN, gl]
       rw [List.getD_eq_getElem?_getD, List.getElem?_take_of_lt (by simpa using hi), List.getElem?_drop, List.getD_eq_getElem?_getD]
      rw [this]
     have hx3 : ∀ x, X x ≠ none → x ≠ p3 := fun x hx e => hx (by rw [e]; exact hp3)
     have hrec4 : slAt (pupd X p3 lo3 cs3) Y.rv ksRec rs.length c9 (recR rs Y.vs) := slAt_frame hrec fun x hx => pupd_ne (hx3 x (slAt_dom hrec x hx))
     refine ⟨_, c9, _, hrec4, ?_⟩
     repeat (first | refine And.intro (by omega) ?_ | refine And.intro (by dsimp only; omega) ?_ | refine And.intro (by simp only [InR]; omega) ?_)
     intro cap4 v1 v2 v3
     repeat (first | refine And.intro (by omega) ?_ | refine And.intro (by dsimp only; omega) ?_ | refine And.intro (by simp only [InR]; omega) ?_)
     intro p4 lo4 cs4 hp4 hl4 hr4
     have hD : Step (pupd X p3 lo3 cs3) Y.rv (pupd (pminusV (pupd X p3 lo3 cs3) Y.rv) p4 lo4 cs4) (slv p4 lo4 (rs.length + 1) cap4) := app_step hp4
     have hvl : Y.vs.length = rs.length := hX.at_.len
     have hr5 : slAt (pupd (pminusV (pupd X p3 lo3 cs3) Y.rv) p4 lo4 cs4) (slv p4 lo4 (rs.length + 1) cap4) ksRec (rs.length + 1) cap4 (recR (rs ++ [r]) (Y.vs ++ [slv p3 lo3 nn cap3])) := by
      refine slAt_new hl4 v1 v2 hr4 fun i hi j hj => ?_
      simp only [appRows, recR, Nat.zero_add]
      by_cases hin : i < rs.length
      ·rw [if_pos hin, gl_append_left hin]
       by_cases hj0 : j = 0
       ·rw [if_pos hj0, if_pos hj0]
       ·rw [if_neg hj0, if_neg hj0, List.getD_eq_getElem?_getD, List.getD_eq_getElem?_getD, List.getElem?_append_left (by omega)]
      ·rw [if_neg hin]
       obtain rfl : i = rs.length := by omega
       rw [Nat.sub_self]
       have hj2 : j < 2 := hj
       match j, hj2 with
       | 0, _ => rw [if_pos rfl, show rs.length = rs.length + 0 from rfl, gl_append_right, hr]; rfl
       | 1, _ => rw [if_neg (by decide), List.getD_eq_getElem?_getD, List.getElem?_append_right (by omega), hvl, Nat.sub_self]; rfl
     obtain ⟨hcell4, hcell5, hnd6, hfr6⟩ := seg_setrecs (r := r) hX hC hCb hD (fun x hx => by
      simp only [fpV, slv, List.mem_singleton] at hx
      rw [hx, pupd_self]; simp) ⟨cap4, hr5⟩
     have hpk : ∃ k', k = k' + 1 := by
      cases k with
      | zero => omega
      | succ k => exact ⟨k, rfl⟩
     obtain ⟨k', rfl⟩ := hpk
     have hps : parseR g.buf (k' + 1) at_ = (r :: (parseR g.buf k' (at_ + 8 + nn)).1, (parseR g.buf k' (at_ + 8 + nn)).2) := by
      have e : (recN g.buf at_).toNat = nn := by rw [← hN]; rfl
      rw [hr]
      show (if recOk g.buf at_ = true then _ else _) = _
      rw [if_pos hR, e]
     rw [hps] at h3 h4
     refine ⟨_, _, rfl, ?_⟩
     refine ⟨_, _, rfl, ?_⟩
     refine ⟨_, 0, _, _, rfl, by rw [← hb]; exact hcell5, by simp [segC], ?_⟩
     repeat (first | refine And.intro (by omega) ?_ | refine And.intro (by dsimp only; omega) ?_ | refine And.intro (by simp only [InR]; omega) ?_)
     refine ⟨⟨pupd (pupd (pminusV (pupd X p3 lo3 cs3) Y.rv) p4 lo4 cs4) Y.b 0 (segC { g with recs := rs ++ [r] } Y.bv (slv p4 lo4 (rs.length + 1) cap4)), ⟨Y.b, Y.bv, slv p4 lo4 (rs.length + 1) cap4, Y.vs ++ [slv p3 lo3 nn cap3]⟩, rs ++ [r], at_ + 8 + nn, k'⟩, ?_⟩
     have hnd7 : SegNd (pupd (pupd (pminusV (pupd X p3 lo3 cs3) Y.rv) p4 lo4 cs4) Y.b 0 (segC { g with recs := rs ++ [r] } Y.bv (slv p4 lo4 (rs.length + 1) cap4))) ⟨Y.b, Y.bv, slv p4 lo4 (rs.length + 1) cap4, Y.vs ++ [slv p3 lo3 nn cap3]⟩ { g with recs := rs ++ [r] } := hnd6
     have h3' : rs ++ [r] ++ (parseR g.buf k' (at_ + 8 + nn)).1 = (parseR g.buf 50 0).1 := by rw [← h3, List.append_assoc]; rfl
     dsimp only
     (repeat' apply And.intro) <;> first | with_reducible (first | rfl | trivial | assumption) | omega | with_reducible (first | exact RowsEq.refl _ _ _ | exact Nat.le_refl _) | (dsimp only [List.length_cons, List.length_nil] <;> omega) | exact hnd7 | exact hb | exact hfr.trans hfr6 | exact h3' | exact h4 | (rw [← hb]; rfl) | (rw [List.length_append, List.length_singleton]; omega) | skip
  ·have c1 := of_decide_eq_false c1
   refine ⟨RecsS.mk X Y rs at_ 0, ?_⟩
   have hR : recOk g.buf at_ = false := by unfold recOk; rw [show decide (at_ + 8 ≤ g.buf.length) = false from decide_eq_false (by omega)]; rfl
   obtain ⟨hp1, hp2⟩ := pstop hR
   (repeat' apply And.intro) <;> first | with_reducible (first | rfl | trivial | assumption) | omega | with_reducible (first | exact RowsEq.refl _ _ _ | exact Nat.le_refl _) | (dsimp only [List.length_cons, List.length_nil] <;> omega) | (rw [← hp1]; exact hX) | exact hfr | exact hb | exact hp2
 ·rintro ⟨X, Y, rs, at_, k⟩ ⟨hX, hb, hfr, h1, h2⟩
  dsimp only at *
  have hcell : X y.b = some (0, segC { g with recs := (parseR g.buf 50 0).1 } Y.bv Y.rv) := by rw [← hb]; exact hX.at_.cell
  obtain ⟨b1, b2, b3, b4, ⟨ba, bc, b5⟩, b6⟩ := hX.at_.buf.len
  have b1 : slLen Y.bv = g.buf.length := b1
  have b4 : g.buf.length ≤ slCap Y.bv := b4
  have hbuf : BytesAt X Y.bv g.buf := hX.at_.buf
  have e3 : (segC { g with recs := (parseR g.buf 50 0).1 } Y.bv Y.rv).getD 3 (Value.tuple #[]) = Y.bv := rfl
  refine ⟨_, _, rfl, ?_⟩
  refine ⟨_, _, rfl, ?_⟩
  refine ⟨_, 0, _, _, rfl, hcell, ?_⟩
  refine ⟨⟨⟨_, rfl, b6⟩, trivial⟩, ?_⟩
  simp only [e3, Int.toNat_natCast]
  repeat (first | refine And.intro (by omega) ?_ | refine And.intro (by dsimp only; omega) ?_ | refine And.intro (by simp only [InR]; omega) ?_)
  have hcut := hbuf.cut (a := 0) (e := at_) (by omega) h1
  have hfpc : fpV (slcut 1 Y.bv 0 at_ (slCap Y.bv)) = fpV Y.bv := by
   obtain ⟨c, hb⟩ := hbuf
   rcases hb with ⟨h0, _⟩ | ⟨b9, lo9, o9, cs9, h9, _⟩
   ·rw [h0]; rfl
   ·rw [h9, slcut_zero]; rfl
  have hst : Step X Y.bv X (slcut 1 Y.bv 0 at_ (slCap Y.bv)) := fun x hx hn => ⟨rfl, by rw [hfpc]; exact hn⟩
  have hby : BytesAt X (slcut 1 Y.bv 0 at_ (slCap Y.bv)) (g.buf.take at_) := by
   refine ⟨slCap Y.bv - 0, ?_⟩
   rw [show (g.buf.take at_).length = at_ - 0 by simp; omega]
   rcases hcut with h0 | ⟨b9, lo9, o9, cs9, g1, g2, g3, g4, g5⟩
   ·exact .inl h0
   ·refine .inr ⟨b9, lo9, o9, cs9, g1, g2, g3, g4, ⟨fun i hi j q hj => ?_⟩⟩
    have := g5.at_ i hi j q hj
    have e : encRows encB g.buf (0 + i) j = encRows encB (g.buf.take at_) i j := by
     unfold encRows
     rw [Nat.zero_add, gl_take (by omega)]
    rwa [e] at this
  obtain ⟨hc2, hs3, hf3⟩ := seg_setbuf hX hst hby
  refine ⟨_, _, rfl, ?_⟩
  refine ⟨_, _, rfl, ?_⟩
  refine ⟨_, 0, _, _, rfl, hcell, by simp [segC], ?_⟩
  refine ⟨⟨pupd X Y.b 0 (segC { g with recs := (parseR g.buf 50 0).1, buf := g.buf.take at_ } (slcut 1 Y.bv 0 at_ (slCap Y.bv)) Y.rv), { Y with bv := slcut 1 Y.bv 0 at_ (slCap Y.bv) }⟩, ?_⟩
  have hM : recsM g = { g with recs := (parseR g.buf 50 0).1, buf := g.buf.take at_ } := by unfold recsM; rw [← h2]
  rw [hM]
  refine And.intro (by rw [← hb]; rfl) (And.intro ⟨hs3, hb, hfr.trans hf3⟩ trivial))
theorem callRecords : CallsBy (Y Tryz.prog).G.X 72 cRecords := fn_ok okY (tab := [(70, cGetV)]) ⟨callGetV, trivial⟩ bodyRecords

end Go.Proofs.YtfobhkibkdmglaaGreat

namespace Go.Sx
section

def newPool (s : S) (K : S → Prop) : Prop := K ⟨s.nt, s.fr, ⟨s.nx, true, .pool fun _ => none⟩ :: s.hp, s.nx + 1, s.kp, s.rt⟩
theorem newPool_ok : ∀ s K, newPool s K → ViewOk s K := by
 intro s K h w0 M ρ a w hs
 have hl := ρ.le_ext ⟨0, 0, 0, fun _ => False⟩
 have hn := hs.n
 have hpl : (ρ.ext ⟨0, 0, 0, fun _ => False⟩).pl s.nx = ⟨0, 0, 0, fun _ => False⟩ := by rw [← hn]; exact ρ.ext_new _
 refine ⟨_, ρ.ext ⟨0, 0, 0, fun _ => False⟩, h, hl, ⟨hs.defers, hs.size, by show ρ.n + 1 = s.nx + 1; rw [hn], hs.frame.mono hl, ?_⟩⟩
 refine (hs.heap.mono hl).cons (e := ⟨s.nx, true, .pool fun _ => none⟩) ⟨by show s.nx < ρ.n + 1; omega, ?_, ?_, ?_⟩ fun x hx => ⟨?_, ?_⟩
 ·intro b lo cs hb; cases hb
 ·rw [hpl]; exact fun b hb => hb.elim
 ·rw [hpl]; exact fun _ b hb => hb.elim
 ·have := (hs.heap.ent x hx).tag
  show s.nx ≠ x.tag
  omega
 ·rw [hpl]; exact fun _ b hb => hb.elim
def An.newPool (key : Nat) (next : LH) : An := .view key Sx.newPool newPool_ok next

/-! ### contracts of one slice, told of its value -/

def A.no0 : A → Bool
 | .ptr t _ _ _ => !Nat.beq t 0
 | .slc t _ _ _ _ => !Nat.beq t 0
 | .sub t _ _ _ _ _ => !Nat.beq t 0
 | _ => true
def CV.no0 : CV → Bool
 | .a x => x.no0
 | .agg xs => xs.all A.no0
def SV.no0 : SV → Bool
 | .a x => x.no0
 | .agg xs => xs.all A.no0
 | .tup xs => xs.all CV.no0
 | .clo _ xs => xs.all A.no0
def Chunk.no0 : Chunk → Bool
 | .obj _ cs => cs.all A.no0
 | _ => true
/-- all but the first tag stand where they stood -/
structure Off0 (ρ ρ' : Env) : Prop where
 n : ρ'.n = ρ.n
 pl : ∀ t, t ≠ 0 → ρ'.pl t = ρ.pl t
theorem ne0 {t : Nat} (h : (!Nat.beq t 0) = true) : t ≠ 0 := by rintro rfl; simp at h
theorem A.Rep.off0 {ρ ρ' : Env} (h : Off0 ρ ρ') {x : A} (hx : x.no0 = true) {v : Value} (r : x.Rep ρ v) : x.Rep ρ' v := by
 cases x <;> simp only [A.Rep, A.no0] at r hx ⊢ <;> try exact r
 case ptr t _ _ _ => rw [h.n, h.pl t (ne0 hx)]; exact r
 case slc t _ _ _ _ => rw [h.n, h.pl t (ne0 hx)]; exact r
 case sub t _ _ _ _ _ => rw [h.n, h.pl t (ne0 hx)]; exact r
theorem RepL.off0 {ρ ρ' : Env} (h : Off0 ρ ρ') : ∀ {xs : List A} {vs : List Value}, xs.all A.no0 = true → RepL ρ xs vs → RepL ρ' xs vs
 | [], _, _, r => r
 | x :: xs, _, hx, ⟨v, t, e, r1, r2⟩ => by
  simp only [List.all_cons, Bool.and_eq_true] at hx
  exact ⟨v, t, e, r1.off0 h hx.1, RepL.off0 h hx.2 r2⟩
theorem CV.Rep.off0 {ρ ρ' : Env} (h : Off0 ρ ρ') : ∀ {x : CV} {v : Value}, x.no0 = true → x.Rep ρ v → x.Rep ρ' v
 | .a _, _, hx, r => A.Rep.off0 h hx r
 | .agg _, _, hx, ⟨vs, e, r⟩ => ⟨vs, e, RepL.off0 h hx r⟩
theorem RepC.off0 {ρ ρ' : Env} (h : Off0 ρ ρ') : ∀ {xs : List CV} {vs : List Value}, xs.all CV.no0 = true → RepC ρ xs vs → RepC ρ' xs vs
 | [], _, _, r => r
 | x :: xs, _, hx, ⟨v, t, e, r1, r2⟩ => by
  simp only [List.all_cons, Bool.and_eq_true] at hx
  exact ⟨v, t, e, r1.off0 h hx.1, RepC.off0 h hx.2 r2⟩
theorem SV.Rep.off0 {ρ ρ' : Env} (h : Off0 ρ ρ') : ∀ {x : SV} {v : Value}, x.no0 = true → x.Rep ρ v → x.Rep ρ' v
 | .a _, _, hx, r => A.Rep.off0 h hx r
 | .agg _, _, hx, ⟨vs, e, r⟩ => ⟨vs, e, RepL.off0 h hx r⟩
 | .tup _, _, hx, ⟨vs, e, r⟩ => ⟨vs, e, RepC.off0 h hx r⟩
 | .clo _ _, _, hx, ⟨vs, e, r⟩ => ⟨vs, e, RepL.off0 h hx r⟩
theorem Chunk.Sat.off0 {ρ ρ' : Env} (h : Off0 ρ ρ') {p : Place} {w : World} {ch : Chunk} (hx : ch.no0 = true) (r : ch.Sat ρ p w) : ch.Sat ρ' p w := by
 cases ch with
 | obj ty cs => obtain ⟨vs, fr, h1, h2, ⟨us, xs, h5, h3⟩, h4⟩ := r; exact ⟨vs, fr, h1, h2, ⟨us, xs, h5, h3.off0 h hx⟩, h4⟩
 | arr ty ks n rows => exact r
 | abs R => exact r
 | pool H => exact r

structure Sl1 where
 ty : Nat
 ks : List CK
 n : Nat
 cap : Nat
 rows : Nat → Nat → Value
structure V1 (α : Type) where
 a : α
 H : PH
 v : Value
def Con.val1 (C : Con) (sl : C.α → Sl1) : Con where
 α := V1 C.α
 β := C.β
 m := 1
 m' := C.m'
 pre := fun x => C.pre x.a ∧ slAt x.H x.v (sl x.a).ks (sl x.a).n (sl x.a).cap (sl x.a).rows
 args := fun x => [.a (.val x.v)]
 hp := fun _ => []
 ro := fun x => [(0, .pool x.H)]
 post := fun x b => C.post x.a b
 res := fun x b => C.res x.a b
 hp' := fun x b => C.hp' x.a b
/-- it reads one slice; what it leaves names it no more -/
structure Val1 (C : Con) (sl : C.α → Sl1) : Prop where
 m : C.m = 1
 hp : ∀ a, C.hp a = []
 ro : ∀ a, C.ro a = [(0, .arr (sl a).ty (sl a).ks (sl a).n (sl a).rows)]
 args : ∀ a, C.args a = [.a (.slc 0 0 (sl a).ks.length (sl a).n (sl a).cap)]
 res : ∀ a b, (C.res a b).no0 = true
 hp' : ∀ a b, ∀ p ∈ C.hp' a b, p.1 ≠ 0 ∧ p.2.no0 = true
theorem val1_sem {X : Cx} {C : Con} {f : Nat} (hs : ConSem X C f) {sl : C.α → Sl1} (hv : Val1 C sl) : ConSem X (C.val1 sl) f := by
 rintro ⟨a, H, v⟩ ⟨hpre, hsl⟩ M ρ w vs hn hh hargs
 obtain ⟨u, _, rfl, hu, rfl⟩ := hargs
 obtain ⟨rfl, _⟩ := hu
 have hps := (hh.ent ⟨0, false, .pool H⟩ (by simp [wrs, ros, Con.val1])).ch
 dsimp only at hpre hsl hps hn
 obtain ⟨p, hp1, hp2, hp3⟩ : ∃ p : Place, (∀ (ρ' : Env), 0 < ρ'.n → ρ'.pl 0 = p → (A.slc 0 0 (sl a).ks.length (sl a).n (sl a).cap).Rep ρ' u) ∧ (∀ ρ', (Chunk.arr (sl a).ty (sl a).ks (sl a).n (sl a).rows).Sat ρ' p w) ∧ ∀ b, p.fp b → b < w.heap.size := by
  rcases hsl with ⟨rfl, h0, h1⟩ | ⟨b, lo, o, cs, rfl, ⟨hlc, hcm⟩, hH, hfit, hrows⟩
  ·exact ⟨nilPlace, fun ρ' h _ => ⟨h, by omega, by rw [h1]; exact Nat.zero_le _, .inl ⟨h0, h1, rfl⟩⟩, fun ρ' => .inl ⟨h0, rfl, fun b hb => hb⟩, fun b hb => hb.elim⟩
  ·obtain ⟨hfp, vs, vty, fr, hb, hvl, hvs, hun⟩ := hps b lo cs hH
   refine ⟨⟨b, lo + o, (sl a).cap, fun x => x = b⟩, fun ρ' h e => ⟨h, hlc, hcm, .inr ⟨_, rfl, fun _ => by rw [e]; simp⟩⟩, fun ρ' => .inr ⟨vs, vty, fr, hb, by simp only; omega, hlc, fun x h1 h2 => hun x (by simp only at h1; omega) (by simp only at h2; omega), fun _ => Iff.rfl, fun i hi j k hk => ?_⟩, fun x hx => ?_⟩
   ·obtain ⟨g1, g2⟩ := hrows.at_ i hi j k hk
    refine ⟨?_, g2⟩
    have hlt : o + i * (sl a).ks.length + j < cs.length := (List.getElem?_eq_some_iff.1 g1).1
    rw [← g1, ← hvs _ hlt]
    congr 1; simp only; omega
   ·simp only at hx; subst hx; exact (Array.getElem?_eq_some_iff.1 hb).1
 have hpl : (⟨1, fun _ => p⟩ : Env).pl 0 = p := rfl
 refine (hs a hpre M ⟨1, fun _ => p⟩ w [u] (by rw [hv.m]) ?_ ?_).mono ?_
 ·rw [hv.hp, hv.ro]
  refine ⟨hh.keeps, fun e he => ?_, by simp [wrs, ros]⟩
  have he : e = ⟨0, false, .arr (sl a).ty (sl a).ks (sl a).n (sl a).rows⟩ := by simpa [wrs, ros] using he
  subst he
  exact ⟨Nat.one_pos, hp2 _, hp3, fun h => (by cases h)⟩
 ·rw [hv.args]
  exact ⟨u, [], rfl, hp1 _ Nat.one_pos rfl, rfl⟩
 ·rintro e w' ⟨r, rfl, o, ρ2, g1, g2, g3, g4, g5⟩
  have hoff : Off0 ρ2 ⟨ρ2.n, fun t => if t = 0 then ρ.pl 0 else ρ2.pl t⟩ := ⟨rfl, fun t ht => if_neg ht⟩
  refine ⟨r, rfl, o, ⟨ρ2.n, fun t => if t = 0 then ρ.pl 0 else ρ2.pl t⟩, g1, g2, fun T hT => ?_, g4.off0 hoff (hv.res a o), ?_⟩
  ·have hT : T < 1 := hT
   have : T = 0 := by omega
   subst this; rfl
  ·have hent : ∀ e ∈ wrs (C.hp' a o), e.tag ≠ 0 ∧ e.ch.no0 = true := fun e he => by
    obtain ⟨q, hq, rfl⟩ := List.mem_map.1 he
    exact hv.hp' a o q hq
   refine ⟨g5.keeps, fun e he => ?_, g5.apart.imp_of_mem fun {x y} hx hy hxy => ?_⟩
   ·obtain ⟨h1, h2⟩ := hent e he
    have he := g5.ent e he
    exact ⟨he.tag, by rw [hoff.pl _ h1]; exact he.ch.off0 hoff h2, by rw [hoff.pl _ h1]; exact he.lt, by rw [hoff.pl _ h1]; exact he.own⟩
   ·refine ⟨hxy.1, ?_⟩
    rw [hoff.pl _ (hent x hx).1, hoff.pl _ (hent y hy).1]; exact hxy.2
end
end Go.Sx

namespace Go.Proofs.YtfobhkibkdmglaaGreat
open Go.Sx
set_option maxRecDepth 100000
set_option linter.unusedVariables false
set_option linter.unusedSimpArgs false

structure RdS where
 g : SegM
 ok : Bool
 run : Int
def g0 : SegM := ⟨0, 0, 0, [], []⟩
def secF (L : LogM) (d : DevM) (k i : Nat) : Nat → Int := d.now (L.from_ + k * 8 + i)
def rdStep (x : RdS) (i : Nat) (f : Nat → Int) : RdS :=
 ⟨if !(x.ok && takeB x.g i f) && decide (i = 0) then { (if x.ok then takeM x.g i f else x.g) with gen := 0 } else (if x.ok then takeM x.g i f else x.g), x.ok && takeB x.g i f, max x.run (uw .i64 (gB f 10 4) + 1)⟩
def rdTo (L : LogM) (d : DevM) (k : Nat) : Nat → RdS
 | 0 => ⟨g0, true, L.run⟩
 | i + 1 => rdStep (rdTo L d k i) i (secF L d k i)
def segOf (L : LogM) (d : DevM) (k : Nat) : Option SegM :=
 if (rdTo L d k 8).g.gen < 1 ∨ ((rdTo L d k 8).g.gen - 1).tmod L.segs ≠ k then none else some (recsM (rdTo L d k 8).g)
/-- no sector that is taken is empty, runs are no great ones -/
structure RdOk (L : LogM) (d : DevM) (k : Nat) : Prop where
 run : ∀ i, i < 8 → 0 ≤ uw .i64 (gB (secF L d k i) 10 4) ∧ uw .i64 (gB (secF L d k i) 10 4) < 100000000000
 used : ∀ i, i < 8 → (rdTo L d k i).ok = true → takeB (rdTo L d k i).g i (secF L d k i) = true → 0 < secF L d k i 15
theorem takeM_recs (g : SegM) (i : Nat) (f : Nat → Int) : (takeM g i f).recs = g.recs := by
 have e : (takeG g i f).recs = g.recs := by unfold takeG; split <;> rfl
 unfold takeM
 split
 ·exact e
 ·exact e
theorem takeG_buf (g : SegM) (i : Nat) (f : Nat → Int) : (takeG g i f).buf = g.buf := by
 unfold takeG; split <;> rfl
theorem takeM_no {g : SegM} {i : Nat} {f : Nat → Int} (h : takeB g i f = false) : takeM g i f = takeG g i f := by
 unfold takeM; rw [h]; rfl
theorem takeM_yes {g : SegM} {i : Nat} {f : Nat → Int} (h : takeB g i f = true) : (takeM g i f).buf = g.buf ++ (List.range (f 15).toNat).map fun k => f (offS i + k) := by
 unfold takeM; rw [if_pos h]
theorem takeB_out {g : SegM} {i : Nat} {f : Nat → Int} (h : takeB g i f = true) : f 15 ≤ roomS i ∧ g.buf.length = startS i := by
 unfold takeB at h
 simp only [Bool.and_eq_true, decide_eq_true_eq] at h
 exact h.2.2.2.2
theorem takeM_len {g : SegM} {i : Nat} {f : Nat → Int} (h : g.buf.length ≤ startS i) : (takeM g i f).buf.length ≤ startS (i + 1) := by
 cases hB : takeB g i f with
 | false => rw [takeM_no hB, takeG_buf]; unfold startS at *; omega
 | true =>
  obtain ⟨h1, h2⟩ := takeB_out hB
  rw [takeM_yes hB]
  simp only [List.length_append, List.length_map, List.length_range]
  unfold startS roomS at *
  split at h1 <;> omega
structure RdInv (L : LogM) (x : RdS) (i : Nat) : Prop where
 recs : x.g.recs = []
 buf : x.g.buf.length ≤ startS i
 run : 0 ≤ x.run ∧ x.run < 200000000000
theorem rdTo_inv {L : LogM} {d : DevM} {k : Nat} (h : RdOk L d k) (h0 : 0 ≤ L.run ∧ L.run < 200000000000) : ∀ i, i ≤ 8 → RdInv L (rdTo L d k i) i
 | 0, _ => ⟨rfl, by show [].length ≤ _; simp, h0⟩
 | i + 1, hi => by
  have ih := rdTo_inv h h0 i (by omega)
  have hr := h.run i (by omega)
  obtain ⟨g1, g2, g3⟩ := ih
  have hb : (if (rdTo L d k i).ok then takeM (rdTo L d k i).g i (secF L d k i) else (rdTo L d k i).g).recs = [] ∧ (if (rdTo L d k i).ok then takeM (rdTo L d k i).g i (secF L d k i) else (rdTo L d k i).g).buf.length ≤ startS (i + 1) := by
   split
   ·exact ⟨(takeM_recs _ _ _).trans g1, takeM_len g2⟩
   ·exact ⟨g1, by unfold startS at *; omega⟩
  show RdInv L (rdStep (rdTo L d k i) i (secF L d k i)) (i + 1)
  unfold rdStep
  refine ⟨?_, ?_, by dsimp only; omega⟩
  ·dsimp only; split
   ·exact hb.1
   ·exact hb.1
  ·dsimp only; split
   ·exact hb.2
   ·exact hb.2
theorem SegNd.gen0 {X : PH} {y : SegL} {g : SegM} (h : SegNd X y g) : SegNd (pupd X y.b 0 (segC { g with gen := 0 } y.bv y.rv)) y { g with gen := 0 } ∧ Fr X y (pupd X y.b 0 (segC { g with gen := 0 } y.bv y.rv)) y :=
 seg_setint h rfl rfl ⟨by simp only [InR]; omega, h.at_.rng.2.1, h.at_.rng.2.2⟩
theorem g0_at (H : PH) (b : Nat) : SegNd (pupd H b 0 [.int .i64 0, .int .i64 0, .int .i64 0, .slice none 0 0, .slice none 0 0]) (newL b) g0 :=
 ⟨⟨pupd_self .., ⟨by simp only [g0, InR]; omega, by simp only [g0, InR]; omega, by simp only [g0, InR]; omega⟩, ⟨0, .inl ⟨rfl, rfl, rfl⟩⟩, ⟨0, .inl ⟨rfl, rfl, rfl⟩⟩, rfl, fun i hi => absurd hi (Nat.not_lt_zero i)⟩, by simp [newL, fpSeg, fpV]⟩
structure RSegA where
 H : PH
 L : LogM
 lv : Value
 d : DevM
 k : Nat
structure RSegB where
 H : PH
 y : SegL
 v : Value
def rsPost (H : PH) (b : RSegB) : Option SegM → Prop
 | none => b.v = .pointer none ∧ ∀ x, H x ≠ none → b.H x = H x
 | some g => b.v = pv b.y.b 0 ∧ SegNd b.H b.y g ∧ ∀ x, H x ≠ none → b.H x = H x ∧ x ∉ fpSeg b.y
noncomputable def cReadS : Con where
 α := RSegA
 β := RSegB
 m := 4
 m' := 5
 pre := fun a => a.k < a.L.segs ∧ 3 ≤ a.L.segs ∧ a.L.segs ≤ 200 ∧ a.L.from_ + a.L.segs * 8 ≤ a.d.n ∧ a.d.n < 100000 ∧ 0 ≤ a.L.run ∧ a.L.run < 200000000000 ∧ RdOk a.L a.d a.k
 args := fun a => [.a (.ptr 0 0 0 0), .a (.int .i64 a.k)]
 hp := fun a => [(0, logObj 1 a.L a.lv), (3, .pool a.H)]
 ro := fun a => devHp 1 2 a.d
 post := fun a b => rsPost a.H b (segOf a.L a.d a.k)
 res := fun _ b => .a (.val b.v)
 hp' := fun a b => [(0, logObj 1 { a.L with run := (rdTo a.L a.d a.k 8).run } a.lv), (4, .pool b.H)]
structure RdL where
 i : Nat
 H : PH
 y : SegL
def iReadS (a : RSegA) : An := .flat 4 RdL (fun s x => S.pool ((((s.at_ (s.tg 0) (logObj (s.in_ (s.tg 0) 0) { a.L with run := (rdTo a.L a.d a.k x.i).run } a.lv)).set 5 (.a (.val (pv x.y.b 0)))).set 6 (.a (.bool (rdTo a.L a.d a.k x.i).ok))).int 12 x.i) x.H)
 (fun _ x => x.i ≤ 8 ∧ SegNd x.H x.y (rdTo a.L a.d a.k x.i).g ∧ ∀ z, a.H z ≠ none → x.H z = a.H z ∧ z ∉ fpSeg x.y) (fun _ x => 8 - x.i)
def vReadS (a : RSegA) : An := .absSlot 3 5 (.mk 1000 [iReadS a] [])
set_option maxHeartbeats 4000000 in
theorem bodyReadS : fnBody (Y Tryz.prog) [(69, cDevRead), (70, cGet), (71, cTake), (72, cRecords)] 50 cReadS fun a => [(50, [], [vReadS a])] := fnBody.of (p :=
 ∀ a : RSegA, a.k < a.L.segs ∧ 3 ≤ a.L.segs ∧ a.L.segs ≤ 200 ∧ a.L.from_ + a.L.segs * 8 ≤ a.d.n ∧ a.d.n < 100000 ∧ (0 : Int) ≤ a.L.run ∧ a.L.run < (200000000000 : Int) ∧ RdOk a.L a.d a.k → ∀ b : Nat, a.H b = none → (∃ a_3 : RdL, 0 = (↑a_3.i : Int) ∧ true = (rdTo a.L a.d a.k a_3.i).ok ∧ pv b 0 = pv a_3.y.b 0 ∧ 0 = 0 ∧ (↑a.k : Int) = (↑a.k : Int) ∧ pupd a.H b 0 [Value.int IntKind.i64 (0 : Int), Value.int IntKind.i64 (0 : Int), Value.int IntKind.i64 (0 : Int), Value.slice none 0 0, Value.slice none 0 0] = a_3.H ∧ 0 = 0 ∧ (↑a.L.from_ : Int) = (↑a.L.from_ : Int) ∧ (↑a.L.segs : Int) = (↑a.L.segs : Int) ∧ a.lv = a.lv ∧ a.L.next = a.L.next ∧ a.L.run = (rdTo a.L a.d a.k a_3.i).run ∧ a.L.fresh = a.L.fresh ∧ devQ a.d a.d ((a_3.i ≤ 8 ∧ SegNd a_3.H a_3.y (rdTo a.L a.d a.k a_3.i).g ∧ ∀ z : Nat, a.H z ≠ none → a_3.H z = a.H z ∧ ¬z ∈ fpSeg a_3.y) ∧ True)) ∧ ∀ a_3 : RdL, (a_3.i ≤ 8 ∧ SegNd a_3.H a_3.y (rdTo a.L a.d a.k a_3.i).g ∧ ∀ z : Nat, a.H z ≠ none → a_3.H z = a.H z ∧ ¬z ∈ fpSeg a_3.y) → (decide ((↑a_3.i : Int) < 8) = true → InR .i64 (↑a.L.from_ : Int) → InR .i64 ((↑a.k : Int) * 8) ∧ InR .i64 ((↑a.L.from_ : Int) + (↑a.k : Int) * 8) ∧ InR .i64 ((↑a.L.from_ : Int) + (↑a.k : Int) * 8 + (↑a_3.i : Int)) ∧ ∃ a_7 : RdA, 0 = 0 ∧ (↑a.L.from_ : Int) + (↑a.k : Int) * 8 + (↑a_3.i : Int) = (↑a_7.i : Int) ∧ devQ a.d a_7.d ((a_7.i < a_7.d.n ∧ a_7.d.n < 100000) ∧ ∀ b : Nat, 64 ≤ b → (false = true → ∃ b : RSegB, Value.pointer none = b.v ∧ a_3.H = b.H ∧ 0 = 0 ∧ (↑a.L.from_ : Int) = (↑a.L.from_ : Int) ∧ (↑a.L.segs : Int) = (↑a.L.segs : Int) ∧ 
 a.lv = a.lv ∧ a.L.next = a.L.next ∧ (rdTo a.L a.d a.k a_3.i).run = (rdTo a.L a.d a.k 8).run ∧ a.L.fresh = a.L.fresh ∧ rsPost a.H b (segOf a.L a.d a.k) ∧ True) ∧ (false = false → InR .i64 (rdTo a.L a.d a.k a_3.i).run → ((0 : Int) ≤ 14 ∧ 14 ≤ (↑b : Int)) ∧ ((0 : Int) ≤ 10 ∧ (10 : Int) ≤ 14) ∧ ∃ a_11 : GetA, (10 = a_11.r ∧ 4 = a_11.len ∧ b - 10 = a_11.cap) ∧ (a_11.n ≤ 64 ∧ RowsEq a_11.n 1 (rowsB (a_7.d.now a_7.i)) a_11.rows) ∧ (a_11.r + a_11.len ≤ a_11.n ∧ a_11.len ≤ 8) ∧ ∀ b_1 : Unit, True → InR .i64 (uw .i64 (getTo (fun (i : Nat) => u8 a_11.rows (a_11.r + i)) a_11.len) + (1 : Int)) ∧ ((rdTo a.L a.d a.k a_3.i).ok = true → ∃ a_14 : TakeA, pv a_3.y.b 0 = pv a_14.y.b 0 ∧ (↑a_3.i : Int) = (↑a_14.i : Int) ∧ (0 = 0 ∧ 64 = 64 ∧ b = a_14.cap) ∧ a_3.H = a_14.H ∧ (64 ≤ 64 ∧ RowsEq 64 1 (rowsB (a_7.d.now a_7.i)) (rowsB a_14.f)) ∧ (SegNd a_14.H a_14.y a_14.g ∧ a_14.i < 8 ∧ a_14.g.buf.length ≤ 378 ∧ 64 ≤ a_14.cap ∧ (takeB a_14.g a_14.i a_14.f = true → (0 : Int) < a_14.f 15)) ∧ ∀ b : TakeR, SegNd b.H b.y (takeM a_14.g a_14.i a_14.f) ∧ b.y.b = a_14.y.b ∧ b.y.rv = a_14.y.rv ∧ Fr a_14.H a_14.y b.H b.y → ((!takeB a_14.g a_14.i a_14.f) = true → (((↑a_3.i : Int) == 0) = true → ∃ b_2 o : Nat, pv a_3.y.b 0 = pv b_2 o ∧ ∃ b_3 o_1 : Nat, pv b_2 o = pv b_3 o_1 ∧ ∃ b_4 lo o : Nat, ∃ cs : List Value, pv b_3 (o_1 + 0) = pv b_4 (lo + o) ∧ b.H b_4 = some (lo, cs) ∧ o + 1 ≤ cs.length ∧ InR .i64 ((↑a_3.i : Int) + 1) ∧ ∃ (a' : RdL), (↑a_3.i : Int) + 1 = (↑a'.i : Int) ∧ takeB a_14.g a_14.i a_14.f = (rdTo a.L a.d a.k a'.i).ok ∧ 
 pv a_3.y.b 0 = pv a'.y.b 0 ∧ 0 = 0 ∧ (↑a.k : Int) = (↑a.k : Int) ∧ pupd b.H b_4 lo (List.take o cs ++ [Value.int IntKind.i64 (0 : Int)] ++ List.drop (o + 1) cs) = a'.H ∧ 0 = 0 ∧ (↑a.L.from_ : Int) = (↑a.L.from_ : Int) ∧ (↑a.L.segs : Int) = (↑a.L.segs : Int) ∧ a.lv = a.lv ∧ a.L.next = a.L.next ∧ (bif true then max (rdTo a.L a.d a.k a_3.i).run (uw .i64 (getTo (fun (i : Nat) => u8 a_11.rows (a_11.r + i)) a_11.len) + (1 : Int)) else min (rdTo a.L a.d a.k a_3.i).run (uw .i64 (getTo (fun (i : Nat) => u8 a_11.rows (a_11.r + i)) a_11.len) + (1 : Int))) = (rdTo a.L a.d a.k a'.i).run ∧ a.L.fresh = a.L.fresh ∧ devQ a.d a.d ((a'.i ≤ 8 ∧ SegNd a'.H a'.y (rdTo a.L a.d a.k a'.i).g ∧ ∀ z : Nat, a.H z ≠ none → a'.H z = a.H z ∧ ¬z ∈ fpSeg a'.y) ∧ 8 - a'.i < 8 - a_3.i)) ∧ (((↑a_3.i : Int) == 0) = false → InR .i64 ((↑a_3.i : Int) + 1) ∧ ∃ (a' : RdL), (↑a_3.i : Int) + 1 = (↑a'.i : Int) ∧ takeB a_14.g a_14.i a_14.f = (rdTo a.L a.d a.k a'.i).ok ∧ pv a_3.y.b 0 = pv a'.y.b 0 ∧ 0 = 0 ∧ (↑a.k : Int) = (↑a.k : Int) ∧ b.H = a'.H ∧ 0 = 0 ∧ (↑a.L.from_ : Int) = (↑a.L.from_ : Int) ∧ (↑a.L.segs : Int) = (↑a.L.segs : Int) ∧ a.lv = a.lv ∧ a.L.next = a.L.next ∧ (bif true then max (rdTo a.L a.d a.k a_3.i).run (uw .i64 (getTo (fun (i : Nat) => u8 a_11.rows (a_11.r + i)) a_11.len) + (1 : Int)) else min (rdTo a.L a.d a.k a_3.i).run (uw .i64 (getTo (fun (i : Nat) => u8 a_11.rows (a_11.r + i)) a_11.len) + (1 : Int))) = (rdTo a.L a.d a.k a'.i).run ∧ a.L.fresh = a.L.fresh ∧ devQ a.d a.d ((a'.i ≤ 8 ∧ SegNd a'.H a'.y (rdTo a.L a.d a.k a'.i).g ∧ 
 ∀ z : Nat, a.H z ≠ none → a'.H z = a.H z ∧ ¬z ∈ fpSeg a'.y) ∧ 8 - a'.i < 8 - a_3.i))) ∧ ((!takeB a_14.g a_14.i a_14.f) = false → InR .i64 ((↑a_3.i : Int) + 1) ∧ ∃ (a' : RdL), (↑a_3.i : Int) + 1 = (↑a'.i : Int) ∧ takeB a_14.g a_14.i a_14.f = (rdTo a.L a.d a.k a'.i).ok ∧ pv a_3.y.b 0 = pv a'.y.b 0 ∧ 0 = 0 ∧ (↑a.k : Int) = (↑a.k : Int) ∧ b.H = a'.H ∧ 0 = 0 ∧ (↑a.L.from_ : Int) = (↑a.L.from_ : Int) ∧ (↑a.L.segs : Int) = (↑a.L.segs : Int) ∧ a.lv = a.lv ∧ a.L.next = a.L.next ∧ (bif true then max (rdTo a.L a.d a.k a_3.i).run (uw .i64 (getTo (fun (i : Nat) => u8 a_11.rows (a_11.r + i)) a_11.len) + (1 : Int)) else min (rdTo a.L a.d a.k a_3.i).run (uw .i64 (getTo (fun (i : Nat) => u8 a_11.rows (a_11.r + i)) a_11.len) + (1 : Int))) = (rdTo a.L a.d a.k a'.i).run ∧ a.L.fresh = a.L.fresh ∧ devQ a.d a.d ((a'.i ≤ 8 ∧ SegNd a'.H a'.y (rdTo a.L a.d a.k a'.i).g ∧ ∀ z : Nat, a.H z ≠ none → a'.H z = a.H z ∧ ¬z ∈ fpSeg a'.y) ∧ 8 - a'.i < 8 - a_3.i))) ∧ ((rdTo a.L a.d a.k a_3.i).ok = false → (((↑a_3.i : Int) == 0) = true → ∃ b o : Nat, pv a_3.y.b 0 = pv b o ∧ ∃ b_2 o_1 : Nat, pv b o = pv b_2 o_1 ∧ ∃ b lo o : Nat, ∃ cs : List Value, pv b_2 (o_1 + 0) = pv b (lo + o) ∧ a_3.H b = some (lo, cs) ∧ o + 1 ≤ cs.length ∧ InR .i64 ((↑a_3.i : Int) + 1) ∧ ∃ (a' : RdL), (↑a_3.i : Int) + 1 = (↑a'.i : Int) ∧ false = (rdTo a.L a.d a.k a'.i).ok ∧ pv a_3.y.b 0 = pv a'.y.b 0 ∧ 0 = 0 ∧ (↑a.k : Int) = (↑a.k : Int) ∧ pupd a_3.H b lo (List.take o cs ++ [Value.int IntKind.i64 (0 : Int)] ++ List.drop (o + 1) cs) = a'.H ∧ 0 = 0 ∧ 
 (↑a.L.from_ : Int) = (↑a.L.from_ : Int) ∧ (↑a.L.segs : Int) = (↑a.L.segs : Int) ∧ a.lv = a.lv ∧ a.L.next = a.L.next ∧ (bif true then max (rdTo a.L a.d a.k a_3.i).run (uw .i64 (getTo (fun (i : Nat) => u8 a_11.rows (a_11.r + i)) a_11.len) + (1 : Int)) else min (rdTo a.L a.d a.k a_3.i).run (uw .i64 (getTo (fun (i : Nat) => u8 a_11.rows (a_11.r + i)) a_11.len) + (1 : Int))) = (rdTo a.L a.d a.k a'.i).run ∧ a.L.fresh = a.L.fresh ∧ devQ a.d a.d ((a'.i ≤ 8 ∧ SegNd a'.H a'.y (rdTo a.L a.d a.k a'.i).g ∧ ∀ z : Nat, a.H z ≠ none → a'.H z = a.H z ∧ ¬z ∈ fpSeg a'.y) ∧ 8 - a'.i < 8 - a_3.i)) ∧ (((↑a_3.i : Int) == 0) = false → InR .i64 ((↑a_3.i : Int) + 1) ∧ ∃ (a' : RdL), (↑a_3.i : Int) + 1 = (↑a'.i : Int) ∧ false = (rdTo a.L a.d a.k a'.i).ok ∧ pv a_3.y.b 0 = pv a'.y.b 0 ∧ 0 = 0 ∧ (↑a.k : Int) = (↑a.k : Int) ∧ a_3.H = a'.H ∧ 0 = 0 ∧ (↑a.L.from_ : Int) = (↑a.L.from_ : Int) ∧ (↑a.L.segs : Int) = (↑a.L.segs : Int) ∧ a.lv = a.lv ∧ a.L.next = a.L.next ∧ (bif true then max (rdTo a.L a.d a.k a_3.i).run (uw .i64 (getTo (fun (i : Nat) => u8 a_11.rows (a_11.r + i)) a_11.len) + (1 : Int)) else min (rdTo a.L a.d a.k a_3.i).run (uw .i64 (getTo (fun (i : Nat) => u8 a_11.rows (a_11.r + i)) a_11.len) + (1 : Int))) = (rdTo a.L a.d a.k a'.i).run ∧ a.L.fresh = a.L.fresh ∧ devQ a.d a.d ((a'.i ≤ 8 ∧ SegNd a'.H a'.y (rdTo a.L a.d a.k a'.i).g ∧ ∀ z : Nat, a.H z ≠ none → a'.H z = a.H z ∧ ¬z ∈ fpSeg a'.y) ∧ 8 - a'.i < 8 - a_3.i)))))) ∧ (decide ((↑a_3.i : Int) < 8) = false → ∃ b o : Nat, pv a_3.y.b 0 = pv b o ∧ ∃ b_1 o_1 : Nat, pv b o = pv b_1 o_1 ∧ 
 ∃ b lo o : Nat, ∃ cs : List Value, pv b_1 (o_1 + 0) = pv b (lo + o) ∧ a_3.H b = some (lo, cs) ∧ ((∃ v : Value, cs[o]? = some v ∧ ∃ n : Int, v = Value.int IntKind.i64 n ∧ InR .i64 n) ∧ True) ∧ (InR .i64 (toI (cs.getD o (Value.tuple #[]))) → (decide (toI (cs.getD o (Value.tuple #[])) < (1 : Int)) = true → ∃ b : RSegB, Value.pointer none = b.v ∧ a_3.H = b.H ∧ 0 = 0 ∧ (↑a.L.from_ : Int) = (↑a.L.from_ : Int) ∧ (↑a.L.segs : Int) = (↑a.L.segs : Int) ∧ a.lv = a.lv ∧ a.L.next = a.L.next ∧ (rdTo a.L a.d a.k a_3.i).run = (rdTo a.L a.d a.k 8).run ∧ a.L.fresh = a.L.fresh ∧ rsPost a.H b (segOf a.L a.d a.k) ∧ True) ∧ (decide (toI (cs.getD o (Value.tuple #[])) < (1 : Int)) = false → ∃ b o : Nat, pv a_3.y.b 0 = pv b o ∧ ∃ b_2 o_2 : Nat, pv b o = pv b_2 o_2 ∧ ∃ b lo o : Nat, ∃ cs : List Value, pv b_2 (o_2 + 0) = pv b (lo + o) ∧ a_3.H b = some (lo, cs) ∧ ((∃ v : Value, cs[o]? = some v ∧ ∃ n : Int, v = Value.int IntKind.i64 n ∧ InR .i64 n) ∧ True) ∧ (InR .i64 (toI (cs.getD o (Value.tuple #[]))) → InR .i64 (toI (cs.getD o (Value.tuple #[])) - (1 : Int)) ∧ (InR .i64 (↑a.L.segs : Int) → (↑a.L.segs : Int) ≠ (0 : Int) ∧ (((toI (cs.getD o (Value.tuple #[])) - (1 : Int)).tmod (↑a.L.segs : Int) != (↑a.k : Int)) = true → ∃ b : RSegB, Value.pointer none = b.v ∧ a_3.H = b.H ∧ 0 = 0 ∧ (↑a.L.from_ : Int) = (↑a.L.from_ : Int) ∧ (↑a.L.segs : Int) = (↑a.L.segs : Int) ∧ a.lv = a.lv ∧ a.L.next = a.L.next ∧ (rdTo a.L a.d a.k a_3.i).run = (rdTo a.L a.d a.k 8).run ∧ a.L.fresh = a.L.fresh ∧ rsPost a.H b (segOf a.L a.d a.k) ∧ 
 True) ∧ (((toI (cs.getD o (Value.tuple #[])) - (1 : Int)).tmod (↑a.L.segs : Int) != (↑a.k : Int)) = false → ∃ a_11 : RecsA, pv a_3.y.b 0 = pv a_11.y.b 0 ∧ a_3.H = a_11.H ∧ (SegNd a_11.H a_11.y a_11.g ∧ a_11.g.buf.length ≤ 378 ∧ a_11.g.recs = []) ∧ ∀ b : TakeR, SegNd b.H b.y (recsM a_11.g) ∧ b.y.b = a_11.y.b ∧ Fr a_11.H a_11.y b.H b.y → ∃ b_3 : RSegB, pv a_3.y.b 0 = b_3.v ∧ b.H = b_3.H ∧ 0 = 0 ∧ (↑a.L.from_ : Int) = (↑a.L.from_ : Int) ∧ (↑a.L.segs : Int) = (↑a.L.segs : Int) ∧ a.lv = a.lv ∧ a.L.next = a.L.next ∧ (rdTo a.L a.d a.k a_3.i).run = (rdTo a.L a.d a.k 8).run ∧ a.L.fresh = a.L.fresh ∧ rsPost a.H b_3 (segOf a.L a.d a.k) ∧ True))))))) (by kernel_rfl) (by
 rintro ⟨H, L, lv, d, k⟩ ⟨h1, h2, h3, h4, h5, h6, h7, ok⟩
 dsimp only at *
 intro b hb
 refine ⟨⟨⟨0, pupd H b 0 [.int .i64 0, .int .i64 0, .int .i64 0, .slice none 0 0, .slice none 0 0], newL b⟩, ?_⟩, ?_⟩
 ·have hz : ∀ z, H z ≠ none → pupd H b 0 [.int .i64 0, .int .i64 0, .int .i64 0, .slice none 0 0, .slice none 0 0] z = H z ∧ ¬ z ∈ fpSeg (newL b) := fun z hz => by
   have : z ≠ b := fun e => hz (by rw [e]; exact hb)
   exact ⟨pupd_ne this, by simpa [newL, fpSeg, fpV] using this⟩
  (repeat' apply And.intro) <;> first | with_reducible (first | rfl | trivial | assumption) | omega | with_reducible (first | exact RowsEq.refl _ _ _ | exact Nat.le_refl _) | (dsimp only [List.length_cons, List.length_nil] <;> omega) | exact g0_at H b | exact hz | rfl
 ·rintro ⟨i, X, Y⟩ ⟨hi, hX, hfr⟩
  dsimp only at *
  obtain ⟨v1, v2, v3⟩ := rdTo_inv ok ⟨h6, h7⟩ i hi
  refine ⟨fun c1 => ?_, fun c1 => ?_⟩
  ·have hi8 : i < 8 := by have := of_decide_eq_true c1; omega
   obtain ⟨F, hF⟩ : ∃ F, F = secF L d k i := ⟨_, rfl⟩
   have hok := ok.run i hi8
   have hus := ok.used i hi8
   have hstep : rdTo L d k (i + 1) = rdStep (rdTo L d k i) i F := by rw [hF]; rfl
   have hdn : d.now (L.from_ + k * 8 + i) = F := by rw [hF]; rfl
   rw [← hF] at hok hus
   obtain ⟨R, hR⟩ : ∃ R, R = rdTo L d k i := ⟨_, rfl⟩
   rw [← hR] at hX v1 v2 v3 hus ⊢
   have e10 : getTo (fun i => u8 (rowsB F) (10 + i)) 4 = gB F 10 4 := rfl
   intro _
   refine ⟨by simp only [InR]; omega, by simp only [InR]; omega, by simp only [InR]; omega, RdA.mk d (L.from_ + k * 8 + i), ?_⟩
   have hin : L.from_ + k * 8 + i < d.n := by omega
   (repeat' apply And.intro) <;> first | with_reducible (first | rfl | trivial | assumption) | omega | with_reducible (first | exact RowsEq.refl _ _ _ | exact Nat.le_refl _) | (dsimp only [List.length_cons, List.length_nil] <;> omega) | skip
   intro cap hcap
   refine ⟨fun e => (by cases e), fun _ _ => ?_⟩
   repeat (first | refine And.intro (by omega) ?_ | refine And.intro (by dsimp only; omega) ?_ | refine And.intro (by simp only [InR]; omega) ?_)
   refine ⟨GetA.mk 10 4 (cap - 10) 64 (rowsB F), ?_⟩
   simp only [hdn]
   (repeat' apply And.intro) <;> first | with_reducible (first | rfl | trivial | assumption) | omega | with_reducible (first | exact RowsEq.refl _ _ _ | exact Nat.le_refl _) | (dsimp only [List.length_cons, List.length_nil] <;> omega) | skip
   intro _ _
   simp only [e10, cond_true]
   refine ⟨by simp only [InR]; omega, fun c2 => ⟨TakeA.mk X Y R.g i F cap, ?_⟩, fun c2 => ⟨fun c3 => ?_, fun c3 => ?_⟩⟩
   ·have hsz : R.g.buf.length ≤ 378 := by unfold startS at v2; omega
    (repeat' apply And.intro) <;> first | with_reducible (first | rfl | trivial | assumption) | omega | with_reducible (first | exact RowsEq.refl _ _ _ | exact Nat.le_refl _) | (dsimp only [List.length_cons, List.length_nil] <;> omega) | exact hX | exact hus c2 | skip
    rintro ⟨X1, Y1⟩ ⟨t1, t2, t3, t4⟩
    dsimp only at *
    have f1 : ∀ z, H z ≠ none → X1 z = H z ∧ ¬ z ∈ fpSeg Y1 := fun z hz => by
     obtain ⟨a1, a2⟩ := hfr z hz
     obtain ⟨b1, b2⟩ := t4 z (by rw [a1]; exact hz) a2
     exact ⟨b1.trans a1, b2⟩
    refine ⟨fun c3 => ⟨fun c4 => ?_, fun c4 => ?_⟩, fun c3 => ?_⟩
    ·have hg : (rdStep R i F).g = { takeM R.g i F with gen := 0 } := by
      have : takeB R.g i F = false := by simpa using c3
      have hi0 : i = 0 := by simpa using c4
      subst hi0
      simp [rdStep, c2, this]
     obtain ⟨q1, q2⟩ := t1.gen0
     refine ⟨_, _, rfl, _, _, rfl, Y1.b, 0, 0, _, by rw [t2], t1.at_.cell, by simp [segC], by simp only [InR]; omega, ⟨i + 1, pupd X1 Y1.b 0 (segC { takeM R.g i F with gen := 0 } Y1.bv Y1.rv), Y1⟩, ?_⟩
     rw [hstep, ← hR]
     have f2 : ∀ z, H z ≠ none → pupd X1 Y1.b 0 (segC { takeM R.g i F with gen := 0 } Y1.bv Y1.rv) z = H z ∧ ¬ z ∈ fpSeg Y1 := fun z hz => by
      obtain ⟨a1, a2⟩ := f1 z hz
      obtain ⟨b1, b2⟩ := q2 z (by rw [a1]; exact hz) a2
      exact ⟨b1.trans a1, b2⟩
     rw [hg]
     (repeat' apply And.intro) <;> first | with_reducible (first | rfl | trivial | assumption) | omega | with_reducible (first | exact RowsEq.refl _ _ _ | exact Nat.le_refl _) | (dsimp only [List.length_cons, List.length_nil] <;> omega) | exact q1 | exact f2 | (rw [t2]; done) | (simp [rdStep, c2]; done) | rfl | skip
    ·have hg : (rdStep R i F).g = takeM R.g i F := by
      have hi0 : i ≠ 0 := by simpa using c4
      simp [rdStep, c2, hi0]
     refine ⟨by simp only [InR]; omega, ⟨i + 1, X1, Y1⟩, ?_⟩
     rw [hstep, ← hR, hg]
     (repeat' apply And.intro) <;> first | with_reducible (first | rfl | trivial | assumption) | omega | with_reducible (first | exact RowsEq.refl _ _ _ | exact Nat.le_refl _) | (dsimp only [List.length_cons, List.length_nil] <;> omega) | exact t1 | exact f1 | (rw [t2]; done) | (simp [rdStep, c2]; done) | rfl | skip
    ·have hg : (rdStep R i F).g = takeM R.g i F := by
      have : takeB R.g i F = true := by simpa using c3
      simp [rdStep, c2, this]
     refine ⟨by simp only [InR]; omega, ⟨i + 1, X1, Y1⟩, ?_⟩
     rw [hstep, ← hR, hg]
     (repeat' apply And.intro) <;> first | with_reducible (first | rfl | trivial | assumption) | omega | with_reducible (first | exact RowsEq.refl _ _ _ | exact Nat.le_refl _) | (dsimp only [List.length_cons, List.length_nil] <;> omega) | exact t1 | exact f1 | (rw [t2]; done) | (simp [rdStep, c2]; done) | rfl | skip
   ·have hg : (rdStep R i F).g = { R.g with gen := 0 } := by
     have hi0 : i = 0 := by simpa using c3
     subst hi0
     simp [rdStep, c2]
    obtain ⟨q1, q2⟩ := hX.gen0
    refine ⟨_, _, rfl, _, _, rfl, Y.b, 0, 0, _, rfl, hX.at_.cell, by simp [segC], by simp only [InR]; omega, ⟨i + 1, pupd X Y.b 0 (segC { R.g with gen := 0 } Y.bv Y.rv), Y⟩, ?_⟩
    rw [hstep, ← hR]
    have f2 : ∀ z, H z ≠ none → pupd X Y.b 0 (segC { R.g with gen := 0 } Y.bv Y.rv) z = H z ∧ ¬ z ∈ fpSeg Y := fun z hz => by
     obtain ⟨a1, a2⟩ := hfr z hz
     obtain ⟨b1, b2⟩ := q2 z (by rw [a1]; exact hz) a2
     exact ⟨b1.trans a1, b2⟩
    rw [hg]
    (repeat' apply And.intro) <;> first | with_reducible (first | rfl | trivial | assumption) | omega | with_reducible (first | exact RowsEq.refl _ _ _ | exact Nat.le_refl _) | (dsimp only [List.length_cons, List.length_nil] <;> omega) | exact q1 | exact f2 | (simp [rdStep, c2]; done) | rfl | skip
   ·have hg : (rdStep R i F).g = R.g := by
     have hi0 : i ≠ 0 := by simpa using c3
     simp [rdStep, c2, hi0]
    refine ⟨by simp only [InR]; omega, ⟨i + 1, X, Y⟩, ?_⟩
    rw [hstep, ← hR, hg]
    (repeat' apply And.intro) <;> first | with_reducible (first | rfl | trivial | assumption) | omega | with_reducible (first | exact RowsEq.refl _ _ _ | exact Nat.le_refl _) | (dsimp only [List.length_cons, List.length_nil] <;> omega) | exact hX | exact hfr | (simp [rdStep, c2]; done) | rfl | skip
  ·have hi8 : i = 8 := by have := of_decide_eq_false c1; omega
   subst hi8
   obtain ⟨r1, r2, r3⟩ := hX.at_.rng
   have hcell := hX.at_.cell
   obtain ⟨R, hR⟩ : ∃ R, R = rdTo L d k 8 := ⟨_, rfl⟩
   rw [← hR] at hX v1 v2 v3 r1 hcell ⊢
   have hseg : segOf L d k = if R.g.gen < 1 ∨ (R.g.gen - 1).tmod L.segs ≠ k then none else some (recsM R.g) := by rw [hR]; rfl
   have fnone : segOf L d k = none → rsPost H ⟨X, Y, .pointer none⟩ (segOf L d k) := fun e => by
    rw [e]; exact ⟨rfl, fun z hz => (hfr z hz).1⟩
   refine ⟨_, _, rfl, ?_⟩
   refine ⟨_, _, rfl, ?_⟩
   refine ⟨_, 0, _, _, rfl, hcell, ?_⟩
   refine ⟨⟨⟨_, rfl, _, rfl, r1⟩, trivial⟩, fun _ => ?_⟩
   simp only [segC, List.getD_cons_zero, toI]
   refine ⟨fun c2 => ⟨⟨X, Y, .pointer none⟩, ?_⟩, fun c2 => ?_⟩
   ·have c2 := of_decide_eq_true c2
    have hno : segOf L d k = none := by rw [hseg, if_pos (.inl c2)]
    (repeat' apply And.intro) <;> first | with_reducible (first | rfl | trivial | assumption) | omega | with_reducible (first | exact RowsEq.refl _ _ _ | exact Nat.le_refl _) | (dsimp only [List.length_cons, List.length_nil] <;> omega) | exact fnone hno | rfl
   ·have c2 := of_decide_eq_false c2
    refine ⟨_, _, rfl, ?_⟩
    refine ⟨_, _, rfl, ?_⟩
    refine ⟨_, 0, _, _, rfl, hcell, ?_⟩
    refine ⟨⟨⟨_, rfl, _, rfl, r1⟩, trivial⟩, fun _ => ?_⟩
    simp only [segC, List.getD_cons_zero, toI]
    refine ⟨by simp only [InR] at *; omega, fun _ => ⟨by omega, fun c3 => ⟨⟨X, Y, .pointer none⟩, ?_⟩, fun c3 => ?_⟩⟩
    ·have c3 : (R.g.gen - 1).tmod L.segs ≠ k := by simpa using c3
     have hno : segOf L d k = none := by rw [hseg, if_pos (.inr c3)]
     (repeat' apply And.intro) <;> first | with_reducible (first | rfl | trivial | assumption) | omega | with_reducible (first | exact RowsEq.refl _ _ _ | exact Nat.le_refl _) | (dsimp only [List.length_cons, List.length_nil] <;> omega) | exact fnone hno | rfl
    ·have c3 : (R.g.gen - 1).tmod L.segs = k := by simpa using c3
     have hyes : segOf L d k = some (recsM R.g) := by rw [hseg, if_neg (by rintro (e | e) <;> omega)]
     refine ⟨RecsA.mk X Y R.g, ?_⟩
     have hsz : R.g.buf.length ≤ 378 := v2
     (repeat' apply And.intro) <;> first | with_reducible (first | rfl | trivial | assumption) | omega | with_reducible (first | exact RowsEq.refl _ _ _ | exact Nat.le_refl _) | (dsimp only [List.length_cons, List.length_nil] <;> omega) | exact hX | exact v1 | skip
     rintro ⟨X1, Y1⟩ ⟨t1, t2, t3⟩
     dsimp only at *
     have f1 : ∀ z, H z ≠ none → X1 z = H z ∧ ¬ z ∈ fpSeg Y1 := fun z hz => by
      obtain ⟨a1, a2⟩ := hfr z hz
      obtain ⟨b1, b2⟩ := t3 z (by rw [a1]; exact hz) a2
      exact ⟨b1.trans a1, b2⟩
     refine ⟨⟨X1, Y1, pv Y.b 0⟩, ?_⟩
     rw [hyes]
     have hp : rsPost H ⟨X1, Y1, pv Y.b 0⟩ (some (recsM R.g)) := ⟨by rw [t2], t1, f1⟩
     (repeat' apply And.intro) <;> first | with_reducible (first | rfl | trivial | assumption) | omega | with_reducible (first | exact RowsEq.refl _ _ _ | exact Nat.le_refl _) | (dsimp only [List.length_cons, List.length_nil] <;> omega) | exact t1 | exact f1 | (show pv Y.b 0 = pv Y1.b 0; rw [t2]) | rfl)
theorem callReadS : CallsBy (Y Tryz.prog).G.X 50 cReadS := fn_ok okY (tab := [(69, cDevRead), (70, cGet), (71, cTake), (72, cRecords)]) ⟨callDevRead, callGet, callTake, callRecords, trivial⟩ bodyReadS

end Go.Proofs.YtfobhkibkdmglaaGreat

namespace Go.Proofs.YtfobhkibkdmglaaGreat
open Go.Sx
set_option maxRecDepth 100000
set_option linter.unusedVariables false
set_option linter.unusedSimpArgs false

noncomputable def cLenZ (n : Int) : Con where
 α := Unit
 β := Unit
 m := 0
 m' := 0
 pre := fun _ => True
 args := fun a => [.a (.lit .u64 n)]
 hp := fun _ => []
 ro := fun _ => []
 post := fun _ _ => True
 res := fun _ b => .a (.lit .i64 n)
 hp' := fun _ _ => []
set_option maxHeartbeats 4000000 in
theorem bodyLen0 : fnBody (Yf Tryz.prog) [] 74 (cLenZ 0) fun _ => [] := fnBody.of (p :=
 ∀ a : Unit, True → ∃ b : Unit, (0 : Int) = 0 ∧ True ∧ True) (by kernel_rfl) (by
 exact fun _ _ => ⟨(), rfl, trivial, trivial⟩)
set_option maxHeartbeats 4000000 in
theorem bodyLen1 : fnBody (Yf Tryz.prog) [] 74 (cLenZ 1) fun _ => [] := fnBody.of (p :=
 ∀ a : Unit, True → ∃ b : Unit, (1 : Int) = 1 ∧ True ∧ True) (by kernel_rfl) (by
 exact fun _ _ => ⟨(), rfl, trivial, trivial⟩)
noncomputable def cLenU : Con where
 α := Int
 β := Unit
 m := 0
 m' := 0
 pre := fun a => a = 0 ∨ a = 1
 args := fun a => [.a (.int .u64 a)]
 hp := fun _ => []
 ro := fun _ => []
 post := fun _ _ => True
 res := fun a _ => .a (.int .i64 a)
 hp' := fun _ _ => []
theorem semLen (n : Int) (h : fnBody (Yf Tryz.prog) [] 74 (cLenZ n) fun _ => []) : ConSem (Yf Tryz.prog).G.X (cLenZ n) 74 := con_sem okYf (fun _ => CHof_ok okYf (tab := []) trivial) h.body
theorem semLenU : ConSem (Y Tryz.prog).G.X cLenU 74 := by
 intro a ha M ρ w vs hn hh hargs
 rcases ha with rfl | rfl
 ·exact semLen 0 bodyLen0 () trivial M ρ w vs hn hh hargs
 ·exact semLen 1 bodyLen1 () trivial M ρ w vs hn hh hargs
theorem callLenU : CallsBy (Y Tryz.prog).G.X 74 cLenU := fun _ _ _ h => con_okS semLenU h
noncomputable def cNev (k : Nat) : Con where
 α := Unit
 β := Unit
 m := 0
 m' := 0
 pre := fun _ => False
 args := fun _ => List.replicate k (.a .any)
 hp := fun _ => []
 ro := fun _ => []
 post := fun _ _ => True
 res := fun _ _ => .a .any
 hp' := fun _ _ => []
theorem callNev (k f : Nat) : CallsBy (Y Tryz.prog).G.X f (cNev k) := fn_ok okY (tab := []) trivial (l := fun _ => []) ⟨fun a h => False.elim h⟩
structure OneA where
 v : Value
 n : Nat
def isOne (v : Value) (n : Nat) : Prop := n ≤ 1 ∧ (∃ a c, v = .slice a n c) ∧ v.oneCell' = true
noncomputable def cIns1 : Con where
 α := OneA
 β := Unit
 m := 0
 m' := 0
 pre := fun a => isOne a.v a.n
 args := fun a => [.a (.val a.v), .a (.int .i64 0), .a (.int .i64 a.n), .a (.fn 52)]
 hp := fun _ => []
 ro := fun _ => []
 post := fun _ _ => True
 res := fun _ _ => .tup []
 hp' := fun _ _ => []
def iInsN : An := .flat 4 Unit (fun s _ => s) (fun _ _ => False) (fun _ _ => 0)
def iIns1 (a : OneA) : An := .mk 1 Unit (fun s _ => s) (fun _ _ => True) (fun _ _ => 0) fun _ => .mk 60 [iInsN] []
set_option maxHeartbeats 4000000 in
theorem bodyIns1 : fnBody (Y Tryz.prog) [] 89 cIns1 fun a => [(89, [iIns1 a], [])] := fnBody.of (p :=
 ∀ a : OneA, isOne a.v a.n → InR .i64 (1 : Int) ∧ (∃ a_2 : Unit, (1 : Int) = 1 ∧ a.v = a.v ∧ (0 : Int) = 0 ∧ (↑a.n : Int) = (↑a.n : Int) ∧ True ∧ True) ∧ ∀ a_2 : Unit, True → (decide (1 < (↑a.n : Int)) = true → (∃ a_5 : Unit, (1 : Int) = 1 ∧ decide (1 < (↑a.n : Int)) = decide (1 < (↑a.n : Int)) ∧ (1 : Int) = 1 ∧ a.v = a.v ∧ (0 : Int) = 0 ∧ (↑a.n : Int) = (↑a.n : Int) ∧ False ∧ True) ∧ ∀ a_5 : Unit, False → (true = true → ∃ b o : Nat, ∃ l c : Nat, a.v = slv b o l c ∧ ((0 : Int) ≤ 1 ∧ 1 < (↑l : Int)) ∧ False) ∧ (true = false → InR .i64 (2 : Int) ∧ ∃ (a' : Unit), (2 : Int) = 1 ∧ a.v = a.v ∧ (0 : Int) = 0 ∧ (↑a.n : Int) = (↑a.n : Int) ∧ True ∧ 0 < 0)) ∧ (decide (1 < (↑a.n : Int)) = false → ∃ b : Unit, True ∧ True)) (by kernel_rfl) (by
 rintro ⟨v, n⟩ ⟨h1, _⟩
 dsimp only at *
 refine ⟨by simp only [InR]; omega, ⟨(), ?_⟩, fun _ _ => ⟨fun c1 => ?_, fun _ => ⟨(), trivial, trivial⟩⟩⟩
 ·(repeat' apply And.intro) <;> first | trivial | rfl
 ·exfalso; have := of_decide_eq_true c1; omega)
theorem callIns1 : CallsBy (Y Tryz.prog).G.X 89 cIns1 := fn_ok okY (tab := []) trivial bodyIns1
noncomputable def cSort1 : Con where
 α := OneA
 β := Unit
 m := 0
 m' := 0
 pre := fun a => isOne a.v a.n
 args := fun a => [.a (.val a.v), .a (.fn 52)]
 hp := fun _ => []
 ro := fun _ => []
 post := fun _ _ => True
 res := fun _ _ => .tup []
 hp' := fun _ _ => []
noncomputable def tabSort1 : List (Nat × Con) := [(74, cLenU), (89, cIns1), (90, cNev 4), (91, cNev 4), (92, cNev 4)]
def iSort1 : An := .flat 2 Unit (fun s _ => s) (fun _ _ => True) (fun _ _ => 0)
set_option maxHeartbeats 4000000 in
theorem bodySort1 : fnBody (Y Tryz.prog) tabSort1 51 cSort1 fun a => [(73, [iSort1], [])] := fnBody.of (p :=
 ∀ a : OneA, isOne a.v a.n → (∃ a_2 : Option Go.Addr, ∃ l c : Nat, a.v = Value.slice a_2 l c ∧ l ≤ lenMax) ∧ ∃ a_2 : Int, uw .u64 (↑(slLen a.v) : Int) = a_2 ∧ (a_2 = (0 : Int) ∨ a_2 = (1 : Int)) ∧ ∀ b : Unit, True → (∃ a_4 : Unit, true = true ∧ true = true ∧ a.v = a.v ∧ (0 : Int) = 0 ∧ (↑(slLen a.v) : Int) = (↑(slLen a.v) : Int) ∧ a_2 = a_2 ∧ True ∧ True) ∧ ∀ a_4 : Unit, True → InR .i64 ((↑(slLen a.v) : Int) - 0) ∧ (decide ((↑(slLen a.v) : Int) - 0 ≤ (12 : Int)) = true → ∃ a_7 : OneA, a.v = a_7.v ∧ (0 : Int) = 0 ∧ (↑(slLen a.v) : Int) = (↑a_7.n : Int) ∧ isOne a_7.v a_7.n ∧ ∀ b : Unit, True → ∃ b : Unit, True ∧ True) ∧ (decide ((↑(slLen a.v) : Int) - 0 ≤ (12 : Int)) = false → ((a_2 == (0 : Int)) = true → ∃ a : Unit, False ∧ ∀ b : Unit, True → ∃ b : Unit, True ∧ True) ∧ ((a_2 == (0 : Int)) = false → ∃ a : Unit, False ∧ ∀ b : Unit, True → False))) (by kernel_rfl) (by
 rintro ⟨v, n⟩ ⟨h1, ⟨ba, c, h2⟩, h3⟩
 dsimp only at h1 h2 h3
 subst h2
 have hl : slLen (.slice ba n c) = n := rfl
 dsimp only at *
 rw [hl]
 have e1 : uw .u64 (n : Int) = n := by simp only [uw]; omega
 refine ⟨⟨_, _, _, rfl, by simp only [lenMax]; omega⟩, n, e1, by omega, fun _ _ => ⟨⟨(), ?_⟩, fun _ _ => ⟨by simp only [InR]; omega, fun c1 => ⟨⟨.slice ba n c, n⟩, ?_⟩, fun c1 => ?_⟩⟩⟩
 ·(repeat' apply And.intro) <;> first | trivial | rfl
 ·have hp : isOne (.slice ba n c) n := ⟨h1, ⟨_, _, rfl⟩, h3⟩
  (repeat' (first | apply And.intro | (intro _) | apply Exists.intro ())) <;> first | trivial | rfl | omega | exact h1 | exact h3 | exact ⟨_, _, rfl⟩
 ·exfalso; have := of_decide_eq_false c1; omega)
theorem callSort1 : CallsBy (Y Tryz.prog).G.X 51 cSort1 := fn_ok okY (tab := tabSort1) ⟨callLenU, callIns1, callNev _ _, callNev _ _, callNev _ _, trivial⟩ bodySort1
structure DelOA where
 H : PH
 y : LogL
 L : LogM
 gb : Nat
 t : Int
 s : Int
noncomputable def cNoDelO : Con where
 α := DelOA
 β := Unit
 m := 3
 m' := 3
 pre := fun a => LogAt a.H a.y a.L ∧ a.L.l.length < 1000 ∧ 0 ≤ a.s ∧ a.s ≤ 1000 ∧ InR .i64 a.t ∧ 0 ≤ a.t ∧ (∃ r, a.H a.gb = some (0, .int .i64 a.t :: r)) ∧ ∀ i, i < a.L.l.length → a.t - a.s < (gl a.L.l i).gen
 args := fun a => [.a (.val a.y.lv), .clo 54 [.ptr 0 0 0 0, .ptr 1 0 0 0]]
 hp := fun _ => []
 ro := fun a => [(0, .obj 101 [.val (pv a.gb 0)]), (1, .obj 3 [.int .i64 a.s]), (2, .pool a.H)]
 post := fun _ _ => True
 res := fun a _ => .a (.val a.y.lv)
 hp' := fun _ _ => []
noncomputable def cIdxNoO : Con where
 α := DelOA
 β := Unit
 m := 3
 m' := 3
 pre := cNoDelO.pre
 args := cNoDelO.args
 hp := fun _ => []
 ro := cNoDelO.ro
 post := fun _ _ => True
 res := fun a _ => .a (.lit .i64 (-1))
 hp' := fun _ _ => []
def iNoDelO (a : DelOA) : An := .flat 2 Nat (fun s k => s.int 8 k) (fun _ k => k ≤ a.L.l.length) (fun _ k => a.L.l.length - k)
set_option maxHeartbeats 4000000 in
theorem bodyIdxNoO : fnBody (Y Tryz.prog) [] 75 cIdxNoO fun a => [(75, [iNoDelO a], [])] := fnBody.of (p :=
 ∀ a : DelOA, (LogAt a.H a.y a.L ∧ a.L.l.length < 1000 ∧ (0 : Int) ≤ a.s ∧ a.s ≤ (1000 : Int) ∧ InR .i64 a.t ∧ (0 : Int) ≤ a.t ∧ (∃ r : List Value, a.H a.gb = some (0, Value.int IntKind.i64 a.t :: r)) ∧ ∀ i : Nat, i < a.L.l.length → a.t - a.s < (gl a.L.l i).gen) → (∃ a_2 : Option Go.Addr, ∃ l c : Nat, a.y.lv = Value.slice a_2 l c ∧ l ≤ lenMax) ∧ (∃ a_2 : Nat, 0 = (↑a_2 : Int) ∧ (↑(slLen a.y.lv) : Int) = (↑(slLen a.y.lv) : Int) ∧ (0 : Int) = 0 ∧ a.y.lv = a.y.lv ∧ 0 = 0 ∧ 0 = 0 ∧ pv a.gb 0 = pv a.gb 0 ∧ a.s = a.s ∧ a.H = a.H ∧ a_2 ≤ a.L.l.length ∧ True) ∧ ∀ a_2 : Nat, a_2 ≤ a.L.l.length → (decide ((↑a_2 : Int) < (↑(slLen a.y.lv) : Int)) = true → ∃ b o : Nat, ∃ l c : Nat, a.y.lv = slv b o l c ∧ (0 ≤ (↑a_2 : Int) ∧ (↑a_2 : Int) < (↑l : Int)) ∧ ∃ b_1 lo o_1 : Nat, ∃ cs : List Value, pv b (o + (↑a_2 : Int).toNat * 1) = pv b_1 (lo + o_1) ∧ a.H b_1 = some (lo, cs) ∧ ((∃ v : Value, cs[o_1]? = some v ∧ v.oneCell' = true) ∧ True) ∧ ∃ b o : Nat, cs.getD o_1 (Value.tuple #[]) = pv b o ∧ ∃ b_2 o_2 : Nat, pv b o = pv b_2 o_2 ∧ ∃ b lo o : Nat, ∃ cs : List Value, pv b_2 (o_2 + 0) = pv b (lo + o) ∧ a.H b = some (lo, cs) ∧ ((∃ v : Value, cs[o]? = some v ∧ ∃ n : Int, v = Value.int IntKind.i64 n ∧ InR .i64 n) ∧ True) ∧ (InR .i64 (toI (cs.getD o (Value.tuple #[]))) → ∃ b o_3 : Nat, pv a.gb 0 = pv b o_3 ∧ ∃ b_3 o_4 : Nat, pv b o_3 = pv b_3 o_4 ∧ ∃ b lo o_5 : Nat, ∃ cs_1 : List Value, pv b_3 (o_4 + 0) = pv b (lo + o_5) ∧ a.H b = some (lo, cs_1) ∧ ((∃ v : Value, cs_1[o_5]? = some v ∧ ∃ n : Int, v = Value.int IntKind.i64 n ∧ 
 InR .i64 n) ∧ True) ∧ (InR .i64 (toI (cs_1.getD o_5 (Value.tuple #[]))) → InR .i64 a.s → InR .i64 (toI (cs_1.getD o_5 (Value.tuple #[])) - a.s) ∧ (decide (toI (cs.getD o (Value.tuple #[])) ≤ toI (cs_1.getD o_5 (Value.tuple #[])) - a.s) = true → ∃ b : Unit, (↑a_2 : Int) = (-1 : Int) ∧ True ∧ True) ∧ (decide (toI (cs.getD o (Value.tuple #[])) ≤ toI (cs_1.getD o_5 (Value.tuple #[])) - a.s) = false → InR .i64 ((↑a_2 : Int) + 1) ∧ ∃ (a' : Nat), (↑a_2 : Int) + 1 = (↑a' : Int) ∧ (↑(slLen a.y.lv) : Int) = (↑(slLen a.y.lv) : Int) ∧ (0 : Int) = 0 ∧ a.y.lv = a.y.lv ∧ 0 = 0 ∧ 0 = 0 ∧ pv a.gb 0 = pv a.gb 0 ∧ a.s = a.s ∧ a.H = a.H ∧ a' ≤ a.L.l.length ∧ a.L.l.length - a' < a.L.l.length - a_2)))) ∧ (decide ((↑a_2 : Int) < (↑(slLen a.y.lv) : Int)) = false → ∃ b : Unit, (-1 : Int) = (-1 : Int) ∧ True ∧ True)) (by kernel_rfl) (by
 rintro ⟨H, y, L, gb, T, S⟩ ⟨hl, h1, h2, h2', h3, h4, ⟨gr, hgb⟩, h5⟩
 dsimp only at *
 obtain ⟨e1, _, ⟨ea, ec, e2⟩, e3, _⟩ := hl.lv_len
 refine ⟨⟨ea, _, ec, e2, e3⟩, ⟨0, ?_⟩, fun k hk => ⟨fun c1 => ?_, fun c1 => ⟨(), ?_⟩⟩⟩
 ·(repeat' apply And.intro) <;> first | with_reducible (first | rfl | trivial | assumption) | omega | with_reducible (first | exact RowsEq.refl _ _ _ | exact Nat.le_refl _) | (dsimp only [List.length_cons, List.length_nil] <;> omega)
 ·rw [e1] at c1
  have hk : k < L.l.length := by simpa using c1
  obtain ⟨b, lo, o, c, cs, g1, g2, g3, g4⟩ := hl.at_ hk
  have hs := hl.seg k hk
  obtain ⟨r1, _, _⟩ := hs.rng
  refine ⟨_, _, _, _, g1, by omega, b, lo, o + k * 1, cs, by rw [Int.toNat_natCast, Nat.add_assoc], g2, ⟨⟨_, g3, rfl⟩, trivial⟩, ?_⟩
  refine ⟨_, _, g4, ?_⟩
  refine ⟨_, _, rfl, ?_⟩
  refine ⟨_, 0, _, _, rfl, hs.cell, ?_⟩
  refine ⟨⟨⟨_, rfl, _, rfl, r1⟩, trivial⟩, fun _ => ?_⟩
  refine ⟨_, _, rfl, ?_⟩
  refine ⟨_, _, rfl, ?_⟩
  refine ⟨_, 0, _, _, rfl, hgb, ?_⟩
  refine ⟨⟨⟨_, rfl, _, rfl, h3⟩, trivial⟩, fun _ _ => ?_⟩
  simp only [segC, List.getD_cons_zero, toI, InR] at h3 ⊢
  have h6 := h5 k hk
  refine ⟨by omega, fun c2 => ?_, fun c2 => ⟨by omega, k + 1, ?_⟩⟩
  ·exfalso; simp at c2; omega
  ·(repeat' apply And.intro) <;> first | with_reducible (first | rfl | trivial | assumption) | omega | with_reducible (first | exact RowsEq.refl _ _ _ | exact Nat.le_refl _) | (dsimp only [List.length_cons, List.length_nil] <;> omega)
 ·(repeat' apply And.intro) <;> first | with_reducible (first | rfl | trivial | assumption) | omega | with_reducible (first | exact RowsEq.refl _ _ _ | exact Nat.le_refl _) | (dsimp only [List.length_cons, List.length_nil] <;> omega))
theorem callIdxNoO : CallsBy (Y Tryz.prog).G.X 75 cIdxNoO := fn_ok okY (tab := []) trivial bodyIdxNoO
set_option maxHeartbeats 4000000 in
theorem bodyNoDelO : fnBody (Y Tryz.prog) [(75, cIdxNoO)] 53 cNoDelO fun a => [] := fnBody.of (p :=
 ∀ a : DelOA, (LogAt a.H a.y a.L ∧ a.L.l.length < 1000 ∧ (0 : Int) ≤ a.s ∧ a.s ≤ (1000 : Int) ∧ InR .i64 a.t ∧ (0 : Int) ≤ a.t ∧ (∃ r : List Value, a.H a.gb = some (0, Value.int IntKind.i64 a.t :: r)) ∧ ∀ i : Nat, i < a.L.l.length → a.t - a.s < (gl a.L.l i).gen) → ∃ a_2 : DelOA, a.y.lv = a_2.y.lv ∧ 0 = 0 ∧ 0 = 0 ∧ pv a.gb 0 = pv a_2.gb 0 ∧ a.s = a_2.s ∧ a.H = a_2.H ∧ (LogAt a_2.H a_2.y a_2.L ∧ a_2.L.l.length < 1000 ∧ (0 : Int) ≤ a_2.s ∧ a_2.s ≤ (1000 : Int) ∧ InR .i64 a_2.t ∧ (0 : Int) ≤ a_2.t ∧ (∃ r : List Value, a_2.H a_2.gb = some (0, Value.int IntKind.i64 a_2.t :: r)) ∧ ∀ i : Nat, i < a_2.L.l.length → a_2.t - a_2.s < (gl a_2.L.l i).gen) ∧ ∀ b : Unit, True → ∃ b : Unit, a.y.lv = a.y.lv ∧ True ∧ True) (by kernel_rfl) (by
 intro a h
 refine ⟨a, ?_⟩
 obtain ⟨h1, h2, h3, h4, h5, h6, h7, h8⟩ := h
 (repeat' (first | apply And.intro | (intro _) | apply Exists.intro ())) <;> first | with_reducible (first | rfl | trivial | assumption) | omega | with_reducible (first | exact RowsEq.refl _ _ _ | exact Nat.le_refl _) | (dsimp only [List.length_cons, List.length_nil] <;> omega) | exact h7 | exact h5.2 | exact h5.1 | exact h8 _ (by assumption))
theorem callNoDelO : CallsBy (Y Tryz.prog).G.X 53 cNoDelO := fn_ok okY (tab := [(75, cIdxNoO)]) ⟨callIdxNoO, trivial⟩ bodyNoDelO

end Go.Proofs.YtfobhkibkdmglaaGreat

namespace Go.Proofs.YtfobhkibkdmglaaGreat
open Go.Sx
set_option maxRecDepth 100000
set_option linter.unusedVariables false
set_option linter.unusedSimpArgs false

def opL (from_ segs : Nat) (d : DevM) : Nat → LogM
 | 0 => ⟨from_, segs, [], 1, 1, true⟩
 | k + 1 => { opL from_ segs d k with l := (opL from_ segs d k).l ++ (segOf (opL from_ segs d k) d k).toList, run := (rdTo (opL from_ segs d k) d k 8).run }
def nextOf (l : List SegM) : Int := match l.getLast? with
 | none => 1
 | some g => match g.recs.getLast? with
  | none => g.base + 64
  | some r => r.pos + 65
def openM (from_ segs : Nat) (d : DevM) : LogM := { opL from_ segs d segs with next := nextOf (opL from_ segs d segs).l }
structure OpenOk (from_ segs : Nat) (d : DevM) : Prop where
 few : 3 ≤ segs ∧ segs ≤ 200
 room : from_ + segs * 8 ≤ d.n
 size : d.n < 100000
 rd : ∀ k, k < segs → RdOk (opL from_ segs d k) d k
 one : (opL from_ segs d segs).l.length ≤ 1
 rng : ∀ i, i < (opL from_ segs d segs).l.length → 1 ≤ (gl (opL from_ segs d segs).l i).gen ∧ 0 ≤ (gl (opL from_ segs d segs).l i).base ∧ (gl (opL from_ segs d segs).l i).base < 100000000000 ∧
  ∀ j, j < (gl (opL from_ segs d segs).l i).recs.length → 0 ≤ (gl (gl (opL from_ segs d segs).l i).recs j).pos ∧ (gl (gl (opL from_ segs d segs).l i).recs j).pos < 100000000000
theorem opL_same (from_ segs : Nat) (d : DevM) : ∀ k, (opL from_ segs d k).from_ = from_ ∧ (opL from_ segs d k).segs = segs ∧ (opL from_ segs d k).next = 1 ∧ (opL from_ segs d k).fresh = true
 | 0 => ⟨rfl, rfl, rfl, rfl⟩
 | k + 1 => opL_same from_ segs d k
theorem opL_run {from_ segs : Nat} {d : DevM} (h : OpenOk from_ segs d) : ∀ k, k ≤ segs → 0 ≤ (opL from_ segs d k).run ∧ (opL from_ segs d k).run < 200000000000
 | 0, _ => ⟨by simp [opL], by simp [opL]⟩
 | k + 1, hk => (rdTo_inv (h.rd k (by omega)) (opL_run h k (by omega)) 8 (Nat.le_refl _)).run
theorem push_at {H : PH} {y : LogL} {L : LogM} {sl : SegL} {g : SegM} {b' lo cap : Nat} {cs : List Value} {R : Nat → Nat → Value} (hl : LogAt H y L) (hs : SegNd H sl g) (hd : ∀ x ∈ fpLog y, x ∉ fpSeg sl)
 (hb' : pminusV H y.lv b' = none) (hcs : cs.length = cap * 1) (hc : L.l.length + 1 ≤ cap) (hc2 : cap ≤ lenMax) (hp : PRows cs 0 [.deep] (L.l.length + 1) R)
 (hR : ∀ i, i < L.l.length + 1 → R i 0 = ptrR (y.ys ++ [sl]) i 0) {L' : LogM} (hL' : L'.l = L.l ++ [g]) :
 LogAt (pupd (pminusV H y.lv) b' lo cs) ⟨slv b' lo (L.l.length + 1) cap, y.ys ++ [sl]⟩ L' ∧
 ∀ x, H x ≠ none → x ∉ fpLog y → x ∉ fpSeg sl → pupd (pminusV H y.lv) b' lo cs x = H x ∧ x ∉ fpLog ⟨slv b' lo (L.l.length + 1) cap, y.ys ++ [sl]⟩ := by
 have hdm := hl.dom
 have hds := hs.at_.dom
 have hnd := hl.nd
 rw [List.nodup_append] at hnd
 obtain ⟨n1, n2, n3⟩ := hnd
 have hFl : ∀ x ∈ y.ys.flatMap fpSeg, x ∉ fpV y.lv := fun x hx e => n3 x e x hx rfl
 have hSl : ∀ x ∈ fpSeg sl, x ∉ fpV y.lv := fun x hx e => hd x (List.mem_append_left _ e) hx
 have hSF : ∀ x ∈ fpSeg sl, x ∉ y.ys.flatMap fpSeg := fun x hx e => hd x (List.mem_append_right _ e) hx
 have hm : ∀ x, x ∉ fpV y.lv → pminusV H y.lv x = H x := fun x hx => pminusV_ne hx
 have hbF : b' ∉ y.ys.flatMap fpSeg := fun e => by
  have := hdm b' (List.mem_append_right _ e)
  rw [hm b' (hFl b' e)] at hb'
  exact this hb'
 have hbS : b' ∉ fpSeg sl := fun e => by
  have := hds b' e
  rw [hm b' (hSl b' e)] at hb'
  exact this hb'
 have hfp : fpLog ⟨slv b' lo (L.l.length + 1) cap, y.ys ++ [sl]⟩ = b' :: (y.ys.flatMap fpSeg ++ fpSeg sl) := by
  simp [fpLog, fpV, slv]
 have hlen : L'.l.length = L.l.length + 1 := by rw [hL']; simp
 refine ⟨⟨⟨cap, .inr ⟨b', lo, 0, cs, ?_, ⟨?_, hc2⟩, pupd_self .., by simp [hcs], ?_⟩⟩, ?_, ?_, ?_⟩, ?_⟩
 ·rw [hlen]; simp only [Nat.add_zero]
 ·rw [hlen]; exact hc
 ·rw [hlen]
  refine ⟨fun i hi j k hj => ?_⟩
  have := hp.at_ i hi j k hj
  have hj0 : j = 0 := by have := (List.getElem?_eq_some_iff.1 hj).1; simpa using this
  subst hj0
  rw [hR i hi] at this
  exact this
 ·rw [hlen]; simp [hl.len]
 ·intro i hi
  rw [hlen] at hi
  rw [hL', gl_app hi]
  show SegAt _ (gl (y.ys ++ [sl]) i) _
  rw [gl_app (by rw [hl.len]; exact hi), hl.len]
  by_cases hin : i < L.l.length
  ·rw [if_pos hin, if_pos hin]
   refine (hl.seg i hin).frame fun x hx => ?_
   have hxF := fpSeg_mem (by rw [hl.len]; exact hin) hx
   rw [pupd_ne (fun e => hbF (by rw [← e]; exact hxF)), hm x (hFl x hxF)]
  ·rw [if_neg hin, if_neg hin]
   refine hs.at_.frame fun x hx => ?_
   rw [pupd_ne (fun e => hbS (by rw [← e]; exact hx)), hm x (hSl x hx)]
 ·show (fpLog ⟨slv b' lo (L.l.length + 1) cap, y.ys ++ [sl]⟩).Nodup
  rw [hfp, List.nodup_cons, List.nodup_append]
  refine ⟨?_, n2, hs.nd, ?_⟩
  ·simp only [List.mem_append, not_or]; exact ⟨hbF, hbS⟩
  ·intro x hx z hz e
   subst e
   exact hSF x hz hx
 ·intro x hx hxn hxs
  have hxl : x ∉ fpV y.lv := fun e => hxn (List.mem_append_left _ e)
  have hxF : x ∉ y.ys.flatMap fpSeg := fun e => hxn (List.mem_append_right _ e)
  have hxb' : x ≠ b' := fun e => by
   rw [← e, hm x hxl] at hb'; exact hx hb'
  refine ⟨by rw [pupd_ne hxb', hm x hxl], ?_⟩
  rw [hfp]
  simp only [List.mem_cons, List.mem_append, not_or]
  exact ⟨hxb', hxF, hxs⟩
structure OpA where
 H : PH
 d : DevM
 from_ : Nat
 segs : Nat
structure OpS where
 k : Nat
 H : PH
 y : LogL
noncomputable def cLOpen : Con where
 α := OpA
 β := BegB
 m := 3
 m' := 5
 pre := fun a => OpenOk a.from_ a.segs a.d
 args := fun a => [.a (.ptr 0 0 0 0), .a (.int .i64 a.from_), .a (.int .i64 a.segs)]
 hp := fun a => [(2, .pool a.H)]
 ro := fun a => devHp 0 1 a.d
 post := fun a b => LogAt b.H b.y (openM a.from_ a.segs a.d) ∧ ∀ x, a.H x ≠ none → b.H x = a.H x ∧ x ∉ fpLog b.y
 res := fun a _ => .tup [.a (.ptr 3 0 0 0), .a (.int .i64 0)]
 hp' := fun a b => [(3, logObj 0 (openM a.from_ a.segs a.d) b.y.lv), (4, .pool b.H)]
def iLOpen (a : OpA) : An := .flat 7 OpS (fun s x => S.pool ((s.at_ (s.tg 8) (logObj (s.in_ (s.tg 8) 0) (opL a.from_ a.segs a.d x.k) x.y.lv)).int 43 x.k) x.H)
 (fun _ x => x.k ≤ a.segs ∧ LogAt x.H x.y (opL a.from_ a.segs a.d x.k) ∧ ∀ z, a.H z ≠ none → x.H z = a.H z ∧ z ∉ fpLog x.y) (fun _ x => a.segs - x.k)
set_option maxHeartbeats 4000000 in
theorem bodyLOpen : fnBody (Y Tryz.prog) [(50, cReadS), (51, cSort1), (53, cNoDelO)] 28 cLOpen fun a => [(28, [iLOpen a], [])] := fnBody.of (p :=
 ∀ a : OpA, OpenOk a.from_ a.segs a.d → InR .i64 (↑a.segs : Int) → (decide ((↑a.segs : Int) < 3) = true → ∃ b : BegB, False) ∧ (decide ((↑a.segs : Int) < 3) = false → InR .i64 (↑a.segs : Int) → (decide (200 < (↑a.segs : Int)) = true → ∃ b : BegB, False) ∧ (decide (200 < (↑a.segs : Int)) = false → (decide ((↑a.from_ : Int) < 0) = true → ∃ b : BegB, False) ∧ (decide ((↑a.from_ : Int) < 0) = false → InR .i64 (↑a.segs : Int) → InR .i64 ((↑a.segs : Int) * 8) ∧ InR .i64 ((↑a.d.n : Int) - (↑a.segs : Int) * 8) ∧ (decide ((↑a.d.n : Int) - (↑a.segs : Int) * 8 < (↑a.from_ : Int)) = true → ∃ b : BegB, False) ∧ (decide ((↑a.d.n : Int) - (↑a.segs : Int) * 8 < (↑a.from_ : Int)) = false → InR .i64 (↑a.segs : Int) → InR .i64 (↑a.segs : Int) → (∃ a_11 : OpS, 0 = (↑a_11.k : Int) ∧ (↑a.segs : Int) = (↑a.segs : Int) ∧ 0 = 0 ∧ decide ((↑a.d.n : Int) - (↑a.segs : Int) * 8 < (↑a.from_ : Int)) = decide ((↑a.d.n : Int) - (↑a.segs : Int) * 8 < (↑a.from_ : Int)) ∧ false = false ∧ (0 : Int) = 0 ∧ 0 = 0 ∧ 0 = 0 ∧ (↑a.from_ : Int) = (↑a.from_ : Int) ∧ (↑a.segs : Int) = (↑a.segs : Int) ∧ a.H = a_11.H ∧ 0 = 0 ∧ (↑a.from_ : Int) = (↑(opL a.from_ a.segs a.d a_11.k).from_ : Int) ∧ (↑a.segs : Int) = (↑(opL a.from_ a.segs a.d a_11.k).segs : Int) ∧ Value.slice none 0 0 = a_11.y.lv ∧ (1 : Int) = (opL a.from_ a.segs a.d a_11.k).next ∧ (1 : Int) = (opL a.from_ a.segs a.d a_11.k).run ∧ true = (opL a.from_ a.segs a.d a_11.k).fresh ∧ (↑a.segs : Int) = (↑a.segs : Int) ∧ devQ a.d a.d ((a_11.k ≤ a.segs ∧ LogAt a_11.H a_11.y (opL a.from_ a.segs a.d a_11.k) ∧ 
 ∀ z : Nat, a.H z ≠ none → a_11.H z = a.H z ∧ ¬z ∈ fpLog a_11.y) ∧ True)) ∧ ∀ a_11 : OpS, (a_11.k ≤ a.segs ∧ LogAt a_11.H a_11.y (opL a.from_ a.segs a.d a_11.k) ∧ ∀ z : Nat, a.H z ≠ none → a_11.H z = a.H z ∧ ¬z ∈ fpLog a_11.y) → (decide ((↑a_11.k : Int) < (↑a.segs : Int)) = true → ∃ a_14 : RSegA, 0 = 0 ∧ (↑a_11.k : Int) = (↑a_14.k : Int) ∧ 0 = 0 ∧ logQ (opL a.from_ a.segs a.d a_11.k) a_14.L a_11.y.lv a_14.lv (a_11.H = a_14.H ∧ devQ a.d a_14.d ((a_14.k < a_14.L.segs ∧ 3 ≤ a_14.L.segs ∧ a_14.L.segs ≤ 200 ∧ a_14.L.from_ + a_14.L.segs * 8 ≤ a_14.d.n ∧ a_14.d.n < 100000 ∧ (0 : Int) ≤ a_14.L.run ∧ a_14.L.run < (200000000000 : Int) ∧ RdOk a_14.L a_14.d a_14.k) ∧ ∀ b : RSegB, rsPost a_14.H b (segOf a_14.L a_14.d a_14.k) → (∃ p : Option Go.Addr, b.v = Value.pointer p) ∧ ((!nilP b.v) = true → ∃ l c : Nat, ∃ rows : Nat → Nat → Value, slAt b.H a_14.lv [CK.deep] l c rows ∧ 0 + l ≤ l ∧ 1 ≤ 1 ∧ (l + 1) * 8 ≤ 140737488355328 ∧ ∀ cap : Nat, l + 1 ≤ cap → cap ≤ lenMax → (l + 1 ≤ c → cap = c) → (cap ≠ 0 ∧ 0 + (l + 1) ≤ l + 1) ∧ ∀ (b_1 lo : Nat) (cs : List Value), pminusV b.H a_14.lv b_1 = none → cs.length = cap * 1 → (PRows cs 0 [CK.deep] (l + 1) fun (i j : Nat) => appRows rows 0 l (fun (i j : Nat) => flatRows 1 [b.v] (0 + i) j) (0 + i) j) → InR .i64 ((↑a_11.k : Int) + 1) ∧ ∃ (a' : OpS), (↑a_11.k : Int) + 1 = (↑a'.k : Int) ∧ (↑a.segs : Int) = (↑a.segs : Int) ∧ 0 = 0 ∧ decide ((↑a.d.n : Int) - (↑a.segs : Int) * 8 < (↑a.from_ : Int)) = decide ((↑a.d.n : Int) - (↑a.segs : Int) * 8 < (↑a.from_ : Int)) ∧ 
 false = false ∧ (0 : Int) = 0 ∧ 0 = 0 ∧ 0 = 0 ∧ (↑a.from_ : Int) = (↑a.from_ : Int) ∧ (↑a.segs : Int) = (↑a.segs : Int) ∧ pupd (pminusV b.H a_14.lv) b_1 lo cs = a'.H ∧ 0 = 0 ∧ (↑a_14.L.from_ : Int) = (↑(opL a.from_ a.segs a.d a'.k).from_ : Int) ∧ (↑a_14.L.segs : Int) = (↑(opL a.from_ a.segs a.d a'.k).segs : Int) ∧ slv b_1 lo (l + 1) cap = a'.y.lv ∧ a_14.L.next = (opL a.from_ a.segs a.d a'.k).next ∧ (rdTo a_14.L a_14.d a_14.k 8).run = (opL a.from_ a.segs a.d a'.k).run ∧ a_14.L.fresh = (opL a.from_ a.segs a.d a'.k).fresh ∧ (↑a.segs : Int) = (↑a.segs : Int) ∧ devQ a.d a.d ((a'.k ≤ a.segs ∧ LogAt a'.H a'.y (opL a.from_ a.segs a.d a'.k) ∧ ∀ z : Nat, a.H z ≠ none → a'.H z = a.H z ∧ ¬z ∈ fpLog a'.y) ∧ a.segs - a'.k < a.segs - a_11.k)) ∧ ((!nilP b.v) = false → InR .i64 ((↑a_11.k : Int) + 1) ∧ ∃ (a' : OpS), (↑a_11.k : Int) + 1 = (↑a'.k : Int) ∧ (↑a.segs : Int) = (↑a.segs : Int) ∧ 0 = 0 ∧ decide ((↑a.d.n : Int) - (↑a.segs : Int) * 8 < (↑a.from_ : Int)) = decide ((↑a.d.n : Int) - (↑a.segs : Int) * 8 < (↑a.from_ : Int)) ∧ false = false ∧ (0 : Int) = 0 ∧ 0 = 0 ∧ 0 = 0 ∧ (↑a.from_ : Int) = (↑a.from_ : Int) ∧ (↑a.segs : Int) = (↑a.segs : Int) ∧ b.H = a'.H ∧ 0 = 0 ∧ (↑a_14.L.from_ : Int) = (↑(opL a.from_ a.segs a.d a'.k).from_ : Int) ∧ (↑a_14.L.segs : Int) = (↑(opL a.from_ a.segs a.d a'.k).segs : Int) ∧ a_14.lv = a'.y.lv ∧ a_14.L.next = (opL a.from_ a.segs a.d a'.k).next ∧ (rdTo a_14.L a_14.d a_14.k 8).run = (opL a.from_ a.segs a.d a'.k).run ∧ a_14.L.fresh = (opL a.from_ a.segs a.d a'.k).fresh ∧ 
 (↑a.segs : Int) = (↑a.segs : Int) ∧ devQ a.d a.d ((a'.k ≤ a.segs ∧ LogAt a'.H a'.y (opL a.from_ a.segs a.d a'.k) ∧ ∀ z : Nat, a.H z ≠ none → a'.H z = a.H z ∧ ¬z ∈ fpLog a'.y) ∧ a.segs - a'.k < a.segs - a_11.k))))) ∧ (decide ((↑a_11.k : Int) < (↑a.segs : Int)) = false → ∃ a_14 : OneA, a_11.y.lv = a_14.v ∧ isOne a_14.v a_14.n ∧ ∀ b : Unit, True → (∃ a : Option Go.Addr, ∃ l c : Nat, a_11.y.lv = Value.slice a l c ∧ l ≤ lenMax) ∧ (decide (0 < (↑(slLen a_11.y.lv) : Int)) = true → InR .i64 ((↑(slLen a_11.y.lv) : Int) - 1) ∧ ∃ b o : Nat, ∃ l c : Nat, a_11.y.lv = slv b o l c ∧ (0 ≤ (↑(slLen a_11.y.lv) : Int) - 1 ∧ (↑(slLen a_11.y.lv) : Int) - 1 < (↑l : Int)) ∧ ∃ b_1 lo o_1 : Nat, ∃ cs : List Value, pv b (o + ((↑(slLen a_11.y.lv) : Int) - 1).toNat * 1) = pv b_1 (lo + o_1) ∧ a_11.H b_1 = some (lo, cs) ∧ ((∃ v : Value, cs[o_1]? = some v ∧ v.oneCell' = true) ∧ True) ∧ ∃ a_17 : DelOA, a_11.y.lv = a_17.y.lv ∧ 0 = 0 ∧ 0 = 0 ∧ cs.getD o_1 (Value.tuple #[]) = pv a_17.gb 0 ∧ (↑a.segs : Int) = a_17.s ∧ a_11.H = a_17.H ∧ (LogAt a_17.H a_17.y a_17.L ∧ a_17.L.l.length < 1000 ∧ (0 : Int) ≤ a_17.s ∧ a_17.s ≤ (1000 : Int) ∧ InR .i64 a_17.t ∧ (0 : Int) ≤ a_17.t ∧ (∃ r : List Value, a_17.H a_17.gb = some (0, Value.int IntKind.i64 a_17.t :: r)) ∧ ∀ i : Nat, i < a_17.L.l.length → a_17.t - a_17.s < (gl a_17.L.l i).gen) ∧ ∀ b : Unit, True → ∃ b o : Nat, cs.getD o_1 (Value.tuple #[]) = pv b o ∧ ∃ b_2 o_2 : Nat, pv b o = pv b_2 o_2 ∧ ∃ b lo o : Nat, ∃ cs_1 : List Value, pv b_2 (o_2 + 1) = pv b (lo + o) ∧ a_11.H b = some (lo, cs_1) ∧ 
 ((∃ v : Value, cs_1[o]? = some v ∧ ∃ n : Int, v = Value.int IntKind.i64 n ∧ InR .i64 n) ∧ True) ∧ (InR .i64 (toI (cs_1.getD o (Value.tuple #[]))) → InR .i64 (toI (cs_1.getD o (Value.tuple #[])) + (64 : Int)) ∧ ∃ b o_3 : Nat, cs.getD o_1 (Value.tuple #[]) = pv b o_3 ∧ ∃ b_3 o_4 : Nat, pv b o_3 = pv b_3 o_4 ∧ ∃ b lo o_5 : Nat, ∃ cs_2 : List Value, pv b_3 (o_4 + 4) = pv b (lo + o_5) ∧ a_11.H b = some (lo, cs_2) ∧ ((∃ v : Value, cs_2[o_5]? = some v ∧ v.oneCell' = true) ∧ True) ∧ (∃ a : Option Go.Addr, ∃ l c : Nat, cs_2.getD o_5 (Value.tuple #[]) = Value.slice a l c ∧ l ≤ lenMax) ∧ (decide (0 < (↑(slLen (cs_2.getD o_5 (Value.tuple #[]))) : Int)) = true → ∃ b o : Nat, cs.getD o_1 (Value.tuple #[]) = pv b o ∧ ∃ b_4 o_6 : Nat, pv b o = pv b_4 o_6 ∧ ∃ b lo o : Nat, ∃ cs : List Value, pv b_4 (o_6 + 4) = pv b (lo + o) ∧ a_11.H b = some (lo, cs) ∧ ((∃ v : Value, cs[o]? = some v ∧ v.oneCell' = true) ∧ True) ∧ InR .i64 ((↑(slLen (cs_2.getD o_5 (Value.tuple #[]))) : Int) - 1) ∧ ∃ b o_7 : Nat, ∃ l c : Nat, cs.getD o (Value.tuple #[]) = slv b o_7 l c ∧ (0 ≤ (↑(slLen (cs_2.getD o_5 (Value.tuple #[]))) : Int) - 1 ∧ (↑(slLen (cs_2.getD o_5 (Value.tuple #[]))) : Int) - 1 < (↑l : Int)) ∧ ∃ b_5 o : Nat, pv b (o_7 + ((↑(slLen (cs_2.getD o_5 (Value.tuple #[]))) : Int) - 1).toNat * 2) = pv b_5 o ∧ ∃ b lo o_8 : Nat, ∃ cs : List Value, pv b_5 (o + 0) = pv b (lo + o_8) ∧ a_11.H b = some (lo, cs) ∧ ((∃ v : Value, cs[o_8]? = some v ∧ ∃ n : Int, v = Value.int IntKind.i64 n ∧ InR .i64 n) ∧ True) ∧ (InR .i64 (toI (cs.getD o_8 (Value.tuple #[]))) → 
 InR .i64 (toI (cs.getD o_8 (Value.tuple #[])) + (1 : Int)) ∧ InR .i64 (toI (cs.getD o_8 (Value.tuple #[])) + (1 : Int) + 64) ∧ ∃ b : BegB, 0 = 0 ∧ (0 : Int) = 0 ∧ 0 = 0 ∧ (↑(opL a.from_ a.segs a.d a_11.k).from_ : Int) = (↑(openM a.from_ a.segs a.d).from_ : Int) ∧ (↑(opL a.from_ a.segs a.d a_11.k).segs : Int) = (↑(openM a.from_ a.segs a.d).segs : Int) ∧ a_17.y.lv = b.y.lv ∧ toI (cs.getD o_8 (Value.tuple #[])) + (1 : Int) + 64 = (openM a.from_ a.segs a.d).next ∧ (opL a.from_ a.segs a.d a_11.k).run = (openM a.from_ a.segs a.d).run ∧ (opL a.from_ a.segs a.d a_11.k).fresh = (openM a.from_ a.segs a.d).fresh ∧ a_11.H = b.H ∧ (LogAt b.H b.y (openM a.from_ a.segs a.d) ∧ ∀ x : Nat, a.H x ≠ none → b.H x = a.H x ∧ ¬x ∈ fpLog b.y) ∧ True)) ∧ (decide (0 < (↑(slLen (cs_2.getD o_5 (Value.tuple #[]))) : Int)) = false → ∃ b : BegB, 0 = 0 ∧ (0 : Int) = 0 ∧ 0 = 0 ∧ (↑(opL a.from_ a.segs a.d a_11.k).from_ : Int) = (↑(openM a.from_ a.segs a.d).from_ : Int) ∧ (↑(opL a.from_ a.segs a.d a_11.k).segs : Int) = (↑(openM a.from_ a.segs a.d).segs : Int) ∧ a_17.y.lv = b.y.lv ∧ toI (cs_1.getD o (Value.tuple #[])) + (64 : Int) = (openM a.from_ a.segs a.d).next ∧ (opL a.from_ a.segs a.d a_11.k).run = (openM a.from_ a.segs a.d).run ∧ (opL a.from_ a.segs a.d a_11.k).fresh = (openM a.from_ a.segs a.d).fresh ∧ a_11.H = b.H ∧ (LogAt b.H b.y (openM a.from_ a.segs a.d) ∧ ∀ x : Nat, a.H x ≠ none → b.H x = a.H x ∧ ¬x ∈ fpLog b.y) ∧ True))) ∧ (decide (0 < (↑(slLen a_11.y.lv) : Int)) = false → ∃ b : BegB, 0 = 0 ∧ (0 : Int) = 0 ∧ 
 0 = 0 ∧ logQ (opL a.from_ a.segs a.d a_11.k) (openM a.from_ a.segs a.d) a_11.y.lv b.y.lv (a_11.H = b.H ∧ (LogAt b.H b.y (openM a.from_ a.segs a.d) ∧ ∀ x : Nat, a.H x ≠ none → b.H x = a.H x ∧ ¬x ∈ fpLog b.y) ∧ True)))))))) (by kernel_rfl) (by
 rintro ⟨H, d, fr, sg⟩ ok
 dsimp only at *
 have ok : OpenOk fr sg d := ok
 obtain ⟨s1, s2⟩ := ok.few
 have s3 := ok.room
 have s4 := ok.size
 refine fun _ => ⟨fun c => by exfalso; have := of_decide_eq_true c; omega, fun _ _ => ⟨fun c => by exfalso; have := of_decide_eq_true c; omega, fun _ => ⟨fun c => by exfalso; have := of_decide_eq_true c; omega, fun _ _ => ⟨by simp only [InR]; omega, by simp only [InR]; omega, fun c => by exfalso; have := of_decide_eq_true c; omega, fun _ _ _ => ⟨⟨⟨0, H, ⟨.slice none 0 0, []⟩⟩, ?_⟩, ?_⟩⟩⟩⟩⟩
 ·have h0 : LogAt H ⟨.slice none 0 0, []⟩ (opL fr sg d 0) := ⟨⟨0, .inl ⟨rfl, rfl, rfl⟩⟩, rfl, fun i hi => absurd hi (Nat.not_lt_zero i), by simp [fpV]⟩
  have h1 : ∀ z, H z ≠ none → H z = H z ∧ ¬ z ∈ fpLog ⟨.slice none 0 0, []⟩ := fun z _ => ⟨rfl, by simp [fpLog, fpV]⟩
  (repeat' apply And.intro) <;> first | with_reducible (first | rfl | trivial | assumption) | omega | with_reducible (first | exact RowsEq.refl _ _ _ | exact Nat.le_refl _) | (dsimp only [List.length_cons, List.length_nil] <;> omega) | exact h0 | exact h1 | rfl | exact fun _ _ => ⟨trivial, by simp [fpLog, fpV]⟩
 ·rintro ⟨k, X, Y⟩ ⟨hk, hX, hfr⟩
  dsimp only at *
  obtain ⟨e1, _, ⟨ea, ec, e2⟩, e3, e5⟩ := hX.lv_len
  obtain ⟨m1, m2, m3, m4⟩ := opL_same fr sg d k
  refine ⟨fun c1 => ?_, fun c1 => ?_⟩
  ·have hk' : k < sg := by have := of_decide_eq_true c1; omega
   have hrd := ok.rd k hk'
   obtain ⟨hr1, hr2⟩ := opL_run ok k (by omega)
   have hstep : opL fr sg d (k + 1) = { opL fr sg d k with l := (opL fr sg d k).l ++ (segOf (opL fr sg d k) d k).toList, run := (rdTo (opL fr sg d k) d k 8).run } := rfl
   obtain ⟨L, hL⟩ : ∃ L, L = opL fr sg d k := ⟨_, rfl⟩
   rw [← hL] at hX e1 e2 e3 m1 m2 m3 m4 hrd hr1 hr2 hstep ⊢
   refine ⟨RSegA.mk X L Y.lv d k, ?_⟩
   (repeat' apply And.intro) <;> first | with_reducible (first | rfl | trivial | assumption) | omega | with_reducible (first | exact RowsEq.refl _ _ _ | exact Nat.le_refl _) | (dsimp only [List.length_cons, List.length_nil] <;> omega) | exact hrd | (dsimp only; omega) | skip
   rintro ⟨X1, sl, v⟩ hpost
   dsimp only at hpost ⊢
   cases hseg : segOf L d k with
   | none =>
    rw [hseg] at hpost
    obtain ⟨hv, hf⟩ := hpost
    dsimp only at hv hf
    subst hv
    have hX1 : LogAt X1 Y (opL fr sg d (k + 1)) := (hX.frame fun x hx => hf x (hX.dom x hx)).congr (by rw [hstep, hseg]; simp)
    have hz : ∀ z, H z ≠ none → X1 z = H z ∧ ¬ z ∈ fpLog Y := fun z hz => by
     obtain ⟨a1, a2⟩ := hfr z hz
     exact ⟨(hf z (by rw [a1]; exact hz)).trans a1, a2⟩
    refine ⟨⟨_, rfl⟩, fun c => absurd c (by decide), fun _ => ⟨by simp only [InR]; omega, ⟨k + 1, X1, Y⟩, ?_⟩⟩
    (repeat' apply And.intro) <;> first | with_reducible (first | rfl | trivial | assumption) | omega | with_reducible (first | exact RowsEq.refl _ _ _ | exact Nat.le_refl _) | (dsimp only [List.length_cons, List.length_nil] <;> omega) | exact hX1 | exact hz | (rw [hstep]; done) | rfl | skip
   | some g =>
    rw [hseg] at hpost
    obtain ⟨hv, hs, hf⟩ := hpost
    dsimp only at hv hs hf
    subst hv
    have hXf : LogAt X1 Y L := hX.frame fun x hx => (hf x (hX.dom x hx)).1
    refine ⟨⟨_, rfl⟩, fun _ => ?_, fun c => absurd c (show ¬ (true = false) by decide)⟩
    obtain ⟨c0, hsl⟩ := hXf.lst
    refine ⟨_, c0, _, hsl, ?_⟩
    have hone : L.l.length ≤ 100000 := by
     have := ok.few
     have : ∀ j, (opL fr sg d j).l.length ≤ j := fun j => by
      induction j with
      | zero => exact Nat.le_refl _
      | succ j ih =>
       show ((opL fr sg d j).l ++ (segOf (opL fr sg d j) d j).toList).length ≤ _
       rw [List.length_append]
       have : (segOf (opL fr sg d j) d j).toList.length ≤ 1 := by cases segOf (opL fr sg d j) d j <;> simp
       omega
     have := this k
     rw [← hL] at this
     omega
    repeat (first | refine And.intro (by omega) ?_ | refine And.intro (by dsimp only; omega) ?_ | refine And.intro (by simp only [InR]; omega) ?_)
    intro cap q1 q2 q3
    repeat (first | refine And.intro (by omega) ?_ | refine And.intro (by dsimp only; omega) ?_ | refine And.intro (by simp only [InR]; omega) ?_)
    intro p1 lo1 cs1 hp1 hl1 hr1
    have hpush := push_at (lo := lo1) (L' := opL fr sg d (k + 1)) hXf hs (fun x hx => (hf x (hX.dom x hx)).2) hp1 hl1 q1 q2 hr1 (by
     intro i hi
     simp only [Nat.zero_add, appRows, ptrR]
     rw [gl_app (by rw [hX.len]; exact hi), hX.len]
     by_cases hin : i < L.l.length
     ·rw [if_pos hin, if_pos hin]
     ·rw [if_neg hin, if_neg hin, show i - L.l.length = 0 by omega]; rfl) (by rw [hstep, hseg]; rfl)
    have hz : ∀ z, H z ≠ none → pupd (pminusV X1 Y.lv) p1 lo1 cs1 z = H z ∧ ¬ z ∈ fpLog ⟨slv p1 lo1 (L.l.length + 1) cap, Y.ys ++ [sl]⟩ := fun z hz => by
     obtain ⟨a1, a2⟩ := hfr z hz
     obtain ⟨b1, b2⟩ := hf z (by rw [a1]; exact hz)
     obtain ⟨c1, c2⟩ := hpush.2 z (by rw [b1, a1]; exact hz) a2 b2
     exact ⟨c1.trans (b1.trans a1), c2⟩
    refine ⟨by simp only [InR]; omega, ⟨k + 1, pupd (pminusV X1 Y.lv) p1 lo1 cs1, ⟨slv p1 lo1 (L.l.length + 1) cap, Y.ys ++ [sl]⟩⟩, ?_⟩
    (repeat' apply And.intro) <;> first | with_reducible (first | rfl | trivial | assumption) | omega | with_reducible (first | exact RowsEq.refl _ _ _ | exact Nat.le_refl _) | (dsimp only [List.length_cons, List.length_nil] <;> omega) | exact hpush.1 | exact hz | (rw [hstep]; done) | rfl | skip
  ·have hk' : k = sg := by have := of_decide_eq_false c1; omega
   subst hk'
   have hone := ok.one
   have hrng := ok.rng
   have hM : (openM fr k d).l = (opL fr k d k).l := rfl
   have hM2 : (openM fr k d).next = nextOf (opL fr k d k).l := rfl
   have hM3 : (openM fr k d).from_ = fr ∧ (openM fr k d).segs = k ∧ (openM fr k d).run = (opL fr k d k).run ∧ (openM fr k d).fresh = true := ⟨m1, m2, rfl, m4⟩
   obtain ⟨L, hL⟩ : ∃ L, L = opL fr k d k := ⟨_, rfl⟩
   rw [← hL] at hX e1 e2 e3 m1 m2 m3 m4 hone hrng hM hM2 hM3 ⊢
   obtain ⟨M, hMM⟩ : ∃ M, M = openM fr k d := ⟨_, rfl⟩
   rw [← hMM] at hM hM2 hM3 ⊢
   obtain ⟨n1, n2, n3, n4⟩ := hM3
   have hXM : LogAt X Y M := hX.congr hM
   refine ⟨OneA.mk Y.lv L.l.length, rfl, ⟨hone, ⟨ea, ec, e2⟩, e5⟩, fun _ _ => ⟨⟨ea, _, ec, e2, e3⟩, fun c2 => ?_, fun c2 => ⟨⟨X, Y⟩, ?_⟩⟩⟩
   ·rw [e1] at c2
    have hn : 0 < L.l.length := by have := of_decide_eq_true c2; omega
    have hk1 : L.l.length - 1 < L.l.length := by omega
    obtain ⟨b, lo, o, c, cs, g1, g2, g3, g4⟩ := hX.at_ hk1
    have hs := hX.seg _ hk1
    obtain ⟨r1, r2, r3⟩ := hs.rng
    obtain ⟨u1, u2, u3, u4⟩ := hrng _ hk1
    have hlast : L.l.getLast? = some (gl L.l (L.l.length - 1)) := by rw [gl_eq hk1, List.getLast?_eq_getElem?, List.getElem?_eq_getElem hk1]
    have hall : ∀ i, i < L.l.length → (gl L.l (L.l.length - 1)).gen - (k : Int) < (gl L.l i).gen := fun i hi => by
     have : i = L.l.length - 1 := by omega
     rw [this]; omega
    obtain ⟨sl, hsl⟩ : ∃ sl, sl = gl Y.ys (L.l.length - 1) := ⟨_, rfl⟩
    obtain ⟨g, hg⟩ : ∃ g, g = gl L.l (L.l.length - 1) := ⟨_, rfl⟩
    rw [← hg] at hs r1 r2 r3 u1 u2 u3 u4 hlast hall
    rw [← hsl] at g3 g4 hs
    have e6 : ((L.l.length : Int) - 1).toNat = L.l.length - 1 := by omega
    rw [e1]
    refine ⟨by simp only [InR]; omega, _, _, _, _, g1, by omega, b, lo, o + (L.l.length - 1) * 1, cs, by rw [e6, Nat.add_assoc], g2, ⟨⟨_, g3, rfl⟩, trivial⟩, DelOA.mk X Y L sl.b g.gen k, ?_⟩
    (repeat' apply And.intro) <;> first | with_reducible (first | rfl | trivial | assumption) | omega | with_reducible (first | exact RowsEq.refl _ _ _ | exact Nat.le_refl _) | (dsimp only [List.length_cons, List.length_nil] <;> omega) | exact g4 | exact hX | exact r1.1 | exact r1.2 | exact hall | exact ⟨_, hs.cell⟩ | (dsimp only; omega) | skip
    intro _ _
    obtain ⟨c9, hrec⟩ := hs.recs
    obtain ⟨w1, w2, w3, w4, w5, ⟨wa, w7⟩, w6⟩ := slAt_len hrec
    refine ⟨_, _, g4, ?_⟩
    refine ⟨_, _, rfl, ?_⟩
    refine ⟨_, 0, _, _, rfl, hs.cell, ?_⟩
    refine ⟨⟨⟨_, rfl, _, rfl, r2⟩, trivial⟩, fun _ => ?_⟩
    simp only [show toI ((segC g sl.bv sl.rv).getD 1 (Value.tuple #[])) = g.base from rfl]
    refine ⟨by simp only [InR]; omega, _, _, g4, ?_⟩
    refine ⟨_, _, rfl, ?_⟩
    refine ⟨_, 0, _, _, rfl, hs.cell, ?_⟩
    refine ⟨⟨⟨_, rfl, w6⟩, trivial⟩, ⟨wa, _, _, w7, by omega⟩, ?_⟩
    simp only [show (segC g sl.bv sl.rv).getD 4 (Value.tuple #[]) = sl.rv from rfl, w1]
    refine ⟨fun c3 => ?_, fun c3 => ⟨⟨X, Y⟩, ?_⟩⟩
    ·have hq : 0 < g.recs.length := by have := of_decide_eq_true c3; omega
     have hq1 : g.recs.length - 1 < g.recs.length := by omega
     have hrl : g.recs.getLast? = some (gl g.recs (g.recs.length - 1)) := by rw [gl_eq hq1, List.getLast?_eq_getElem?, List.getElem?_eq_getElem hq1]
     have hnx : M.next = (gl g.recs (g.recs.length - 1)).pos + 65 := by rw [hM2]; simp only [nextOf, hlast, hrl]
     obtain ⟨b', lo', o', cs', q1, q2, q3, q4, q5, q6, q7, q8⟩ := rec_at hrec (k := g.recs.length - 1) hq1
     obtain ⟨p1, p2⟩ := u4 _ hq1
     have e7 : ((g.recs.length : Int) - 1).toNat = g.recs.length - 1 := by omega
     refine ⟨_, _, g4, ?_⟩
     refine ⟨_, _, rfl, ?_⟩
     refine ⟨_, 0, _, _, rfl, hs.cell, ?_⟩
     refine ⟨⟨⟨_, rfl, w6⟩, trivial⟩, by simp only [InR, lenMax] at *; omega, ?_⟩
     simp only [show (segC g sl.bv sl.rv).getD 4 (Value.tuple #[]) = sl.rv from rfl]
     refine ⟨_, _, _, _, q1, by omega, _, _, rfl, b', lo', o' + (g.recs.length - 1) * 2, cs', by rw [e7]; congr 1; omega, q2, ⟨⟨_, q3, _, rfl, q6⟩, trivial⟩, fun _ => ?_⟩
     rw [q7]
     simp only [toI]
     refine ⟨by simp only [InR]; omega, by simp only [InR]; omega, ⟨X, Y⟩, ?_⟩
     (repeat' apply And.intro) <;> first | with_reducible (first | rfl | trivial | assumption) | omega | with_reducible (first | exact RowsEq.refl _ _ _ | exact Nat.le_refl _) | (dsimp only [List.length_cons, List.length_nil] <;> omega) | exact hXM | exact hfr | (rw [n3]; done) | (rw [n4, m4]; done) | (dsimp only; omega) | skip
    ·have hq : g.recs.length = 0 := by have := of_decide_eq_false c3; omega
     have hrl : g.recs.getLast? = none := by rw [List.eq_nil_of_length_eq_zero hq]; rfl
     have hnx : M.next = g.base + 64 := by rw [hM2]; simp only [nextOf, hlast, hrl]
     (repeat' apply And.intro) <;> first | with_reducible (first | rfl | trivial | assumption) | omega | with_reducible (first | exact RowsEq.refl _ _ _ | exact Nat.le_refl _) | (dsimp only [List.length_cons, List.length_nil] <;> omega) | exact hXM | exact hfr | (rw [n3]; done) | (rw [n4, m4]; done) | (dsimp only; omega) | skip
   ·rw [e1] at c2
    have hn : L.l = [] := List.eq_nil_of_length_eq_zero (by have := of_decide_eq_false c2; omega)
    have hnx : M.next = 1 := by rw [hM2, hn]; rfl
    (repeat' apply And.intro) <;> first | with_reducible (first | rfl | trivial | assumption) | omega | with_reducible (first | exact RowsEq.refl _ _ _ | exact Nat.le_refl _) | (dsimp only [List.length_cons, List.length_nil] <;> omega) | exact hXM | exact hfr | (rw [n3]; done) | (rw [n4, m4]; done) | (rw [hnx, m3]; done) | (dsimp only; omega) | skip)
theorem callLOpen : CallsBy (Y Tryz.prog).G.X 28 cLOpen := fn_ok okY (tab := [(50, cReadS), (51, cSort1), (53, cNoDelO)]) ⟨callReadS, callSort1, callNoDelO, trivial⟩ bodyLOpen

end Go.Proofs.YtfobhkibkdmglaaGreat

namespace Go.Proofs.YtfobhkibkdmglaaGreat
open Go.Sx
set_option maxRecDepth 100000
set_option linter.unusedVariables false
set_option linter.unusedSimpArgs false

/-- records in memory, each with its bytes -/
structure OutAt (H : PH) (v : Value) (vs : List Value) (rs : List RecM) : Prop where
 rows : ∃ c, slAt H v ksRec rs.length c (recR rs vs)
 len : vs.length = rs.length
 body : ∀ i, i < rs.length → BytesAt H (vs.getD i undef) (gl rs i).body
 sep : ∀ x ∈ fpV v, x ∉ vs.flatMap fpV
theorem vs_mem {vs : List Value} {i x : Nat} (hi : i < vs.length) (hx : x ∈ fpV (vs.getD i undef)) : x ∈ vs.flatMap fpV := by
 refine List.mem_flatMap.2 ⟨_, ?_, hx⟩
 rw [List.getD_eq_getElem?_getD, List.getElem?_eq_getElem hi]
 exact List.getElem_mem _
theorem OutAt.dom {H : PH} {v : Value} {vs : List Value} {rs : List RecM} (h : OutAt H v vs rs) : ∀ x, x ∈ fpV v ∨ x ∈ vs.flatMap fpV → H x ≠ none := by
 rintro x (hx | hx)
 ·obtain ⟨c, hr⟩ := h.rows; exact slAt_dom hr x hx
 ·obtain ⟨u, hu, hx⟩ := List.mem_flatMap.1 hx
  obtain ⟨i, hi, rfl⟩ := List.getElem_of_mem hu
  obtain ⟨c, hb⟩ := h.body i (by rw [← h.len]; exact hi)
  rw [List.getD_eq_getElem?_getD, List.getElem?_eq_getElem hi] at hb
  exact slAt_dom hb x hx
/-- one record more: its bytes in a new block, the list in another one -/
theorem OutAt.push {H : PH} {v : Value} {vs : List Value} {rs : List RecM} {r : RecM} {p3 lo3 p4 lo4 cap3 cap4 n : Nat} {cs3 cs4 : List Value} (h : OutAt H v vs rs) (hn : n = r.body.length) (hp3 : H p3 = none)
 (hb : BytesAt (pupd H p3 lo3 cs3) (slv p3 lo3 n cap3) r.body) (hp4 : pminusV (pupd H p3 lo3 cs3) v p4 = none)
 (hr : slAt (pupd (pminusV (pupd H p3 lo3 cs3) v) p4 lo4 cs4) (slv p4 lo4 (rs.length + 1) cap4) ksRec (rs.length + 1) cap4 (recR (rs ++ [r]) (vs ++ [slv p3 lo3 n cap3]))) :
 OutAt (pupd (pminusV (pupd H p3 lo3 cs3) v) p4 lo4 cs4) (slv p4 lo4 (rs.length + 1) cap4) (vs ++ [slv p3 lo3 n cap3]) (rs ++ [r]) ∧
 ∀ z, H z ≠ none → z ∉ fpV v → z ∉ vs.flatMap fpV → pupd (pminusV (pupd H p3 lo3 cs3) v) p4 lo4 cs4 z = H z ∧ z ∉ fpV (slv p4 lo4 (rs.length + 1) cap4) ∧ z ∉ (vs ++ [slv p3 lo3 n cap3]).flatMap fpV := by
 have hd := h.dom
 have h3 : ∀ z, H z ≠ none → z ≠ p3 := fun z hz e => hz (by rw [e]; exact hp3)
 have h3v : p3 ∉ fpV v := fun e => hd p3 (.inl e) hp3
 have h34 : p4 ≠ p3 := fun e => by rw [e, pminusV_ne h3v, pupd_self] at hp4; cases hp4
 have hz4 : ∀ z, H z ≠ none → z ∉ fpV v → z ≠ p4 := fun z hz hv e => by
  rw [← e, pminusV_ne hv, pupd_ne (h3 z hz)] at hp4
  exact hz hp4
 have same : ∀ z, H z ≠ none → z ∉ fpV v → pupd (pminusV (pupd H p3 lo3 cs3) v) p4 lo4 cs4 z = H z := fun z hz hv => by
  rw [pupd_ne (hz4 z hz hv), pminusV_ne hv, pupd_ne (h3 z hz)]
 have hvs : ∀ z ∈ vs.flatMap fpV, z ∉ fpV v := fun z hz e => h.sep z e hz
 refine ⟨⟨⟨cap4, by simpa using hr⟩, by simp [h.len], fun i hi => ?_, fun x hx => ?_⟩, fun z hz hv hs => ⟨same z hz hv, ?_, ?_⟩⟩
 ·rw [List.length_append, List.length_singleton] at hi
  rw [gl_app hi]
  by_cases hin : i < rs.length
  ·rw [if_pos hin, List.getD_eq_getElem?_getD, List.getElem?_append_left (by rw [h.len]; exact hin), ← List.getD_eq_getElem?_getD]
   refine (h.body i hin).frame fun x hx => ?_
   have hm := vs_mem (by rw [h.len]; exact hin) hx
   exact same x (hd x (.inr hm)) (hvs x hm)
  ·rw [if_neg hin]
   have e1 : (vs ++ [slv p3 lo3 n cap3]).getD i undef = slv p3 lo3 n cap3 := by
    rw [List.getD_eq_getElem?_getD, List.getElem?_append_right (by rw [h.len]; omega), show i - vs.length = 0 by rw [h.len]; omega]; rfl
   rw [e1]
   refine hb.frame fun x hx => ?_
   simp only [fpV, slv, List.mem_singleton] at hx
   rw [hx, pupd_ne h34.symm, pminusV_ne h3v]
 ·simp only [fpV, slv, List.mem_singleton] at hx
  subst hx
  simp only [List.flatMap_append, List.mem_append, not_or]
  refine ⟨fun e => ?_, by simpa [fpV, slv] using h34⟩
  exact hz4 x (hd x (.inr e)) (hvs x e) rfl
 ·simp only [fpV, slv, List.mem_singleton]; exact hz4 z hz hv
 ·simp only [List.flatMap_append, List.mem_append, not_or]
  exact ⟨hs, by simpa [fpV, slv] using h3 z hz⟩
def allR (l : List SegM) : List RecM := l.flatMap (·.recs)
def outR (l : List SegM) (i j : Nat) : List RecM := allR (l.take i) ++ (gl l i).recs.take j
theorem outR_push {l : List SegM} {i j : Nat} (hj : j < (gl l i).recs.length) : outR l i (j + 1) = outR l i j ++ [gl (gl l i).recs j] := by
 unfold outR
 rw [take_push hj, List.append_assoc]
theorem outR_next {l : List SegM} {i j : Nat} (hi : i < l.length) (hj : (gl l i).recs.length ≤ j) : outR l i j = allR (l.take (i + 1)) := by
 unfold outR allR
 rw [flatMap_push hi, List.take_of_length_le hj]
structure LAllA where
 H : PH
 y : LogL
 L : LogM
structure LAllB where
 H : PH
 v : Value
 vs : List Value
structure LAllS where
 i : Nat
 j : Nat
 H : PH
 v : Value
 vs : List Value
noncomputable def cLAll : Con where
 α := LAllA
 β := LAllB
 m := 3
 m' := 4
 pre := fun a => LogAt a.H a.y a.L ∧ a.L.l.length < 1000 ∧ ∀ i, i < a.L.l.length → (gl a.L.l i).recs.length ≤ 400 ∧ ∀ k, k < (gl a.L.l i).recs.length → 1 ≤ (gl (gl a.L.l i).recs k).body.length ∧ (gl (gl a.L.l i).recs k).body.length ≤ 1000
 args := fun a => [.a (.ptr 0 0 0 0)]
 hp := fun a => [(1, .pool a.H)]
 ro := fun a => [(0, logObj 2 a.L a.y.lv)]
 post := fun a b => OutAt b.H b.v b.vs (allR a.L.l) ∧ ∀ z, a.H z ≠ none → b.H z = a.H z ∧ z ∉ fpV b.v ∧ z ∉ b.vs.flatMap fpV
 res := fun _ b => .a (.val b.v)
 hp' := fun _ b => [(3, .pool b.H)]
structure AllI (a : LAllA) (x : LAllS) (rs : List RecM) : Prop where
 out : OutAt x.H x.v x.vs rs
 fr : ∀ z, a.H z ≠ none → x.H z = a.H z ∧ z ∉ fpV x.v ∧ z ∉ x.vs.flatMap fpV
def iLAll2 (a : LAllA) (i : Nat) : An := .flat 8 LAllS (fun s x => S.pool ((s.set 3 (.a (.val x.v))).int 24 x.j) x.H) (fun _ x => x.j ≤ (gl a.L.l i).recs.length ∧ AllI a x (outR a.L.l i x.j)) (fun _ x => (gl a.L.l i).recs.length - x.j)
def iLAll (a : LAllA) : An := .mk 5 LAllS (fun s x => S.pool ((s.set 3 (.a (.val x.v))).int 15 x.i) x.H) (fun _ x => x.i ≤ a.L.l.length ∧ AllI a x (allR (a.L.l.take x.i))) (fun _ x => a.L.l.length - x.i) fun x => .mk 60 [iLAll2 a x.i] []
set_option maxHeartbeats 4000000 in
theorem bodyLAll : fnBody (Y Tryz.prog) [] 30 cLAll fun a => [(30, [iLAll a], [])] := fnBody.of (p :=
 ∀ a : LAllA, (LogAt a.H a.y a.L ∧ a.L.l.length < 1000 ∧ ∀ i : Nat, i < a.L.l.length → (gl a.L.l i).recs.length ≤ 400 ∧ ∀ k : Nat, k < (gl a.L.l i).recs.length → 1 ≤ (gl (gl a.L.l i).recs k).body.length ∧ (gl (gl a.L.l i).recs k).body.length ≤ 1000) → (∃ a_2 : Option Go.Addr, ∃ l c : Nat, a.y.lv = Value.slice a_2 l c ∧ l ≤ lenMax) ∧ (∃ a_2 : LAllS, 0 = (↑a_2.i : Int) ∧ Value.slice none 0 0 = a_2.v ∧ (↑(slLen a.y.lv) : Int) = (↑(slLen a.y.lv) : Int) ∧ a.y.lv = a.y.lv ∧ false = false ∧ 0 = 0 ∧ a.H = a_2.H ∧ 0 = 0 ∧ logQ a.L a.L a.y.lv a.y.lv ((a_2.i ≤ a.L.l.length ∧ AllI a a_2 (allR (List.take a_2.i a.L.l))) ∧ True)) ∧ ∀ a_2 : LAllS, a_2.i ≤ a.L.l.length ∧ AllI a a_2 (allR (List.take a_2.i a.L.l)) → (decide ((↑a_2.i : Int) < (↑(slLen a.y.lv) : Int)) = true → ∃ b o : Nat, ∃ l c : Nat, a.y.lv = slv b o l c ∧ (0 ≤ (↑a_2.i : Int) ∧ (↑a_2.i : Int) < (↑l : Int)) ∧ ∃ b_1 lo o_1 : Nat, ∃ cs : List Value, pv b (o + (↑a_2.i : Int).toNat * 1) = pv b_1 (lo + o_1) ∧ a_2.H b_1 = some (lo, cs) ∧ ((∃ v : Value, cs[o_1]? = some v ∧ v.oneCell' = true) ∧ True) ∧ ∃ b o : Nat, cs.getD o_1 (Value.tuple #[]) = pv b o ∧ ∃ b_2 o_2 : Nat, pv b o = pv b_2 o_2 ∧ ∃ b lo o : Nat, ∃ cs_1 : List Value, pv b_2 (o_2 + 4) = pv b (lo + o) ∧ a_2.H b = some (lo, cs_1) ∧ ((∃ v : Value, cs_1[o]? = some v ∧ v.oneCell' = true) ∧ True) ∧ (∃ a : Option Go.Addr, ∃ l c : Nat, cs_1.getD o (Value.tuple #[]) = Value.slice a l c ∧ l ≤ lenMax) ∧ (∃ a_5 : LAllS, 0 = (↑a_5.j : Int) ∧ a_2.v = a_5.v ∧ (↑(slLen (cs_1.getD o (Value.tuple #[]))) : Int) = (↑(slLen (cs_1.getD o (Value.tuple #[]))) : Int) ∧ 
 cs_1.getD o (Value.tuple #[]) = cs_1.getD o (Value.tuple #[]) ∧ cs.getD o_1 (Value.tuple #[]) = cs.getD o_1 (Value.tuple #[]) ∧ decide ((↑a_2.i : Int) < (↑(slLen a.y.lv) : Int)) = decide ((↑a_2.i : Int) < (↑(slLen a.y.lv) : Int)) ∧ (↑a_2.i : Int) = (↑a_2.i : Int) ∧ (↑(slLen a.y.lv) : Int) = (↑(slLen a.y.lv) : Int) ∧ a.y.lv = a.y.lv ∧ false = false ∧ 0 = 0 ∧ a_2.H = a_5.H ∧ 0 = 0 ∧ logQ a.L a.L a.y.lv a.y.lv ((a_5.j ≤ (gl a.L.l a_2.i).recs.length ∧ AllI a a_5 (outR a.L.l a_2.i a_5.j)) ∧ True)) ∧ ∀ a_5 : LAllS, a_5.j ≤ (gl a.L.l a_2.i).recs.length ∧ AllI a a_5 (outR a.L.l a_2.i a_5.j) → (decide ((↑a_5.j : Int) < (↑(slLen (cs_1.getD o (Value.tuple #[]))) : Int)) = true → ∃ b o_3 : Nat, ∃ l c : Nat, cs_1.getD o (Value.tuple #[]) = slv b o_3 l c ∧ (0 ≤ (↑a_5.j : Int) ∧ (↑a_5.j : Int) < (↑l : Int)) ∧ ∃ b_3 lo o_4 : Nat, ∃ cs_2 : List Value, pv b (o_3 + (↑a_5.j : Int).toNat * 2) = pv b_3 (lo + o_4) ∧ a_5.H b_3 = some (lo, cs_2) ∧ ((∃ v : Value, cs_2[o_4]? = some v ∧ ∃ n : Int, v = Value.int IntKind.i64 n ∧ InR .i64 n) ∧ (∃ v : Value, cs_2[o_4 + 1]? = some v ∧ v.oneCell' = true) ∧ True) ∧ (InR .i64 (toI (cs_2.getD o_4 (Value.tuple #[]))) → (∃ a : Option Go.Addr, ∃ l c : Nat, cs_2.getD (o_4 + 1) (Value.tuple #[]) = Value.slice a l c) ∧ (nilS (cs_2.getD (o_4 + 1) (Value.tuple #[])) = true → ∃ l c : Nat, ∃ rows : Nat → Nat → Value, slAt a_5.H a_5.v [CK.int IntKind.i64, CK.deep] l c rows ∧ 0 + l ≤ l ∧ 1 ≤ 1 ∧ (l + 1) * 32 ≤ 140737488355328 ∧ ∀ cap : Nat, l + 1 ≤ cap → cap ≤ lenMax → (l + 1 ≤ c → 
 cap = c) → (cap ≠ 0 ∧ 0 + (l + 1) ≤ l + 1) ∧ ∀ (b lo : Nat) (cs_3 : List Value), pminusV a_5.H a_5.v b = none → cs_3.length = cap * 2 → (PRows cs_3 0 [CK.int IntKind.i64, CK.deep] (l + 1) fun (i j : Nat) => appRows rows 0 l (fun (i j : Nat) => flatRows 2 [Value.int IntKind.i64 (toI (cs_2.getD o_4 (Value.tuple #[]))), Value.slice none 0 0] (0 + i) j) (0 + i) j) → InR .i64 ((↑a_5.j : Int) + 1) ∧ ∃ (a' : LAllS), (↑a_5.j : Int) + 1 = (↑a'.j : Int) ∧ slv b lo (l + 1) cap = a'.v ∧ (↑(slLen (cs_1.getD o (Value.tuple #[]))) : Int) = (↑(slLen (cs_1.getD o (Value.tuple #[]))) : Int) ∧ cs_1.getD o (Value.tuple #[]) = cs_1.getD o (Value.tuple #[]) ∧ cs.getD o_1 (Value.tuple #[]) = cs.getD o_1 (Value.tuple #[]) ∧ decide ((↑a_2.i : Int) < (↑(slLen a.y.lv) : Int)) = decide ((↑a_2.i : Int) < (↑(slLen a.y.lv) : Int)) ∧ (↑a_2.i : Int) = (↑a_2.i : Int) ∧ (↑(slLen a.y.lv) : Int) = (↑(slLen a.y.lv) : Int) ∧ a.y.lv = a.y.lv ∧ false = false ∧ 0 = 0 ∧ pupd (pminusV a_5.H a_5.v) b lo cs_3 = a'.H ∧ 0 = 0 ∧ logQ a.L a.L a.y.lv a.y.lv ((a'.j ≤ (gl a.L.l a_2.i).recs.length ∧ AllI a a' (outR a.L.l a_2.i a'.j)) ∧ (gl a.L.l a_2.i).recs.length - a'.j < (gl a.L.l a_2.i).recs.length - a_5.j)) ∧ (nilS (cs_2.getD (o_4 + 1) (Value.tuple #[])) = false → 0 ≤ 0 ∧ ∃ l c : Nat, ∃ rows : Nat → Nat → Value, slAt a_5.H (cs_2.getD (o_4 + 1) (Value.tuple #[])) [CK.int IntKind.u8] l c rows ∧ (0 + l) * 1 ≤ 140737488355328 ∧ ∀ cap : Nat, 0 + l ≤ cap → cap ≤ lenMax → (0 + l ≤ 0 → cap = 0) → (cap ≠ 0 ∧ 0 + (0 + l) ≤ 0 + l) ∧ ∀ (b lo : Nat) (cs_3 : List Value), a_5.H b = none → 
 cs_3.length = cap * 1 → (PRows cs_3 0 [CK.int IntKind.u8] (0 + l) fun (i j : Nat) => appRows (flatRows 1 []) 0 0 rows (0 + i) j) → ∃ l_1 c : Nat, ∃ rows : Nat → Nat → Value, slAt (pupd a_5.H b lo cs_3) a_5.v [CK.int IntKind.i64, CK.deep] l_1 c rows ∧ 0 + l_1 ≤ l_1 ∧ (l_1 + 1) * 32 ≤ 140737488355328 ∧ ∀ cap_1 : Nat, l_1 + 1 ≤ cap_1 → cap_1 ≤ lenMax → (l_1 + 1 ≤ c → cap_1 = c) → (cap_1 ≠ 0 ∧ 0 + (l_1 + 1) ≤ l_1 + 1) ∧ ∀ (b_4 lo_1 : Nat) (cs_4 : List Value), pminusV (pupd a_5.H b lo cs_3) a_5.v b_4 = none → cs_4.length = cap_1 * 2 → (PRows cs_4 0 [CK.int IntKind.i64, CK.deep] (l_1 + 1) fun (i j : Nat) => appRows rows 0 l_1 (rowsOfA [A.int IntKind.i64 (toI (cs_2.getD o_4 (Value.tuple #[]))), A.val (slv b lo (0 + l) cap)] 2) (0 + i) j) → InR .i64 ((↑a_5.j : Int) + 1) ∧ ∃ (a' : LAllS), (↑a_5.j : Int) + 1 = (↑a'.j : Int) ∧ slv b_4 lo_1 (l_1 + 1) cap_1 = a'.v ∧ (↑(slLen (cs_1.getD o (Value.tuple #[]))) : Int) = (↑(slLen (cs_1.getD o (Value.tuple #[]))) : Int) ∧ cs_1.getD o (Value.tuple #[]) = cs_1.getD o (Value.tuple #[]) ∧ cs.getD o_1 (Value.tuple #[]) = cs.getD o_1 (Value.tuple #[]) ∧ decide ((↑a_2.i : Int) < (↑(slLen a.y.lv) : Int)) = decide ((↑a_2.i : Int) < (↑(slLen a.y.lv) : Int)) ∧ (↑a_2.i : Int) = (↑a_2.i : Int) ∧ (↑(slLen a.y.lv) : Int) = (↑(slLen a.y.lv) : Int) ∧ a.y.lv = a.y.lv ∧ false = false ∧ 0 = 0 ∧ pupd (pminusV (pupd a_5.H b lo cs_3) a_5.v) b_4 lo_1 cs_4 = a'.H ∧ 0 = 0 ∧ logQ a.L a.L a.y.lv a.y.lv ((a'.j ≤ (gl a.L.l a_2.i).recs.length ∧ AllI a a' (outR a.L.l a_2.i a'.j)) ∧ 
 (gl a.L.l a_2.i).recs.length - a'.j < (gl a.L.l a_2.i).recs.length - a_5.j)))) ∧ (decide ((↑a_5.j : Int) < (↑(slLen (cs_1.getD o (Value.tuple #[]))) : Int)) = false → InR .i64 ((↑a_2.i : Int) + 1) ∧ ∃ (a' : LAllS), (↑a_2.i : Int) + 1 = (↑a'.i : Int) ∧ a_5.v = a'.v ∧ (↑(slLen a.y.lv) : Int) = (↑(slLen a.y.lv) : Int) ∧ a.y.lv = a.y.lv ∧ false = false ∧ 0 = 0 ∧ a_5.H = a'.H ∧ 0 = 0 ∧ logQ a.L a.L a.y.lv a.y.lv ((a'.i ≤ a.L.l.length ∧ AllI a a' (allR (List.take a'.i a.L.l))) ∧ a.L.l.length - a'.i < a.L.l.length - a_2.i))) ∧ (decide ((↑a_2.i : Int) < (↑(slLen a.y.lv) : Int)) = false → ∃ b : LAllB, a_2.v = b.v ∧ a_2.H = b.H ∧ (OutAt b.H b.v b.vs (allR a.L.l) ∧ ∀ z : Nat, a.H z ≠ none → b.H z = a.H z ∧ ¬z ∈ fpV b.v ∧ ¬z ∈ List.flatMap fpV b.vs) ∧ True)) (by kernel_rfl) (by
 rintro ⟨H, y, L⟩ ⟨hl, h1, h2⟩
 dsimp only at *
 obtain ⟨e1, _, ⟨ea, ec, e2⟩, e3, _⟩ := hl.lv_len
 refine ⟨⟨ea, _, ec, e2, e3⟩, ⟨⟨0, 0, H, .slice none 0 0, []⟩, ?_⟩, fun x hx => ?_⟩
 ·have h0 : AllI ⟨H, y, L⟩ ⟨0, 0, H, .slice none 0 0, []⟩ (allR (L.l.take 0)) := ⟨⟨⟨0, .inl ⟨rfl, rfl, rfl⟩⟩, rfl, fun i hi => absurd hi (Nat.not_lt_zero i), fun x hx => by cases hx⟩, fun z _ => ⟨rfl, by simp [fpV], by simp⟩⟩
  (repeat' apply And.intro) <;> first | with_reducible (first | rfl | trivial | assumption) | omega | with_reducible (first | exact RowsEq.refl _ _ _ | exact Nat.le_refl _) | (dsimp only [List.length_cons, List.length_nil] <;> omega) | exact h0
 ·obtain ⟨i, j0, X, v, vs⟩ := x
  obtain ⟨hi, hI⟩ := hx
  dsimp only at hi hI ⊢
  rw [e1]
  refine ⟨fun c1 => ?_, fun c1 => ?_⟩
  ·have hi' : i < L.l.length := by have := of_decide_eq_true c1; omega
   have hX : LogAt X y L := hl.frame fun x hx => (hI.fr x (hl.dom x hx)).1
   obtain ⟨b, lo, o, c, cs, g1, g2, g3, g4⟩ := hX.at_ hi'
   have hs := hX.seg i hi'
   obtain ⟨c9, hrec⟩ := hs.recs
   obtain ⟨m1, m2, m3, m4, m5, ⟨ma, m7⟩, m6⟩ := slAt_len hrec
   obtain ⟨hrl, hbl⟩ := h2 i hi'
   refine ⟨_, _, _, _, g1, by omega, b, lo, o + i * 1, cs, by rw [Int.toNat_natCast, Nat.add_assoc], g2, ⟨⟨_, g3, rfl⟩, trivial⟩, ?_⟩
   refine ⟨_, _, g4, ?_⟩
   refine ⟨_, _, rfl, ?_⟩
   refine ⟨_, 0, _, _, rfl, hs.cell, ?_⟩
   refine ⟨⟨⟨_, rfl, m6⟩, trivial⟩, ⟨ma, _, _, m7, by omega⟩, ?_⟩
   simp only [show (segC (gl L.l i) (gl y.ys i).bv (gl y.ys i).rv).getD 4 (Value.tuple #[]) = (gl y.ys i).rv from rfl, m1]
   refine ⟨⟨⟨i, 0, X, v, vs⟩, ?_⟩, fun x2 hx2 => ?_⟩
   ·have h0 : AllI ⟨H, y, L⟩ ⟨i, 0, X, v, vs⟩ (outR L.l i 0) := by
     have : outR L.l i 0 = allR (L.l.take i) := by simp [outR]
     rw [this]; exact ⟨hI.out, hI.fr⟩
    (repeat' apply And.intro) <;> first | with_reducible (first | rfl | trivial | assumption) | omega | with_reducible (first | exact RowsEq.refl _ _ _ | exact Nat.le_refl _) | (dsimp only [List.length_cons, List.length_nil] <;> omega) | exact h0
   ·obtain ⟨i2, j, X, v, vs⟩ := x2
    obtain ⟨hj, hJ⟩ := hx2
    dsimp only at hj hJ ⊢
    have hX : LogAt X y L := hl.frame fun x hx => (hJ.fr x (hl.dom x hx)).1
    have hs := hX.seg i hi'
    obtain ⟨c9, hrec⟩ := hs.recs
    have hlen : (outR L.l i j).length ≤ 400400 := by
     have a1 := flatMap_take_len (l := L.l) (f := fun g : SegM => g.recs) (m := 400) (fun q hq => (h2 q hq).1) i (by omega)
     unfold outR allR
     rw [List.length_append, List.length_take]
     omega
    refine ⟨fun c2 => ?_, fun c2 => ⟨by simp only [InR]; omega, ⟨i + 1, 0, X, v, vs⟩, ?_⟩⟩
    ·have hj' : j < (gl L.l i).recs.length := by have := of_decide_eq_true c2; omega
     obtain ⟨b', lo', o', cs', q1, q2, q3, q4, q5, q6, q7, q8⟩ := rec_at hrec (k := j) hj'
     obtain ⟨cb, hbody⟩ := hs.body j hj'
     obtain ⟨w1, w2, w3, w4, w5, ⟨wa, w7⟩, w6⟩ := slAt_len hbody
     obtain ⟨hb1, hb2⟩ := hbl j hj'
     have hnil : nilS ((gl y.ys i).vs.getD j undef) = false := by
      rcases hbody with ⟨_, h0, _⟩ | ⟨b9, lo9, o9, cs9, h9, _⟩
      ·omega
      ·rw [h9]; rfl
     refine ⟨_, _, _, _, q1, by omega, b', lo', o' + j * 2, cs', by rw [Int.toNat_natCast]; congr 1; omega, q2, ⟨⟨_, q3, _, rfl, q6⟩, ⟨_, q4, q5⟩, trivial⟩, fun _ => ?_⟩
     rw [q7, q8]
     refine ⟨⟨wa, _, _, w7⟩, fun c4 => absurd c4 (by rw [hnil]; decide), fun _ => ?_⟩
     repeat (first | refine And.intro (by omega) ?_ | refine And.intro (by dsimp only; omega) ?_ | refine And.intro (by simp only [InR]; omega) ?_)
     refine ⟨_, cb, _, hbody, ?_⟩
     simp only [Nat.zero_add]
     repeat (first | refine And.intro (by omega) ?_ | refine And.intro (by dsimp only; omega) ?_ | refine And.intro (by simp only [InR]; omega) ?_)
     intro cap3 u1 u2 u3
     repeat (first | refine And.intro (by omega) ?_ | refine And.intro (by dsimp only; omega) ?_ | refine And.intro (by simp only [InR]; omega) ?_)
     intro p3 lo3 cs3 hp3 hl3 hr3
     obtain ⟨r, hr⟩ : ∃ r, r = gl (gl L.l i).recs j := ⟨_, rfl⟩
     rw [← hr] at hbody hb1 hb2 hr3 u1 u3 ⊢
     have hCb : BytesAt (pupd X p3 lo3 cs3) (slv p3 lo3 r.body.length cap3) r.body := by
      refine ⟨cap3, slAt_new hl3 u1 u2 hr3 fun q hq j hj => ?_⟩
      have hj0 : j = 0 := by simpa using hj
      subst hj0
      simp only [appRows, Nat.not_lt_zero, if_false, Nat.sub_zero]
     obtain ⟨c8, hout⟩ := hJ.out.rows
     have hx3 : ∀ x, X x ≠ none → x ≠ p3 := fun x hx e => hx (by rw [e]; exact hp3)
     have hout4 : slAt (pupd X p3 lo3 cs3) v ksRec (outR L.l i j).length c8 (recR (outR L.l i j) vs) := slAt_frame hout fun x hx => pupd_ne (hx3 x (slAt_dom hout x hx))
     refine ⟨_, c8, _, hout4, ?_⟩
     repeat (first | refine And.intro (by omega) ?_ | refine And.intro (by dsimp only; omega) ?_ | refine And.intro (by simp only [InR]; omega) ?_)
     intro cap4 v1 v2 v3
     repeat (first | refine And.intro (by omega) ?_ | refine And.intro (by dsimp only; omega) ?_ | refine And.intro (by simp only [InR]; omega) ?_)
     intro p4 lo4 cs4 hp4 hl4 hr4
     have hvl : vs.length = (outR L.l i j).length := hJ.out.len
     have hr5 : slAt (pupd (pminusV (pupd X p3 lo3 cs3) v) p4 lo4 cs4) (slv p4 lo4 ((outR L.l i j).length + 1) cap4) ksRec ((outR L.l i j).length + 1) cap4 (recR (outR L.l i j ++ [r]) (vs ++ [slv p3 lo3 r.body.length cap3])) := by
      refine slAt_new hl4 v1 v2 hr4 fun q hq j' hj2 => ?_
      simp only [appRows, recR, Nat.zero_add]
      by_cases hin : q < (outR L.l i j).length
      ·rw [if_pos hin, gl_append_left hin]
       by_cases hj0 : j' = 0
       ·rw [if_pos hj0, if_pos hj0]
       ·rw [if_neg hj0, if_neg hj0, List.getD_eq_getElem?_getD, List.getD_eq_getElem?_getD, List.getElem?_append_left (by omega)]
      ·rw [if_neg hin]
       obtain rfl : q = (outR L.l i j).length := by omega
       rw [Nat.sub_self]
       have hj2 : j' < 2 := hj2
       match j', hj2 with
       | 0, _ => rw [if_pos rfl, show (outR L.l i j).length = (outR L.l i j).length + 0 from rfl, gl_append_right]; rfl
       | 1, _ => rw [if_neg (by decide), List.getD_eq_getElem?_getD, List.getElem?_append_right (by omega), hvl, Nat.sub_self]; rfl
     obtain ⟨hO, hF⟩ := hJ.out.push (r := r) rfl hp3 hCb hp4 hr5
     have hN : AllI ⟨H, y, L⟩ ⟨i, j + 1, pupd (pminusV (pupd X p3 lo3 cs3) v) p4 lo4 cs4, slv p4 lo4 ((outR L.l i j).length + 1) cap4, vs ++ [slv p3 lo3 r.body.length cap3]⟩ (outR L.l i (j + 1)) := by
      refine ⟨by rw [outR_push hj', ← hr]; exact hO, fun z hz => ?_⟩
      obtain ⟨a1, a2, a3⟩ := hJ.fr z hz
      obtain ⟨b1, b2, b3⟩ := hF z (by rw [a1]; exact hz) a2 a3
      exact ⟨b1.trans a1, b2, b3⟩
     refine ⟨by simp only [InR]; omega, ⟨i, j + 1, pupd (pminusV (pupd X p3 lo3 cs3) v) p4 lo4 cs4, slv p4 lo4 ((outR L.l i j).length + 1) cap4, vs ++ [slv p3 lo3 r.body.length cap3]⟩, ?_⟩
     (repeat' apply And.intro) <;> first | with_reducible (first | rfl | trivial | assumption) | omega | with_reducible (first | exact RowsEq.refl _ _ _ | exact Nat.le_refl _) | (dsimp only [List.length_cons, List.length_nil] <;> omega) | exact hN
    ·have hj' : ¬ j < (gl L.l i).recs.length := by have := of_decide_eq_false c2; omega
     have hN : AllI ⟨H, y, L⟩ ⟨i + 1, 0, X, v, vs⟩ (allR (L.l.take (i + 1))) := by
      rw [← outR_next hi' (Nat.le_of_not_lt hj')]; exact ⟨hJ.out, hJ.fr⟩
     (repeat' apply And.intro) <;> first | with_reducible (first | rfl | trivial | assumption) | omega | with_reducible (first | exact RowsEq.refl _ _ _ | exact Nat.le_refl _) | (dsimp only [List.length_cons, List.length_nil] <;> omega) | exact hN
  ·have hi' : i = L.l.length := by have := of_decide_eq_false c1; omega
   subst hi'
   rw [List.take_length] at hI
   refine ⟨⟨X, v, vs⟩, ?_⟩
   (repeat' apply And.intro) <;> first | with_reducible (first | rfl | trivial | assumption) | omega | with_reducible (first | exact RowsEq.refl _ _ _ | exact Nat.le_refl _) | (dsimp only [List.length_cons, List.length_nil] <;> omega) | exact hI.out | exact hI.fr | rfl)
theorem callLAll : CallsBy (Y Tryz.prog).G.X 30 cLAll := fn_ok okY (tab := []) trivial bodyLAll

end Go.Proofs.YtfobhkibkdmglaaGreat

namespace Go.Proofs.YtfobhkibkdmglaaGreat.Ix
open Go.Sx
set_option maxRecDepth 100000
set_option linter.unusedVariables false

def x64 (a b : Int) : Int := ibits .xor .u64 a b
def w64 (a : Int) : Int := uw .u64 a
def stir1 (x : Int) : Int := w64 (x64 x (x / 1073741824) * 13787848793156543929)
def stir2 (x : Int) : Int := w64 (x64 x (x / 134217728) * 10723151780598845931)
def stir3 (x : Int) : Int := x64 x (x / 2147483648)
def stirI (x : Int) : Int := stir3 (stir2 (stir1 x))
noncomputable def cStir : Con where
 α := Int
 β := Unit
 m := 0
 m' := 0
 pre := fun _ => True
 args := fun a => [.a (.int .u64 a)]
 hp := fun _ => []
 ro := fun _ => []
 post := fun _ _ => True
 res := fun a _ => .a (.int .u64 (stirI a))
 hp' := fun _ _ => []
set_option maxHeartbeats 4000000 in
theorem bodyStir : fnBody (Y Tryz.prog) [] 66 cStir fun _ => [] := fnBody.of (p :=
 ∀ a : Int, True → (0 : Int) ≤ 30 ∧ (0 : Int) ≤ 27 ∧ (0 : Int) ≤ 31 ∧ ∃ b : Unit, ibits Go.BinOp.xor IntKind.u64 (uw .u64 (ibits Go.BinOp.xor IntKind.u64 (uw .u64 (ibits Go.BinOp.xor IntKind.u64 a (a / (1073741824 : Int)) * (13787848793156543929 : Int))) (uw .u64 (ibits Go.BinOp.xor IntKind.u64 a (a / (1073741824 : Int)) * (13787848793156543929 : Int)) / (134217728 : Int)) * (10723151780598845931 : Int))) (uw .u64 (ibits Go.BinOp.xor IntKind.u64 (uw .u64 (ibits Go.BinOp.xor IntKind.u64 a (a / (1073741824 : Int)) * (13787848793156543929 : Int))) (uw .u64 (ibits Go.BinOp.xor IntKind.u64 a (a / (1073741824 : Int)) * (13787848793156543929 : Int)) / (134217728 : Int)) * (10723151780598845931 : Int)) / (2147483648 : Int)) = Ix.stirI a ∧ True ∧ True) (by kernel_rfl) (by
 intro a _
 exact ⟨by decide, by decide, by decide, (), rfl, trivial, trivial⟩)
theorem callStir : CallsBy (Y Tryz.prog).G.X 66 cStir := fn_ok okY (tab := []) trivial bodyStir

/-- behind i bytes -/
def hashTo (h : Int) (b : ByteArray) : Nat → Int
 | 0 => h
 | i + 1 => w64 (stirI (x64 (hashTo h b i) ((b.data.getD i 0).toNat : Int)) + 1)
def hash1 (h : Int) (b : ByteArray) : Int := stirI (x64 (hashTo h b b.size) (w64 (256 + w64 b.size)))
def hashG (g : Nat → ByteArray) : Nat → Int
 | 0 => 11400714819323198485
 | i + 1 => hash1 (hashG g i) (g i)
structure OfA where
 g : Nat → ByteArray
 n : Nat
 cap : Nat
noncomputable def cMixOf : Con where
 α := OfA
 β := Unit
 m := 1
 m' := 1
 pre := fun a => a.n < 100000 ∧ ∀ i, i < a.n → (a.g i).size ≤ lenMax
 args := fun a => [.a (.slc 0 0 1 a.n a.cap)]
 hp := fun _ => []
 ro := fun a => [(0, .arr 9 [.str] a.n (fun i _ => .string (a.g i)))]
 post := fun _ _ => True
 res := fun a _ => .a (.int .u64 (hashG a.g a.n))
 hp' := fun _ _ => []
def iOf2 (a : OfA) (i : Nat) : An := .flat 6 Nat (fun s j => (s.int 15 j).set 3 (.a (.int .u64 (hashTo (hashG a.g i) (a.g i) j)))) (fun _ j => j ≤ (a.g i).size) (fun _ j => (a.g i).size - j)
def iOf1 (a : OfA) : An := .mk 3 Nat (fun s i => (s.int 9 i).set 3 (.a (.int .u64 (hashG a.g i)))) (fun _ i => i ≤ a.n) (fun _ i => a.n - i) (fun i => .mk 60 [iOf2 a i] [])
set_option maxHeartbeats 4000000 in
theorem bodyMixOf : fnBody (Y Tryz.prog) [(66, cStir)] 46 cMixOf fun a => [(46, [iOf1 a], [])] := fnBody.of (p :=
 ∀ a : Ix.OfA, (a.n < 100000 ∧ ∀ i : Nat, i < a.n → (a.g i).size ≤ lenMax) → (∃ a_2 : Nat, (11400714819323198485 : Int) = Ix.hashG a.g a_2 ∧ 0 = (↑a_2 : Int) ∧ (↑a.n : Int) = (↑a.n : Int) ∧ (0 = 0 ∧ a.n = a.n ∧ a.cap = a.cap) ∧ (0 : Int) = 0 ∧ (0 = 0 ∧ a.n = a.n ∧ a.cap = a.cap) ∧ (a.n ≤ a.n ∧ RowsEq a.n 1 (fun (i x : Nat) => Value.string (a.g i)) fun (i x : Nat) => Value.string (a.g i)) ∧ a_2 ≤ a.n ∧ True) ∧ ∀ a_2 : Nat, a_2 ≤ a.n → (decide ((↑a_2 : Int) < (↑a.n : Int)) = true → (0 ≤ (↑a_2 : Int) ∧ (↑a_2 : Int) < (↑a.n : Int)) ∧ 0 + (↑a_2 : Int).toNat < a.n ∧ (∃ a_5 : Nat, Ix.hashG a.g a_2 = Ix.hashTo (Ix.hashG a.g a_2) (a.g a_2) a_5 ∧ 0 = (↑a_5 : Int) ∧ (↑(a.g (0 + (↑a_2 : Int).toNat)).size : Int) = (↑(a.g (0 + (↑a_2 : Int).toNat)).size : Int) ∧ a.g (0 + (↑a_2 : Int).toNat) = a.g (0 + (↑a_2 : Int).toNat) ∧ decide ((↑a_2 : Int) < (↑a.n : Int)) = decide ((↑a_2 : Int) < (↑a.n : Int)) ∧ (↑a_2 : Int) = (↑a_2 : Int) ∧ (↑a.n : Int) = (↑a.n : Int) ∧ (0 = 0 ∧ a.n = a.n ∧ a.cap = a.cap) ∧ (0 : Int) = 0 ∧ (0 = 0 ∧ a.n = a.n ∧ a.cap = a.cap) ∧ (a.n ≤ a.n ∧ RowsEq a.n 1 (fun (i x : Nat) => Value.string (a.g i)) fun (i x : Nat) => Value.string (a.g i)) ∧ a_5 ≤ (a.g a_2).size ∧ True) ∧ ∀ a_5 : Nat, a_5 ≤ (a.g a_2).size → (decide ((↑a_5 : Int) < (↑(a.g (0 + (↑a_2 : Int).toNat)).size : Int)) = true → (0 ≤ (↑a_5 : Int) ∧ (↑a_5 : Int) < (↑(a.g (0 + (↑a_2 : Int).toNat)).size : Int)) ∧ ∃ a_8 : Int, ibits Go.BinOp.xor IntKind.u64 (Ix.hashTo (Ix.hashG a.g a_2) (a.g a_2) a_5) (↑((a.g (0 + (↑a_2 : Int).toNat)).data.getD (↑a_5 : Int).toNat (0 : UInt8)).toNat : Int) = a_8 ∧ 
 True ∧ ∀ b : Unit, True → InR .i64 ((↑a_5 : Int) + 1) ∧ ∃ (a' : Nat), uw .u64 (Ix.stirI a_8 + (1 : Int)) = Ix.hashTo (Ix.hashG a.g a_2) (a.g a_2) a' ∧ (↑a_5 : Int) + 1 = (↑a' : Int) ∧ (↑(a.g (0 + (↑a_2 : Int).toNat)).size : Int) = (↑(a.g (0 + (↑a_2 : Int).toNat)).size : Int) ∧ a.g (0 + (↑a_2 : Int).toNat) = a.g (0 + (↑a_2 : Int).toNat) ∧ decide ((↑a_2 : Int) < (↑a.n : Int)) = decide ((↑a_2 : Int) < (↑a.n : Int)) ∧ (↑a_2 : Int) = (↑a_2 : Int) ∧ (↑a.n : Int) = (↑a.n : Int) ∧ (0 = 0 ∧ a.n = a.n ∧ a.cap = a.cap) ∧ (0 : Int) = 0 ∧ (0 = 0 ∧ a.n = a.n ∧ a.cap = a.cap) ∧ (a.n ≤ a.n ∧ RowsEq a.n 1 (fun (i x : Nat) => Value.string (a.g i)) fun (i x : Nat) => Value.string (a.g i)) ∧ a' ≤ (a.g a_2).size ∧ (a.g a_2).size - a' < (a.g a_2).size - a_5) ∧ (decide ((↑a_5 : Int) < (↑(a.g (0 + (↑a_2 : Int).toNat)).size : Int)) = false → ∃ a_8 : Int, ibits Go.BinOp.xor IntKind.u64 (Ix.hashTo (Ix.hashG a.g a_2) (a.g a_2) a_5) (uw .u64 ((256 : Int) + uw .u64 (↑(a.g (0 + (↑a_2 : Int).toNat)).size : Int))) = a_8 ∧ True ∧ ∀ b : Unit, True → InR .i64 ((↑a_2 : Int) + 1) ∧ ∃ (a' : Nat), Ix.stirI a_8 = Ix.hashG a.g a' ∧ (↑a_2 : Int) + 1 = (↑a' : Int) ∧ (↑a.n : Int) = (↑a.n : Int) ∧ (0 = 0 ∧ a.n = a.n ∧ a.cap = a.cap) ∧ (0 : Int) = 0 ∧ (0 = 0 ∧ a.n = a.n ∧ a.cap = a.cap) ∧ (a.n ≤ a.n ∧ RowsEq a.n 1 (fun (i x : Nat) => Value.string (a.g i)) fun (i x : Nat) => Value.string (a.g i)) ∧ a' ≤ a.n ∧ a.n - a' < a.n - a_2)) ∧ (decide ((↑a_2 : Int) < (↑a.n : Int)) = false → ∃ b : Unit, Ix.hashG a.g a_2 = Ix.hashG a.g a.n ∧ 
 True ∧ True)) (by kernel_rfl) (by
 intro a h
 obtain ⟨hn, hs⟩ := h
 simp only [Nat.zero_add, Int.toNat_natCast]
 refine ⟨⟨0, by (repeat' apply And.intro) <;> (first | exact trivial | rfl | omega | assumption | exact RowsEq.refl _ _ _ | (simp only [InR]; omega) | (simp; done) | (simp; omega) | grind)⟩, fun i hi => ⟨fun h1 => ?_, fun h1 => ?_⟩⟩
 ·have hi' : i < a.n := by simpa using h1
  have hsz := hs i hi'
  refine ⟨by omega, hi', ⟨0, by (repeat' apply And.intro) <;> (first | exact trivial | rfl | omega | assumption | exact RowsEq.refl _ _ _ | (simp only [InR]; omega) | (simp; done) | (simp; omega) | grind)⟩, fun j hj => ⟨fun h2 => ?_, fun h2 => ?_⟩⟩
  ·have hj' : j < (a.g i).size := by simpa using h2
   refine ⟨by omega, _, rfl, trivial, fun _ _ => ⟨by simp only [InR, lenMax] at *; omega, j + 1, ?_⟩⟩
   (repeat' apply And.intro) <;> (first | exact trivial | rfl | omega | assumption | exact RowsEq.refl _ _ _ | (simp only [InR]; omega) | (simp; done) | (simp; omega) | grind)
  ·have hj' : j = (a.g i).size := by have : ¬ j < (a.g i).size := by simpa using h2
                                     omega
   subst hj'
   refine ⟨_, rfl, trivial, fun _ _ => ⟨by simp only [InR]; omega, i + 1, ?_⟩⟩
   (repeat' apply And.intro) <;> (first | exact trivial | rfl | omega | assumption | exact RowsEq.refl _ _ _ | (simp only [InR]; omega) | (simp; done) | (simp; omega) | grind)
 ·have hi' : i = a.n := by have : ¬ i < a.n := by simpa using h1
                           omega
  subst hi'
  exact ⟨(), rfl, trivial, trivial⟩)
theorem callMixOf : CallsBy (Y Tryz.prog).G.X 46 cMixOf := fn_ok okY (tab := [(66, cStir)]) ⟨callStir, trivial⟩ bodyMixOf
end Go.Proofs.YtfobhkibkdmglaaGreat.Ix

namespace Go.Proofs.YtfobhkibkdmglaaGreat.Ix
open Go.Sx
set_option maxRecDepth 100000
set_option linter.unusedVariables false

structure PlaceR where
 key : ByteArray
 pos : Int
 has : Bool
 gone : Bool
 deriving Inhabited
def encP (p : PlaceR) : List Value := [.string p.key, .int .i64 p.pos, .bool p.has, .bool p.gone]
def ksP : List CK := [.str, .int .i64, .bool, .bool]
def hashOf (key : ByteArray) : Int := hashG (fun _ => key) 1
def startOf (L : Nat) (key : ByteArray) : Nat := (hashOf key).toNat % L

/-- the road of find: so many places from here, a free one so far (or -1) -/
def hit (key : ByteArray) (p : PlaceR) : Bool := p.has && decide (p.key = key)
def bare (p : PlaceR) : Bool := !p.has && !p.gone
def findFrom (t : List PlaceR) (key : ByteArray) : Nat → Nat → Int → Int × Int
 | 0, _, free => (-1, free)
 | k + 1, i, free => if hit key (gl t i) then ((i : Int), (i : Int)) else
  let f := if !(gl t i).has && decide (free < 0) then (i : Int) else free
  if bare (gl t i) then (-1, f) else findFrom t key k ((i + 1) % t.length) f
def findP (t : List PlaceR) (key : ByteArray) : Int × Int := findFrom t key t.length (startOf t.length key) (-1)

/-- an index's cells, its places -/
def idxHp (o a : Nat) (t : List PlaceR) (cap n used : Nat) : List (Nat × Chunk) := [(o, .obj 111 [.slc a 0 4 t.length cap, .int .i64 n, .int .i64 used]), (a, .arr 118 ksP t.length (encRows encP t))]

theorem wrap_in {k : IntKind} {n : Int} (h : InR k n) : k.wrap n = n := by
 cases k <;> simp only [InR] at h <;> simp [IntKind.wrap, IntKind.bits, IntKind.signed, Int.emod_def] <;> omega
theorem x64_range (a b : Int) : 0 ≤ x64 a b ∧ x64 a b < 18446744073709551616 := by
 unfold x64 ibits
 simp only [uw_eq, uw]
 omega
theorem hashOf_nonneg (key : ByteArray) : 0 ≤ hashOf key := (x64_range _ _).1
theorem startOf_lt {L : Nat} (key : ByteArray) (h : 1 ≤ L) : startOf L key < L := Nat.mod_lt _ h
theorem start_eq {L : Nat} (key : ByteArray) (h : 1 ≤ L) (h2 : L < 100000) : uw .i64 (hashG (fun _ => key) 1 % uw .u64 (L : Int)) = (startOf L key : Int) := by
 have e1 : uw .u64 (L : Int) = L := by simp only [uw]; omega
 have h0 := hashOf_nonneg key
 have h3 := startOf_lt key h
 have e2 : hashOf key % (L : Int) = (startOf L key : Int) := by
  unfold startOf
  rw [Int.natCast_emod, Int.toNat_of_nonneg h0]
 rw [e1]
 show uw .i64 (hashOf key % (L : Int)) = _
 rw [e2]
 exact wrap_in (by simp only [InR]; omega)
theorem next_eq {i L : Nat} : ((i : Int) + 1).tmod (L : Int) = (((i + 1) % L : Nat) : Int) := by
 rw [Int.tmod_eq_emod_of_nonneg (by omega), Int.natCast_emod]; rfl
theorem find_step {t : List PlaceR} {key : ByteArray} {i at_ : Nat} {free : Int} {r : Int × Int} (hi : i < t.length) (h : findFrom t key (t.length - i) at_ free = r) :
 (if hit key (gl t at_) then ((at_ : Int), (at_ : Int)) else
 if bare (gl t at_) then (-1, if !(gl t at_).has && decide (free < 0) then (at_ : Int) else free) else findFrom t key (t.length - (i + 1)) ((at_ + 1) % t.length) (if !(gl t at_).has && decide (free < 0) then (at_ : Int) else free)) = r := by
 rw [← h, show t.length - i = (t.length - (i + 1)) + 1 by omega]; rfl

structure FindA where
 t : List PlaceR
 cap : Nat
 n : Nat
 used : Nat
 key : ByteArray
noncomputable def cFind : Con where
 α := FindA
 β := Unit
 m := 2
 m' := 2
 pre := fun a => 1 ≤ a.t.length ∧ a.t.length < 100000 ∧ a.key.size ≤ lenMax
 args := fun a => [.a (.ptr 0 0 0 0), .a (.str a.key)]
 hp := fun _ => []
 ro := fun a => idxHp 0 1 a.t a.cap a.n a.used
 post := fun _ _ => True
 res := fun a _ => .tup [.a (.int .i64 (findP a.t a.key).1), .a (.int .i64 (findP a.t a.key).2)]
 hp' := fun _ _ => []
def iFind (a : FindA) : An := .flat 4 (Nat × Nat × Int) (fun s x => ((s.int 25 x.1).int 7 x.2.1).set 6 (.a (.int .i64 x.2.2)))
 (fun _ x => x.1 ≤ a.t.length ∧ x.2.1 < a.t.length ∧ -1 ≤ x.2.2 ∧ x.2.2 < a.t.length ∧ findFrom a.t a.key (a.t.length - x.1) x.2.1 x.2.2 = findP a.t a.key) (fun _ x => a.t.length - x.1)
set_option maxHeartbeats 4000000 in
theorem bodyFind : fnBody (Y Tryz.prog) [(46, cMixOf)] 57 cFind fun a => [(57, [iFind a], [])] := fnBody.of (p :=
 ∀ a : Ix.FindA, 1 ≤ a.t.length ∧ a.t.length < 100000 ∧ a.key.size ≤ lenMax → ∃ a_2 : Ix.OfA, (0 = 0 ∧ 1 = a_2.n ∧ 1 = a_2.cap) ∧ (a_2.n ≤ 1 ∧ RowsEq a_2.n 1 (flatRows 1 [Value.string a.key]) fun (i x : Nat) => Value.string (a_2.g i)) ∧ (a_2.n < 100000 ∧ ∀ i : Nat, i < a_2.n → (a_2.g i).size ≤ lenMax) ∧ ∀ b : Unit, True → uw .u64 (↑a.t.length : Int) ≠ (0 : Int) ∧ (∃ a_4 : Nat × Nat × Int, (-1 : Int) = a_4.snd.snd ∧ uw .i64 (Ix.hashG a_2.g a_2.n % uw .u64 (↑a.t.length : Int)) = (↑a_4.snd.fst : Int) ∧ 0 = (↑a_4.fst : Int) ∧ (↑a.t.length : Int) = (↑a.t.length : Int) ∧ (0 : Int) = 0 ∧ (0 : Int) = 0 ∧ 0 = 0 ∧ a.key = a.key ∧ (0 = 0 ∧ a.t.length = a.t.length ∧ a.cap = a.cap) ∧ (↑a.n : Int) = (↑a.n : Int) ∧ (↑a.used : Int) = (↑a.used : Int) ∧ (a.t.length ≤ a.t.length ∧ RowsEq a.t.length 4 (encRows Ix.encP a.t) (encRows Ix.encP a.t)) ∧ (a_4.fst ≤ a.t.length ∧ a_4.snd.fst < a.t.length ∧ (-1 : Int) ≤ a_4.snd.snd ∧ a_4.snd.snd < (↑a.t.length : Int) ∧ Ix.findFrom a.t a.key (a.t.length - a_4.fst) a_4.snd.fst a_4.snd.snd = Ix.findP a.t a.key) ∧ True) ∧ ∀ a_4 : Nat × Nat × Int, a_4.fst ≤ a.t.length ∧ a_4.snd.fst < a.t.length ∧ (-1 : Int) ≤ a_4.snd.snd ∧ a_4.snd.snd < (↑a.t.length : Int) ∧ Ix.findFrom a.t a.key (a.t.length - a_4.fst) a_4.snd.fst a_4.snd.snd = Ix.findP a.t a.key → (decide ((↑a_4.fst : Int) < (↑a.t.length : Int)) = true → (0 ≤ (↑a_4.snd.fst : Int) ∧ (↑a_4.snd.fst : Int) < (↑a.t.length : Int)) ∧ 0 + (↑a_4.snd.fst : Int).toNat < a.t.length ∧ ((gl a.t (0 + (↑a_4.snd.fst : Int).toNat)).has = true → 
 (decide ((gl a.t (0 + (↑a_4.snd.fst : Int).toNat)).key = a.key) = true → ∃ b : Unit, (↑a_4.snd.fst : Int) = (Ix.findP a.t a.key).fst ∧ (↑a_4.snd.fst : Int) = (Ix.findP a.t a.key).snd ∧ True ∧ True) ∧ (decide ((gl a.t (0 + (↑a_4.snd.fst : Int).toNat)).key = a.key) = false → ((!(gl a.t (0 + (↑a_4.snd.fst : Int).toNat)).has) = true → (decide (a_4.snd.snd < (0 : Int)) = true → ((!(gl a.t (0 + (↑a_4.snd.fst : Int).toNat)).has) = true → ((!(gl a.t (0 + (↑a_4.snd.fst : Int).toNat)).gone) = true → ∃ b : Unit, (-1 : Int) = (Ix.findP a.t a.key).fst ∧ (↑a_4.snd.fst : Int) = (Ix.findP a.t a.key).snd ∧ True ∧ True) ∧ ((!(gl a.t (0 + (↑a_4.snd.fst : Int).toNat)).gone) = false → InR .i64 ((↑a_4.snd.fst : Int) + 1) ∧ (↑a.t.length : Int) ≠ (0 : Int) ∧ InR .i64 ((↑a_4.fst : Int) + 1) ∧ ∃ (a' : Nat × Nat × Int), (↑a_4.snd.fst : Int) = a'.snd.snd ∧ ((↑a_4.snd.fst : Int) + 1).tmod (↑a.t.length : Int) = (↑a'.snd.fst : Int) ∧ (↑a_4.fst : Int) + 1 = (↑a'.fst : Int) ∧ (↑a.t.length : Int) = (↑a.t.length : Int) ∧ (0 : Int) = 0 ∧ (0 : Int) = 0 ∧ 0 = 0 ∧ a.key = a.key ∧ (0 = 0 ∧ a.t.length = a.t.length ∧ a.cap = a.cap) ∧ (↑a.n : Int) = (↑a.n : Int) ∧ (↑a.used : Int) = (↑a.used : Int) ∧ (a.t.length ≤ a.t.length ∧ RowsEq a.t.length 4 (encRows Ix.encP a.t) (encRows Ix.encP a.t)) ∧ (a'.fst ≤ a.t.length ∧ a'.snd.fst < a.t.length ∧ (-1 : Int) ≤ a'.snd.snd ∧ a'.snd.snd < (↑a.t.length : Int) ∧ Ix.findFrom a.t a.key (a.t.length - a'.fst) a'.snd.fst a'.snd.snd = Ix.findP a.t a.key) ∧ a.t.length - a'.fst < a.t.length - a_4.fst)) ∧ 
 ((!(gl a.t (0 + (↑a_4.snd.fst : Int).toNat)).has) = false → InR .i64 ((↑a_4.snd.fst : Int) + 1) ∧ (↑a.t.length : Int) ≠ (0 : Int) ∧ InR .i64 ((↑a_4.fst : Int) + 1) ∧ ∃ (a' : Nat × Nat × Int), (↑a_4.snd.fst : Int) = a'.snd.snd ∧ ((↑a_4.snd.fst : Int) + 1).tmod (↑a.t.length : Int) = (↑a'.snd.fst : Int) ∧ (↑a_4.fst : Int) + 1 = (↑a'.fst : Int) ∧ (↑a.t.length : Int) = (↑a.t.length : Int) ∧ (0 : Int) = 0 ∧ (0 : Int) = 0 ∧ 0 = 0 ∧ a.key = a.key ∧ (0 = 0 ∧ a.t.length = a.t.length ∧ a.cap = a.cap) ∧ (↑a.n : Int) = (↑a.n : Int) ∧ (↑a.used : Int) = (↑a.used : Int) ∧ (a.t.length ≤ a.t.length ∧ RowsEq a.t.length 4 (encRows Ix.encP a.t) (encRows Ix.encP a.t)) ∧ (a'.fst ≤ a.t.length ∧ a'.snd.fst < a.t.length ∧ (-1 : Int) ≤ a'.snd.snd ∧ a'.snd.snd < (↑a.t.length : Int) ∧ Ix.findFrom a.t a.key (a.t.length - a'.fst) a'.snd.fst a'.snd.snd = Ix.findP a.t a.key) ∧ a.t.length - a'.fst < a.t.length - a_4.fst)) ∧ (decide (a_4.snd.snd < (0 : Int)) = false → ((!(gl a.t (0 + (↑a_4.snd.fst : Int).toNat)).has) = true → ((!(gl a.t (0 + (↑a_4.snd.fst : Int).toNat)).gone) = true → ∃ b : Unit, (-1 : Int) = (Ix.findP a.t a.key).fst ∧ a_4.snd.snd = (Ix.findP a.t a.key).snd ∧ True ∧ True) ∧ ((!(gl a.t (0 + (↑a_4.snd.fst : Int).toNat)).gone) = false → InR .i64 ((↑a_4.snd.fst : Int) + 1) ∧ (↑a.t.length : Int) ≠ (0 : Int) ∧ InR .i64 ((↑a_4.fst : Int) + 1) ∧ ∃ (a' : Nat × Nat × Int), a_4.snd.snd = a'.snd.snd ∧ ((↑a_4.snd.fst : Int) + 1).tmod (↑a.t.length : Int) = (↑a'.snd.fst : Int) ∧ (↑a_4.fst : Int) + 1 = (↑a'.fst : Int) ∧ 
 (↑a.t.length : Int) = (↑a.t.length : Int) ∧ (0 : Int) = 0 ∧ (0 : Int) = 0 ∧ 0 = 0 ∧ a.key = a.key ∧ (0 = 0 ∧ a.t.length = a.t.length ∧ a.cap = a.cap) ∧ (↑a.n : Int) = (↑a.n : Int) ∧ (↑a.used : Int) = (↑a.used : Int) ∧ (a.t.length ≤ a.t.length ∧ RowsEq a.t.length 4 (encRows Ix.encP a.t) (encRows Ix.encP a.t)) ∧ (a'.fst ≤ a.t.length ∧ a'.snd.fst < a.t.length ∧ (-1 : Int) ≤ a'.snd.snd ∧ a'.snd.snd < (↑a.t.length : Int) ∧ Ix.findFrom a.t a.key (a.t.length - a'.fst) a'.snd.fst a'.snd.snd = Ix.findP a.t a.key) ∧ a.t.length - a'.fst < a.t.length - a_4.fst)) ∧ ((!(gl a.t (0 + (↑a_4.snd.fst : Int).toNat)).has) = false → InR .i64 ((↑a_4.snd.fst : Int) + 1) ∧ (↑a.t.length : Int) ≠ (0 : Int) ∧ InR .i64 ((↑a_4.fst : Int) + 1) ∧ ∃ (a' : Nat × Nat × Int), a_4.snd.snd = a'.snd.snd ∧ ((↑a_4.snd.fst : Int) + 1).tmod (↑a.t.length : Int) = (↑a'.snd.fst : Int) ∧ (↑a_4.fst : Int) + 1 = (↑a'.fst : Int) ∧ (↑a.t.length : Int) = (↑a.t.length : Int) ∧ (0 : Int) = 0 ∧ (0 : Int) = 0 ∧ 0 = 0 ∧ a.key = a.key ∧ (0 = 0 ∧ a.t.length = a.t.length ∧ a.cap = a.cap) ∧ (↑a.n : Int) = (↑a.n : Int) ∧ (↑a.used : Int) = (↑a.used : Int) ∧ (a.t.length ≤ a.t.length ∧ RowsEq a.t.length 4 (encRows Ix.encP a.t) (encRows Ix.encP a.t)) ∧ (a'.fst ≤ a.t.length ∧ a'.snd.fst < a.t.length ∧ (-1 : Int) ≤ a'.snd.snd ∧ a'.snd.snd < (↑a.t.length : Int) ∧ Ix.findFrom a.t a.key (a.t.length - a'.fst) a'.snd.fst a'.snd.snd = Ix.findP a.t a.key) ∧ a.t.length - a'.fst < a.t.length - a_4.fst))) ∧ ((!(gl a.t (0 + (↑a_4.snd.fst : Int).toNat)).has) = false → 
 ((!(gl a.t (0 + (↑a_4.snd.fst : Int).toNat)).has) = true → ((!(gl a.t (0 + (↑a_4.snd.fst : Int).toNat)).gone) = true → ∃ b : Unit, (-1 : Int) = (Ix.findP a.t a.key).fst ∧ a_4.snd.snd = (Ix.findP a.t a.key).snd ∧ True ∧ True) ∧ ((!(gl a.t (0 + (↑a_4.snd.fst : Int).toNat)).gone) = false → InR .i64 ((↑a_4.snd.fst : Int) + 1) ∧ (↑a.t.length : Int) ≠ (0 : Int) ∧ InR .i64 ((↑a_4.fst : Int) + 1) ∧ ∃ (a' : Nat × Nat × Int), a_4.snd.snd = a'.snd.snd ∧ ((↑a_4.snd.fst : Int) + 1).tmod (↑a.t.length : Int) = (↑a'.snd.fst : Int) ∧ (↑a_4.fst : Int) + 1 = (↑a'.fst : Int) ∧ (↑a.t.length : Int) = (↑a.t.length : Int) ∧ (0 : Int) = 0 ∧ (0 : Int) = 0 ∧ 0 = 0 ∧ a.key = a.key ∧ (0 = 0 ∧ a.t.length = a.t.length ∧ a.cap = a.cap) ∧ (↑a.n : Int) = (↑a.n : Int) ∧ (↑a.used : Int) = (↑a.used : Int) ∧ (a.t.length ≤ a.t.length ∧ RowsEq a.t.length 4 (encRows Ix.encP a.t) (encRows Ix.encP a.t)) ∧ (a'.fst ≤ a.t.length ∧ a'.snd.fst < a.t.length ∧ (-1 : Int) ≤ a'.snd.snd ∧ a'.snd.snd < (↑a.t.length : Int) ∧ Ix.findFrom a.t a.key (a.t.length - a'.fst) a'.snd.fst a'.snd.snd = Ix.findP a.t a.key) ∧ a.t.length - a'.fst < a.t.length - a_4.fst)) ∧ ((!(gl a.t (0 + (↑a_4.snd.fst : Int).toNat)).has) = false → InR .i64 ((↑a_4.snd.fst : Int) + 1) ∧ (↑a.t.length : Int) ≠ (0 : Int) ∧ InR .i64 ((↑a_4.fst : Int) + 1) ∧ ∃ (a' : Nat × Nat × Int), a_4.snd.snd = a'.snd.snd ∧ ((↑a_4.snd.fst : Int) + 1).tmod (↑a.t.length : Int) = (↑a'.snd.fst : Int) ∧ (↑a_4.fst : Int) + 1 = (↑a'.fst : Int) ∧ (↑a.t.length : Int) = (↑a.t.length : Int) ∧ 
 (0 : Int) = 0 ∧ (0 : Int) = 0 ∧ 0 = 0 ∧ a.key = a.key ∧ (0 = 0 ∧ a.t.length = a.t.length ∧ a.cap = a.cap) ∧ (↑a.n : Int) = (↑a.n : Int) ∧ (↑a.used : Int) = (↑a.used : Int) ∧ (a.t.length ≤ a.t.length ∧ RowsEq a.t.length 4 (encRows Ix.encP a.t) (encRows Ix.encP a.t)) ∧ (a'.fst ≤ a.t.length ∧ a'.snd.fst < a.t.length ∧ (-1 : Int) ≤ a'.snd.snd ∧ a'.snd.snd < (↑a.t.length : Int) ∧ Ix.findFrom a.t a.key (a.t.length - a'.fst) a'.snd.fst a'.snd.snd = Ix.findP a.t a.key) ∧ a.t.length - a'.fst < a.t.length - a_4.fst)))) ∧ ((gl a.t (0 + (↑a_4.snd.fst : Int).toNat)).has = false → ((!(gl a.t (0 + (↑a_4.snd.fst : Int).toNat)).has) = true → (decide (a_4.snd.snd < (0 : Int)) = true → ((!(gl a.t (0 + (↑a_4.snd.fst : Int).toNat)).has) = true → ((!(gl a.t (0 + (↑a_4.snd.fst : Int).toNat)).gone) = true → ∃ b : Unit, (-1 : Int) = (Ix.findP a.t a.key).fst ∧ (↑a_4.snd.fst : Int) = (Ix.findP a.t a.key).snd ∧ True ∧ True) ∧ ((!(gl a.t (0 + (↑a_4.snd.fst : Int).toNat)).gone) = false → InR .i64 ((↑a_4.snd.fst : Int) + 1) ∧ (↑a.t.length : Int) ≠ (0 : Int) ∧ InR .i64 ((↑a_4.fst : Int) + 1) ∧ ∃ (a' : Nat × Nat × Int), (↑a_4.snd.fst : Int) = a'.snd.snd ∧ ((↑a_4.snd.fst : Int) + 1).tmod (↑a.t.length : Int) = (↑a'.snd.fst : Int) ∧ (↑a_4.fst : Int) + 1 = (↑a'.fst : Int) ∧ (↑a.t.length : Int) = (↑a.t.length : Int) ∧ (0 : Int) = 0 ∧ (0 : Int) = 0 ∧ 0 = 0 ∧ a.key = a.key ∧ (0 = 0 ∧ a.t.length = a.t.length ∧ a.cap = a.cap) ∧ (↑a.n : Int) = (↑a.n : Int) ∧ (↑a.used : Int) = (↑a.used : Int) ∧ (a.t.length ≤ a.t.length ∧ 
 RowsEq a.t.length 4 (encRows Ix.encP a.t) (encRows Ix.encP a.t)) ∧ (a'.fst ≤ a.t.length ∧ a'.snd.fst < a.t.length ∧ (-1 : Int) ≤ a'.snd.snd ∧ a'.snd.snd < (↑a.t.length : Int) ∧ Ix.findFrom a.t a.key (a.t.length - a'.fst) a'.snd.fst a'.snd.snd = Ix.findP a.t a.key) ∧ a.t.length - a'.fst < a.t.length - a_4.fst)) ∧ ((!(gl a.t (0 + (↑a_4.snd.fst : Int).toNat)).has) = false → InR .i64 ((↑a_4.snd.fst : Int) + 1) ∧ (↑a.t.length : Int) ≠ (0 : Int) ∧ InR .i64 ((↑a_4.fst : Int) + 1) ∧ ∃ (a' : Nat × Nat × Int), (↑a_4.snd.fst : Int) = a'.snd.snd ∧ ((↑a_4.snd.fst : Int) + 1).tmod (↑a.t.length : Int) = (↑a'.snd.fst : Int) ∧ (↑a_4.fst : Int) + 1 = (↑a'.fst : Int) ∧ (↑a.t.length : Int) = (↑a.t.length : Int) ∧ (0 : Int) = 0 ∧ (0 : Int) = 0 ∧ 0 = 0 ∧ a.key = a.key ∧ (0 = 0 ∧ a.t.length = a.t.length ∧ a.cap = a.cap) ∧ (↑a.n : Int) = (↑a.n : Int) ∧ (↑a.used : Int) = (↑a.used : Int) ∧ (a.t.length ≤ a.t.length ∧ RowsEq a.t.length 4 (encRows Ix.encP a.t) (encRows Ix.encP a.t)) ∧ (a'.fst ≤ a.t.length ∧ a'.snd.fst < a.t.length ∧ (-1 : Int) ≤ a'.snd.snd ∧ a'.snd.snd < (↑a.t.length : Int) ∧ Ix.findFrom a.t a.key (a.t.length - a'.fst) a'.snd.fst a'.snd.snd = Ix.findP a.t a.key) ∧ a.t.length - a'.fst < a.t.length - a_4.fst)) ∧ (decide (a_4.snd.snd < (0 : Int)) = false → ((!(gl a.t (0 + (↑a_4.snd.fst : Int).toNat)).has) = true → ((!(gl a.t (0 + (↑a_4.snd.fst : Int).toNat)).gone) = true → ∃ b : Unit, (-1 : Int) = (Ix.findP a.t a.key).fst ∧ a_4.snd.snd = (Ix.findP a.t a.key).snd ∧ True ∧ True) ∧ ((!(gl a.t (0 + (↑a_4.snd.fst : Int).toNat)).gone) = false → 
 InR .i64 ((↑a_4.snd.fst : Int) + 1) ∧ (↑a.t.length : Int) ≠ (0 : Int) ∧ InR .i64 ((↑a_4.fst : Int) + 1) ∧ ∃ (a' : Nat × Nat × Int), a_4.snd.snd = a'.snd.snd ∧ ((↑a_4.snd.fst : Int) + 1).tmod (↑a.t.length : Int) = (↑a'.snd.fst : Int) ∧ (↑a_4.fst : Int) + 1 = (↑a'.fst : Int) ∧ (↑a.t.length : Int) = (↑a.t.length : Int) ∧ (0 : Int) = 0 ∧ (0 : Int) = 0 ∧ 0 = 0 ∧ a.key = a.key ∧ (0 = 0 ∧ a.t.length = a.t.length ∧ a.cap = a.cap) ∧ (↑a.n : Int) = (↑a.n : Int) ∧ (↑a.used : Int) = (↑a.used : Int) ∧ (a.t.length ≤ a.t.length ∧ RowsEq a.t.length 4 (encRows Ix.encP a.t) (encRows Ix.encP a.t)) ∧ (a'.fst ≤ a.t.length ∧ a'.snd.fst < a.t.length ∧ (-1 : Int) ≤ a'.snd.snd ∧ a'.snd.snd < (↑a.t.length : Int) ∧ Ix.findFrom a.t a.key (a.t.length - a'.fst) a'.snd.fst a'.snd.snd = Ix.findP a.t a.key) ∧ a.t.length - a'.fst < a.t.length - a_4.fst)) ∧ ((!(gl a.t (0 + (↑a_4.snd.fst : Int).toNat)).has) = false → InR .i64 ((↑a_4.snd.fst : Int) + 1) ∧ (↑a.t.length : Int) ≠ (0 : Int) ∧ InR .i64 ((↑a_4.fst : Int) + 1) ∧ ∃ (a' : Nat × Nat × Int), a_4.snd.snd = a'.snd.snd ∧ ((↑a_4.snd.fst : Int) + 1).tmod (↑a.t.length : Int) = (↑a'.snd.fst : Int) ∧ (↑a_4.fst : Int) + 1 = (↑a'.fst : Int) ∧ (↑a.t.length : Int) = (↑a.t.length : Int) ∧ (0 : Int) = 0 ∧ (0 : Int) = 0 ∧ 0 = 0 ∧ a.key = a.key ∧ (0 = 0 ∧ a.t.length = a.t.length ∧ a.cap = a.cap) ∧ (↑a.n : Int) = (↑a.n : Int) ∧ (↑a.used : Int) = (↑a.used : Int) ∧ (a.t.length ≤ a.t.length ∧ RowsEq a.t.length 4 (encRows Ix.encP a.t) (encRows Ix.encP a.t)) ∧ (a'.fst ≤ a.t.length ∧ 
 a'.snd.fst < a.t.length ∧ (-1 : Int) ≤ a'.snd.snd ∧ a'.snd.snd < (↑a.t.length : Int) ∧ Ix.findFrom a.t a.key (a.t.length - a'.fst) a'.snd.fst a'.snd.snd = Ix.findP a.t a.key) ∧ a.t.length - a'.fst < a.t.length - a_4.fst))) ∧ ((!(gl a.t (0 + (↑a_4.snd.fst : Int).toNat)).has) = false → ((!(gl a.t (0 + (↑a_4.snd.fst : Int).toNat)).has) = true → ((!(gl a.t (0 + (↑a_4.snd.fst : Int).toNat)).gone) = true → ∃ b : Unit, (-1 : Int) = (Ix.findP a.t a.key).fst ∧ a_4.snd.snd = (Ix.findP a.t a.key).snd ∧ True ∧ True) ∧ ((!(gl a.t (0 + (↑a_4.snd.fst : Int).toNat)).gone) = false → InR .i64 ((↑a_4.snd.fst : Int) + 1) ∧ (↑a.t.length : Int) ≠ (0 : Int) ∧ InR .i64 ((↑a_4.fst : Int) + 1) ∧ ∃ (a' : Nat × Nat × Int), a_4.snd.snd = a'.snd.snd ∧ ((↑a_4.snd.fst : Int) + 1).tmod (↑a.t.length : Int) = (↑a'.snd.fst : Int) ∧ (↑a_4.fst : Int) + 1 = (↑a'.fst : Int) ∧ (↑a.t.length : Int) = (↑a.t.length : Int) ∧ (0 : Int) = 0 ∧ (0 : Int) = 0 ∧ 0 = 0 ∧ a.key = a.key ∧ (0 = 0 ∧ a.t.length = a.t.length ∧ a.cap = a.cap) ∧ (↑a.n : Int) = (↑a.n : Int) ∧ (↑a.used : Int) = (↑a.used : Int) ∧ (a.t.length ≤ a.t.length ∧ RowsEq a.t.length 4 (encRows Ix.encP a.t) (encRows Ix.encP a.t)) ∧ (a'.fst ≤ a.t.length ∧ a'.snd.fst < a.t.length ∧ (-1 : Int) ≤ a'.snd.snd ∧ a'.snd.snd < (↑a.t.length : Int) ∧ Ix.findFrom a.t a.key (a.t.length - a'.fst) a'.snd.fst a'.snd.snd = Ix.findP a.t a.key) ∧ a.t.length - a'.fst < a.t.length - a_4.fst)) ∧ ((!(gl a.t (0 + (↑a_4.snd.fst : Int).toNat)).has) = false → InR .i64 ((↑a_4.snd.fst : Int) + 1) ∧ 
 (↑a.t.length : Int) ≠ (0 : Int) ∧ InR .i64 ((↑a_4.fst : Int) + 1) ∧ ∃ (a' : Nat × Nat × Int), a_4.snd.snd = a'.snd.snd ∧ ((↑a_4.snd.fst : Int) + 1).tmod (↑a.t.length : Int) = (↑a'.snd.fst : Int) ∧ (↑a_4.fst : Int) + 1 = (↑a'.fst : Int) ∧ (↑a.t.length : Int) = (↑a.t.length : Int) ∧ (0 : Int) = 0 ∧ (0 : Int) = 0 ∧ 0 = 0 ∧ a.key = a.key ∧ (0 = 0 ∧ a.t.length = a.t.length ∧ a.cap = a.cap) ∧ (↑a.n : Int) = (↑a.n : Int) ∧ (↑a.used : Int) = (↑a.used : Int) ∧ (a.t.length ≤ a.t.length ∧ RowsEq a.t.length 4 (encRows Ix.encP a.t) (encRows Ix.encP a.t)) ∧ (a'.fst ≤ a.t.length ∧ a'.snd.fst < a.t.length ∧ (-1 : Int) ≤ a'.snd.snd ∧ a'.snd.snd < (↑a.t.length : Int) ∧ Ix.findFrom a.t a.key (a.t.length - a'.fst) a'.snd.fst a'.snd.snd = Ix.findP a.t a.key) ∧ a.t.length - a'.fst < a.t.length - a_4.fst)))) ∧ (decide ((↑a_4.fst : Int) < (↑a.t.length : Int)) = false → ∃ b : Unit, (-1 : Int) = (Ix.findP a.t a.key).fst ∧ a_4.snd.snd = (Ix.findP a.t a.key).snd ∧ True ∧ True)) (by kernel_rfl) (by
 intro a h
 obtain ⟨h1, h2, h3⟩ := h
 have hst := startOf_lt a.key h1
 refine ⟨⟨fun _ => a.key, 1, 1⟩, ?_⟩
 simp only [Nat.zero_add, Int.toNat_natCast, start_eq a.key h1 h2, next_eq]
 refine ⟨⟨trivial, trivial, trivial⟩, ⟨Nat.le_refl _, .of_cells fun j hj => ?_⟩, ⟨by omega, fun _ _ => h3⟩, fun _ _ => ⟨by simp only [uw]; omega, ⟨(0, startOf a.t.length a.key, -1), ?_⟩, fun x hx => ?_⟩⟩
 ·have : j = 0 := by omega
  subst this; rfl
 ·dsimp only
  (repeat' apply And.intro) <;> (first | exact trivial | rfl | omega | assumption | exact RowsEq.refl _ _ _ | (simp only [InR]; omega) | (simp; done) | (simp; omega) | grind)
 ·obtain ⟨i, at_, free⟩ := x
  obtain ⟨i1, i2, i3, i4, i5⟩ := hx
  dsimp only at *
  have hmod : (at_ + 1) % a.t.length < a.t.length := Nat.mod_lt _ h1
  have stop : i = a.t.length → findP a.t a.key = (-1, free) := by
   intro e; rw [← i5, e, Nat.sub_self]; rfl
  have step := fun hi => find_step (i := i) hi i5
  simp only [InR]
  repeat' (first | intro _ | apply And.intro | apply Exists.intro () | apply Exists.intro ((i + 1, (at_ + 1) % a.t.length, _) : Nat × Nat × Int))
  all_goals (try with_reducible rfl)
  all_goals (try exact RowsEq.refl _ _ _)
  all_goals (try dsimp only)
  all_goals (try simp only [decide_eq_true_eq, decide_eq_false_iff_not] at *)
  all_goals (try omega)
  all_goals (try (have h9 := step (by omega); grind [hit, bare]))
  all_goals (try (have h9 := stop (by omega); rw [h9])))
theorem callFind : CallsBy (Y Tryz.prog).G.X 57 cFind := fn_ok okY (tab := [(46, cMixOf)]) ⟨callMixOf, trivial⟩ bodyFind

/-! ### Put, where the table need not grow -/

structure IdxR where
 t : List PlaceR
 n : Nat
 used : Nat
def putRet (x : IdxR) (key : ByteArray) : Int := if 0 ≤ (findP x.t key).1 then (gl x.t (findP x.t key).1.toNat).pos else 0
def putI (x : IdxR) (key : ByteArray) (pos : Int) : IdxR :=
 if 0 ≤ (findP x.t key).1 then { x with t := x.t.set (findP x.t key).1.toNat { gl x.t (findP x.t key).1.toNat with pos := pos } }
 else ⟨x.t.set (findP x.t key).2.toNat ⟨key, pos, true, false⟩, x.n + 1, if (gl x.t (findP x.t key).2.toNat).gone then x.used else x.used + 1⟩
theorem putI_length (x : IdxR) (key : ByteArray) (pos : Int) : (putI x key pos).t.length = x.t.length := by unfold putI; split <;> simp
theorem findFrom_lt (t : List PlaceR) (key : ByteArray) (h : 1 ≤ t.length) : ∀ (k i : Nat) (f : Int), i < t.length → f < t.length → (findFrom t key k i f).1 < t.length ∧ (findFrom t key k i f).2 < t.length
 | 0, i, f, hi, hf => by simp only [findFrom]; omega
 | k + 1, i, f, hi, hf => by
  have h1 : (if !(gl t i).has && decide (f < 0) then (i : Int) else f) < t.length := by split <;> omega
  unfold findFrom
  by_cases hh : hit key (gl t i) = true
  ·rw [if_pos hh]; exact ⟨by simp only; omega, by simp only; omega⟩
  ·rw [if_neg hh]
   dsimp only
   by_cases hb : bare (gl t i) = true
   ·rw [if_pos hb]; exact ⟨by simp only; omega, h1⟩
   ·rw [if_neg hb]; exact findFrom_lt t key h k _ _ (Nat.mod_lt _ h) h1
theorem findP_lt {t : List PlaceR} (key : ByteArray) (h : 1 ≤ t.length) : (findP t key).1 < t.length ∧ (findP t key).2 < t.length :=
 findFrom_lt t key h _ _ _ (startOf_lt key h) (by omega)

structure PutA where
 x : IdxR
 cap : Nat
 key : ByteArray
 pos : Int
noncomputable def cPut0 : Con where
 α := PutA
 β := Unit
 m := 2
 m' := 2
 pre := fun a => 1 ≤ a.x.t.length ∧ a.x.t.length < 100000 ∧ a.key.size ≤ lenMax ∧ 2 * a.x.used < a.x.t.length ∧ a.x.n < 100000 ∧ ((findP a.x.t a.key).1 < 0 → 0 ≤ (findP a.x.t a.key).2)
 args := fun a => [.a (.ptr 0 0 0 0), .a (.str a.key), .a (.int .i64 a.pos)]
 hp := fun a => idxHp 0 1 a.x.t a.cap a.x.n a.x.used
 ro := fun _ => []
 post := fun _ _ => True
 res := fun a _ => .a (.int .i64 (putRet a.x a.key))
 hp' := fun a _ => idxHp 0 1 (putI a.x a.key a.pos).t a.cap (putI a.x a.key a.pos).n (putI a.x a.key a.pos).used
/-- not called here -/
noncomputable def cNever : Con where
 α := Unit
 β := Unit
 m := 1
 m' := 1
 pre := fun _ => False
 args := fun _ => [.a (.ptr 0 0 0 0)]
 hp := fun _ => []
 ro := fun _ => []
 post := fun _ _ => True
 res := fun _ _ => .a .any
 hp' := fun _ _ => []
theorem callNever (f : Nat) : CallsBy (Y Tryz.prog).G.X f cNever := fn_ok okY (tab := []) trivial (l := fun _ => []) ⟨fun a h => False.elim h⟩
set_option maxHeartbeats 4000000 in
theorem bodyPut0 : fnBody (Y Tryz.prog) [(57, cFind), (58, cNever)] 33 cPut0 fun _ => [] := fnBody.of (p :=
 ∀ a : Ix.PutA, 1 ≤ a.x.t.length ∧ a.x.t.length < 100000 ∧ a.key.size ≤ lenMax ∧ 2 * a.x.used < a.x.t.length ∧ a.x.n < 100000 ∧ ((Ix.findP a.x.t a.key).fst < (0 : Int) → (0 : Int) ≤ (Ix.findP a.x.t a.key).snd) → InR .i64 (↑a.x.used : Int) → InR .i64 ((2 : Int) * (↑a.x.used : Int)) ∧ (decide ((↑a.x.t.length : Int) ≤ 2 * (↑a.x.used : Int)) = true → ∃ a_4 : Unit, 0 = 0 ∧ False ∧ ∀ b : Unit, True → ∃ a_6 : Ix.FindA, 0 = 0 ∧ a.key = a_6.key ∧ (0 = 0 ∧ a.x.t.length = a_6.t.length ∧ a.cap = a_6.cap) ∧ (↑a.x.n : Int) = (↑a_6.n : Int) ∧ (↑a.x.used : Int) = (↑a_6.used : Int) ∧ (a_6.t.length ≤ a.x.t.length ∧ RowsEq a_6.t.length 4 (encRows Ix.encP a.x.t) (encRows Ix.encP a_6.t)) ∧ (1 ≤ a_6.t.length ∧ a_6.t.length < 100000 ∧ a_6.key.size ≤ lenMax) ∧ ∀ b : Unit, True → (decide ((0 : Int) ≤ (Ix.findP a_6.t a_6.key).fst) = true → ((0 : Int) ≤ (Ix.findP a_6.t a_6.key).fst ∧ (Ix.findP a_6.t a_6.key).fst < (↑a.x.t.length : Int)) ∧ 0 + (Ix.findP a_6.t a_6.key).fst.toNat < a.x.t.length ∧ (InR .i64 (gl a.x.t (0 + (Ix.findP a_6.t a_6.key).fst.toNat)).pos → ((0 : Int) ≤ (Ix.findP a_6.t a_6.key).fst ∧ (Ix.findP a_6.t a_6.key).fst < (↑a.x.t.length : Int)) ∧ 0 + (Ix.findP a_6.t a_6.key).fst.toNat < a.x.t.length ∧ ∃ b : Unit, (gl a.x.t (0 + (Ix.findP a_6.t a_6.key).fst.toNat)).pos = Ix.putRet a.x a.key ∧ (0 = 0 ∧ a.x.t.length = (Ix.putI a.x a.key a.pos).t.length ∧ a.cap = a.cap) ∧ (↑a.x.n : Int) = (↑(Ix.putI a.x a.key a.pos).n : Int) ∧ (↑a.x.used : Int) = (↑(Ix.putI a.x a.key a.pos).used : Int) ∧ ((Ix.putI a.x a.key a.pos).t.length ≤ a.x.t.length ∧ 
 RowsEq (Ix.putI a.x a.key a.pos).t.length 4 (updR (encRows Ix.encP a.x.t) (0 + (Ix.findP a_6.t a_6.key).fst.toNat) 1 [Value.int IntKind.i64 a.pos]) (encRows Ix.encP (Ix.putI a.x a.key a.pos).t)) ∧ True ∧ True)) ∧ (decide ((0 : Int) ≤ (Ix.findP a_6.t a_6.key).fst) = false → ((0 : Int) ≤ (Ix.findP a_6.t a_6.key).snd ∧ (Ix.findP a_6.t a_6.key).snd < (↑a.x.t.length : Int)) ∧ 0 + (Ix.findP a_6.t a_6.key).snd.toNat < a.x.t.length ∧ ((!(gl a.x.t (0 + (Ix.findP a_6.t a_6.key).snd.toNat)).gone) = true → InR .i64 (↑a.x.used : Int) → InR .i64 ((↑a.x.used : Int) + 1) ∧ ((0 : Int) ≤ (Ix.findP a_6.t a_6.key).snd ∧ (Ix.findP a_6.t a_6.key).snd < (↑a.x.t.length : Int)) ∧ 0 + (Ix.findP a_6.t a_6.key).snd.toNat < a.x.t.length ∧ (InR .i64 (↑a.x.n : Int) → InR .i64 ((↑a.x.n : Int) + 1) ∧ ∃ b : Unit, (0 : Int) = Ix.putRet a.x a.key ∧ (0 = 0 ∧ a.x.t.length = (Ix.putI a.x a.key a.pos).t.length ∧ a.cap = a.cap) ∧ (↑a.x.n : Int) + 1 = (↑(Ix.putI a.x a.key a.pos).n : Int) ∧ (↑a.x.used : Int) + 1 = (↑(Ix.putI a.x a.key a.pos).used : Int) ∧ ((Ix.putI a.x a.key a.pos).t.length ≤ a.x.t.length ∧ RowsEq (Ix.putI a.x a.key a.pos).t.length 4 (updR (encRows Ix.encP a.x.t) (0 + (Ix.findP a_6.t a_6.key).snd.toNat) 0 [Value.string a.key, Value.int IntKind.i64 a.pos, Value.bool true, Value.bool false]) (encRows Ix.encP (Ix.putI a.x a.key a.pos).t)) ∧ True ∧ True)) ∧ ((!(gl a.x.t (0 + (Ix.findP a_6.t a_6.key).snd.toNat)).gone) = false → ((0 : Int) ≤ (Ix.findP a_6.t a_6.key).snd ∧ (Ix.findP a_6.t a_6.key).snd < (↑a.x.t.length : Int)) ∧ 
 0 + (Ix.findP a_6.t a_6.key).snd.toNat < a.x.t.length ∧ (InR .i64 (↑a.x.n : Int) → InR .i64 ((↑a.x.n : Int) + 1) ∧ ∃ b : Unit, (0 : Int) = Ix.putRet a.x a.key ∧ (0 = 0 ∧ a.x.t.length = (Ix.putI a.x a.key a.pos).t.length ∧ a.cap = a.cap) ∧ (↑a.x.n : Int) + 1 = (↑(Ix.putI a.x a.key a.pos).n : Int) ∧ (↑a.x.used : Int) = (↑(Ix.putI a.x a.key a.pos).used : Int) ∧ ((Ix.putI a.x a.key a.pos).t.length ≤ a.x.t.length ∧ RowsEq (Ix.putI a.x a.key a.pos).t.length 4 (updR (encRows Ix.encP a.x.t) (0 + (Ix.findP a_6.t a_6.key).snd.toNat) 0 [Value.string a.key, Value.int IntKind.i64 a.pos, Value.bool true, Value.bool false]) (encRows Ix.encP (Ix.putI a.x a.key a.pos).t)) ∧ True ∧ True)))) ∧ (decide ((↑a.x.t.length : Int) ≤ 2 * (↑a.x.used : Int)) = false → ∃ a_4 : Ix.FindA, 0 = 0 ∧ a.key = a_4.key ∧ (0 = 0 ∧ a.x.t.length = a_4.t.length ∧ a.cap = a_4.cap) ∧ (↑a.x.n : Int) = (↑a_4.n : Int) ∧ (↑a.x.used : Int) = (↑a_4.used : Int) ∧ (a_4.t.length ≤ a.x.t.length ∧ RowsEq a_4.t.length 4 (encRows Ix.encP a.x.t) (encRows Ix.encP a_4.t)) ∧ (1 ≤ a_4.t.length ∧ a_4.t.length < 100000 ∧ a_4.key.size ≤ lenMax) ∧ ∀ b : Unit, True → (decide ((0 : Int) ≤ (Ix.findP a_4.t a_4.key).fst) = true → ((0 : Int) ≤ (Ix.findP a_4.t a_4.key).fst ∧ (Ix.findP a_4.t a_4.key).fst < (↑a.x.t.length : Int)) ∧ 0 + (Ix.findP a_4.t a_4.key).fst.toNat < a.x.t.length ∧ (InR .i64 (gl a.x.t (0 + (Ix.findP a_4.t a_4.key).fst.toNat)).pos → ((0 : Int) ≤ (Ix.findP a_4.t a_4.key).fst ∧ (Ix.findP a_4.t a_4.key).fst < (↑a.x.t.length : Int)) ∧ 
 0 + (Ix.findP a_4.t a_4.key).fst.toNat < a.x.t.length ∧ ∃ b : Unit, (gl a.x.t (0 + (Ix.findP a_4.t a_4.key).fst.toNat)).pos = Ix.putRet a.x a.key ∧ (0 = 0 ∧ a.x.t.length = (Ix.putI a.x a.key a.pos).t.length ∧ a.cap = a.cap) ∧ (↑a.x.n : Int) = (↑(Ix.putI a.x a.key a.pos).n : Int) ∧ (↑a.x.used : Int) = (↑(Ix.putI a.x a.key a.pos).used : Int) ∧ ((Ix.putI a.x a.key a.pos).t.length ≤ a.x.t.length ∧ RowsEq (Ix.putI a.x a.key a.pos).t.length 4 (updR (encRows Ix.encP a.x.t) (0 + (Ix.findP a_4.t a_4.key).fst.toNat) 1 [Value.int IntKind.i64 a.pos]) (encRows Ix.encP (Ix.putI a.x a.key a.pos).t)) ∧ True ∧ True)) ∧ (decide ((0 : Int) ≤ (Ix.findP a_4.t a_4.key).fst) = false → ((0 : Int) ≤ (Ix.findP a_4.t a_4.key).snd ∧ (Ix.findP a_4.t a_4.key).snd < (↑a.x.t.length : Int)) ∧ 0 + (Ix.findP a_4.t a_4.key).snd.toNat < a.x.t.length ∧ ((!(gl a.x.t (0 + (Ix.findP a_4.t a_4.key).snd.toNat)).gone) = true → InR .i64 (↑a.x.used : Int) → InR .i64 ((↑a.x.used : Int) + 1) ∧ ((0 : Int) ≤ (Ix.findP a_4.t a_4.key).snd ∧ (Ix.findP a_4.t a_4.key).snd < (↑a.x.t.length : Int)) ∧ 0 + (Ix.findP a_4.t a_4.key).snd.toNat < a.x.t.length ∧ (InR .i64 (↑a.x.n : Int) → InR .i64 ((↑a.x.n : Int) + 1) ∧ ∃ b : Unit, (0 : Int) = Ix.putRet a.x a.key ∧ (0 = 0 ∧ a.x.t.length = (Ix.putI a.x a.key a.pos).t.length ∧ a.cap = a.cap) ∧ (↑a.x.n : Int) + 1 = (↑(Ix.putI a.x a.key a.pos).n : Int) ∧ (↑a.x.used : Int) + 1 = (↑(Ix.putI a.x a.key a.pos).used : Int) ∧ ((Ix.putI a.x a.key a.pos).t.length ≤ a.x.t.length ∧ RowsEq (Ix.putI a.x a.key a.pos).t.length 4 (updR (encRows Ix.encP a.x.t) (0 + (Ix.findP a_4.t a_4.key).snd.toNat) 0 [Value.string a.key, Value.int IntKind.i64 a.pos, Value.bool true, Value.bool false]) (encRows Ix.encP (Ix.putI a.x a.key a.pos).t)) ∧ 
 True ∧ True)) ∧ ((!(gl a.x.t (0 + (Ix.findP a_4.t a_4.key).snd.toNat)).gone) = false → ((0 : Int) ≤ (Ix.findP a_4.t a_4.key).snd ∧ (Ix.findP a_4.t a_4.key).snd < (↑a.x.t.length : Int)) ∧ 0 + (Ix.findP a_4.t a_4.key).snd.toNat < a.x.t.length ∧ (InR .i64 (↑a.x.n : Int) → InR .i64 ((↑a.x.n : Int) + 1) ∧ ∃ b : Unit, (0 : Int) = Ix.putRet a.x a.key ∧ (0 = 0 ∧ a.x.t.length = (Ix.putI a.x a.key a.pos).t.length ∧ a.cap = a.cap) ∧ (↑a.x.n : Int) + 1 = (↑(Ix.putI a.x a.key a.pos).n : Int) ∧ (↑a.x.used : Int) = (↑(Ix.putI a.x a.key a.pos).used : Int) ∧ ((Ix.putI a.x a.key a.pos).t.length ≤ a.x.t.length ∧ RowsEq (Ix.putI a.x a.key a.pos).t.length 4 (updR (encRows Ix.encP a.x.t) (0 + (Ix.findP a_4.t a_4.key).snd.toNat) 0 [Value.string a.key, Value.int IntKind.i64 a.pos, Value.bool true, Value.bool false]) (encRows Ix.encP (Ix.putI a.x a.key a.pos).t)) ∧ True ∧ True))))) (by kernel_rfl) (by
 intro a h
 obtain ⟨h1, h2, h3, h4, h5, h6⟩ := h
 obtain ⟨l1, l2⟩ := findP_lt a.key h1
 have hl := putI_length a.x a.key a.pos
 have yes : 0 ≤ (findP a.x.t a.key).1 → putI a.x a.key a.pos = { a.x with t := a.x.t.set (findP a.x.t a.key).1.toNat { gl a.x.t (findP a.x.t a.key).1.toNat with pos := a.pos } } := fun e => if_pos e
 have no : ¬ 0 ≤ (findP a.x.t a.key).1 → putI a.x a.key a.pos = ⟨a.x.t.set (findP a.x.t a.key).2.toNat ⟨a.key, a.pos, true, false⟩, a.x.n + 1, if (gl a.x.t (findP a.x.t a.key).2.toNat).gone then a.x.used else a.x.used + 1⟩ := fun e => if_neg e
 simp only [Nat.zero_add, InR]
 refine fun _ => ⟨by omega, fun e => absurd e (by simp; omega), fun _ => ⟨⟨a.x.t, a.cap, a.x.n, a.x.used, a.key⟩, ?_⟩⟩
 dsimp only
 repeat' (first | intro _ | apply And.intro | apply Exists.intro ())
 all_goals (try with_reducible rfl)
 all_goals (try simp only [decide_eq_true_eq, decide_eq_false_iff_not, Bool.not_eq_true', Bool.not_eq_false'] at *)
 all_goals (try exact trivial)
 all_goals (try omega)
 all_goals (try (grind [putRet]))
 all_goals (try (with_reducible exact RowsEq.refl _ _ _))
 all_goals (first | (rw [yes (by assumption)]; refine .set _ (by omega) (fun i hi => by simp only [updR_other hi]) ?_; simp only [updR_self]; rfl) | (rw [no (by assumption)]; refine .set _ (by omega) (fun i hi => by simp only [updR_other hi]) ?_; simp only [updR_self]; rfl)))
theorem callPut0 : CallsBy (Y Tryz.prog).G.X 33 cPut0 := fn_ok okY (tab := [(57, cFind), (58, cNever)]) ⟨callFind, callNever _, trivial⟩ bodyPut0

end Go.Proofs.YtfobhkibkdmglaaGreat.Ix

namespace Go.Proofs.YtfobhkibkdmglaaGreat.Ix
open Go.Sx
set_option maxRecDepth 100000
set_option linter.unusedVariables false

/-! ### grow -/

/-- the entries of a table's first i places, put into another -/
def putAll (t : List PlaceR) (y : IdxR) : Nat → IdxR
 | 0 => y
 | i + 1 => if (gl t i).has then putI (putAll t y i) (gl t i).key (gl t i).pos else putAll t y i
def emptyI (n : Nat) : IdxR := ⟨List.replicate n ⟨.empty, 0, false, false⟩, 0, 0⟩
theorem putAll_length (t : List PlaceR) (y : IdxR) : ∀ i, (putAll t y i).t.length = y.t.length
 | 0 => rfl
 | i + 1 => by
  unfold putAll
  split
  ·rw [putI_length, putAll_length t y i]
  ·exact putAll_length t y i
theorem gl_replicate {α : Type} [Inhabited α] {n i : Nat} {x : α} (h : i < n) : gl (List.replicate n x) i = x := by
 rw [gl_eq (by simpa using h)]; simp
def growI (x : IdxR) : IdxR := putAll x.t (emptyI (max 16 (4 * x.n))) x.t.length
structure GrowA where
 x : IdxR
 cap : Nat
noncomputable def cGrow : Con where
 α := GrowA
 β := Nat
 m := 2
 m' := 3
 pre := fun a => 1 ≤ a.x.t.length ∧ a.x.t.length < 100000 ∧ a.x.n < 10000 ∧ (∀ i, i < a.x.t.length → (gl a.x.t i).key.size ≤ lenMax) ∧
  ∀ i, i < a.x.t.length → (gl a.x.t i).has = true → 2 * (putAll a.x.t (emptyI (max 16 (4 * a.x.n))) i).used < max 16 (4 * a.x.n) ∧ (putAll a.x.t (emptyI (max 16 (4 * a.x.n))) i).n < 100000 ∧
   ((findP (putAll a.x.t (emptyI (max 16 (4 * a.x.n))) i).t (gl a.x.t i).key).1 < 0 → 0 ≤ (findP (putAll a.x.t (emptyI (max 16 (4 * a.x.n))) i).t (gl a.x.t i).key).2)
 args := fun a => [.a (.ptr 0 0 0 0)]
 hp := fun a => [(0, .obj 111 [.slc 1 0 4 a.x.t.length a.cap, .int .i64 a.x.n, .int .i64 a.x.used])]
 ro := fun a => [(1, .arr 118 ksP a.x.t.length (encRows encP a.x.t))]
 post := fun _ _ => True
 res := fun _ _ => .tup []
 hp' := fun a cap => idxHp 0 2 (growI a.x).t cap (growI a.x).n (growI a.x).used
def iGrow (a : GrowA) : An := .flat 3 (Nat × Nat) (fun s x => (((s.at_ (s.tg 0) (.obj 111 [.slc (s.in_ (s.tg 0) 0) 0 4 (max 16 (4 * a.x.n)) x.2, .int .i64 (putAll a.x.t (emptyI (max 16 (4 * a.x.n))) x.1).n, .int .i64 (putAll a.x.t (emptyI (max 16 (4 * a.x.n))) x.1).used])).at_ (s.in_ (s.tg 0) 0) (.arr 118 ksP (max 16 (4 * a.x.n)) (encRows encP (putAll a.x.t (emptyI (max 16 (4 * a.x.n))) x.1).t))).int 21 x.1))
 (fun _ x => x.1 ≤ a.x.t.length) (fun _ x => a.x.t.length - x.1)
set_option maxHeartbeats 4000000 in
theorem bodyGrow : fnBody (Y Tryz.prog) [(33, cPut0)] 58 cGrow fun a => [(58, [iGrow a], [])] := fnBody.of (p :=
 ∀ a : Ix.GrowA, (1 ≤ a.x.t.length ∧ a.x.t.length < 100000 ∧ a.x.n < 10000 ∧ (∀ i : Nat, i < a.x.t.length → (gl a.x.t i).key.size ≤ lenMax) ∧ ∀ i : Nat, i < a.x.t.length → (gl a.x.t i).has = true → 2 * (Ix.putAll a.x.t (Ix.emptyI (max 16 (4 * a.x.n))) i).used < max 16 (4 * a.x.n) ∧ (Ix.putAll a.x.t (Ix.emptyI (max 16 (4 * a.x.n))) i).n < 100000 ∧ ((Ix.findP (Ix.putAll a.x.t (Ix.emptyI (max 16 (4 * a.x.n))) i).t (gl a.x.t i).key).fst < (0 : Int) → (0 : Int) ≤ (Ix.findP (Ix.putAll a.x.t (Ix.emptyI (max 16 (4 * a.x.n))) i).t (gl a.x.t i).key).snd)) → InR .i64 (↑a.x.n : Int) → InR .i64 ((4 : Int) * (↑a.x.n : Int)) ∧ ((0 : Int) ≤ bif true then max (16 : Int) ((4 : Int) * (↑a.x.n : Int)) else min (16 : Int) ((4 : Int) * (↑a.x.n : Int))) ∧ ((bif true then max (16 : Int) ((4 : Int) * (↑a.x.n : Int)) else min (16 : Int) ((4 : Int) * (↑a.x.n : Int))) ≤ bif true then max (16 : Int) ((4 : Int) * (↑a.x.n : Int)) else min (16 : Int) ((4 : Int) * (↑a.x.n : Int))) ∧ ((32 : Int) * bif true then max (16 : Int) ((4 : Int) * (↑a.x.n : Int)) else min (16 : Int) ((4 : Int) * (↑a.x.n : Int))) ≤ (281474976710656 : Int) ∧ (∃ a_3 : Nat × Nat, 0 = (↑a_3.fst : Int) ∧ (↑a.x.t.length : Int) = (↑a.x.t.length : Int) ∧ (0 = 0 ∧ a.x.t.length = a.x.t.length ∧ a.cap = a.cap) ∧ (0 = 0 ∧ a.x.t.length = a.x.t.length ∧ a.cap = a.cap) ∧ 0 = 0 ∧ (0 = 0 ∧ (bif true then max (16 : Int) ((4 : Int) * (↑a.x.n : Int)) else min (16 : Int) ((4 : Int) * (↑a.x.n : Int))).toNat = max 16 (4 * a.x.n) ∧ (bif true then max (16 : Int) ((4 : Int) * (↑a.x.n : Int)) else min (16 : Int) ((4 : Int) * (↑a.x.n : Int))).toNat = a_3.snd) ∧ 
 0 = (↑(Ix.putAll a.x.t (Ix.emptyI (max 16 (4 * a.x.n))) a_3.fst).n : Int) ∧ 0 = (↑(Ix.putAll a.x.t (Ix.emptyI (max 16 (4 * a.x.n))) a_3.fst).used : Int) ∧ (a.x.t.length ≤ a.x.t.length ∧ RowsEq a.x.t.length 4 (encRows Ix.encP a.x.t) (encRows Ix.encP a.x.t)) ∧ (max 16 (4 * a.x.n) ≤ (bif true then max (16 : Int) ((4 : Int) * (↑a.x.n : Int)) else min (16 : Int) ((4 : Int) * (↑a.x.n : Int))).toNat ∧ RowsEq (max 16 (4 * a.x.n)) 4 (fun (x j : Nat) => [Value.string (ByteArray.mk #[]), Value.int IntKind.i64 (0 : Int), Value.bool false, Value.bool false].getD j (Value.tuple #[])) (encRows Ix.encP (Ix.putAll a.x.t (Ix.emptyI (max 16 (4 * a.x.n))) a_3.fst).t)) ∧ a_3.fst ≤ a.x.t.length ∧ True) ∧ ∀ a_3 : Nat × Nat, a_3.fst ≤ a.x.t.length → (decide ((↑a_3.fst : Int) < (↑a.x.t.length : Int)) = true → (0 ≤ (↑a_3.fst : Int) ∧ (↑a_3.fst : Int) < (↑a.x.t.length : Int)) ∧ 0 + (↑a_3.fst : Int).toNat < a.x.t.length ∧ ((gl a.x.t (0 + (↑a_3.fst : Int).toNat)).has = true → InR .i64 (gl a.x.t (0 + (↑a_3.fst : Int).toNat)).pos → ∃ a_8 : Ix.PutA, 0 = 0 ∧ (gl a.x.t (0 + (↑a_3.fst : Int).toNat)).key = a_8.key ∧ (gl a.x.t (0 + (↑a_3.fst : Int).toNat)).pos = a_8.pos ∧ (0 = 0 ∧ max 16 (4 * a.x.n) = a_8.x.t.length ∧ a_3.snd = a_8.cap) ∧ (↑(Ix.putAll a.x.t (Ix.emptyI (max 16 (4 * a.x.n))) a_3.fst).n : Int) = (↑a_8.x.n : Int) ∧ (↑(Ix.putAll a.x.t (Ix.emptyI (max 16 (4 * a.x.n))) a_3.fst).used : Int) = (↑a_8.x.used : Int) ∧ (a_8.x.t.length ≤ max 16 (4 * a.x.n) ∧ RowsEq a_8.x.t.length 4 (encRows Ix.encP (Ix.putAll a.x.t (Ix.emptyI (max 16 (4 * a.x.n))) a_3.fst).t) (encRows Ix.encP a_8.x.t)) ∧ 
 (1 ≤ a_8.x.t.length ∧ a_8.x.t.length < 100000 ∧ a_8.key.size ≤ lenMax ∧ 2 * a_8.x.used < a_8.x.t.length ∧ a_8.x.n < 100000 ∧ ((Ix.findP a_8.x.t a_8.key).fst < (0 : Int) → (0 : Int) ≤ (Ix.findP a_8.x.t a_8.key).snd)) ∧ ∀ b : Unit, True → InR .i64 ((↑a_3.fst : Int) + 1) ∧ ∃ (a' : Nat × Nat), (↑a_3.fst : Int) + 1 = (↑a'.fst : Int) ∧ (↑a.x.t.length : Int) = (↑a.x.t.length : Int) ∧ (0 = 0 ∧ a.x.t.length = a.x.t.length ∧ a.cap = a.cap) ∧ (0 = 0 ∧ a.x.t.length = a.x.t.length ∧ a.cap = a.cap) ∧ 0 = 0 ∧ (0 = 0 ∧ (Ix.putI a_8.x a_8.key a_8.pos).t.length = max 16 (4 * a.x.n) ∧ a_8.cap = a'.snd) ∧ (↑(Ix.putI a_8.x a_8.key a_8.pos).n : Int) = (↑(Ix.putAll a.x.t (Ix.emptyI (max 16 (4 * a.x.n))) a'.fst).n : Int) ∧ (↑(Ix.putI a_8.x a_8.key a_8.pos).used : Int) = (↑(Ix.putAll a.x.t (Ix.emptyI (max 16 (4 * a.x.n))) a'.fst).used : Int) ∧ (a.x.t.length ≤ a.x.t.length ∧ RowsEq a.x.t.length 4 (encRows Ix.encP a.x.t) (encRows Ix.encP a.x.t)) ∧ (max 16 (4 * a.x.n) ≤ (Ix.putI a_8.x a_8.key a_8.pos).t.length ∧ RowsEq (max 16 (4 * a.x.n)) 4 (encRows Ix.encP (Ix.putI a_8.x a_8.key a_8.pos).t) (encRows Ix.encP (Ix.putAll a.x.t (Ix.emptyI (max 16 (4 * a.x.n))) a'.fst).t)) ∧ a'.fst ≤ a.x.t.length ∧ a.x.t.length - a'.fst < a.x.t.length - a_3.fst) ∧ ((gl a.x.t (0 + (↑a_3.fst : Int).toNat)).has = false → InR .i64 ((↑a_3.fst : Int) + 1) ∧ ∃ (a' : Nat × Nat), (↑a_3.fst : Int) + 1 = (↑a'.fst : Int) ∧ (↑a.x.t.length : Int) = (↑a.x.t.length : Int) ∧ (0 = 0 ∧ a.x.t.length = a.x.t.length ∧ a.cap = a.cap) ∧ (0 = 0 ∧ a.x.t.length = a.x.t.length ∧ 
 a.cap = a.cap) ∧ 0 = 0 ∧ (0 = 0 ∧ max 16 (4 * a.x.n) = max 16 (4 * a.x.n) ∧ a_3.snd = a'.snd) ∧ (↑(Ix.putAll a.x.t (Ix.emptyI (max 16 (4 * a.x.n))) a_3.fst).n : Int) = (↑(Ix.putAll a.x.t (Ix.emptyI (max 16 (4 * a.x.n))) a'.fst).n : Int) ∧ (↑(Ix.putAll a.x.t (Ix.emptyI (max 16 (4 * a.x.n))) a_3.fst).used : Int) = (↑(Ix.putAll a.x.t (Ix.emptyI (max 16 (4 * a.x.n))) a'.fst).used : Int) ∧ (a.x.t.length ≤ a.x.t.length ∧ RowsEq a.x.t.length 4 (encRows Ix.encP a.x.t) (encRows Ix.encP a.x.t)) ∧ (max 16 (4 * a.x.n) ≤ max 16 (4 * a.x.n) ∧ RowsEq (max 16 (4 * a.x.n)) 4 (encRows Ix.encP (Ix.putAll a.x.t (Ix.emptyI (max 16 (4 * a.x.n))) a_3.fst).t) (encRows Ix.encP (Ix.putAll a.x.t (Ix.emptyI (max 16 (4 * a.x.n))) a'.fst).t)) ∧ a'.fst ≤ a.x.t.length ∧ a.x.t.length - a'.fst < a.x.t.length - a_3.fst)) ∧ (decide ((↑a_3.fst : Int) < (↑a.x.t.length : Int)) = false → ∃ b : Nat, (0 = 0 ∧ max 16 (4 * a.x.n) = (Ix.growI a.x).t.length ∧ a_3.snd = b) ∧ (↑(Ix.putAll a.x.t (Ix.emptyI (max 16 (4 * a.x.n))) a_3.fst).n : Int) = (↑(Ix.growI a.x).n : Int) ∧ (↑(Ix.putAll a.x.t (Ix.emptyI (max 16 (4 * a.x.n))) a_3.fst).used : Int) = (↑(Ix.growI a.x).used : Int) ∧ ((Ix.growI a.x).t.length ≤ max 16 (4 * a.x.n) ∧ RowsEq (Ix.growI a.x).t.length 4 (encRows Ix.encP (Ix.putAll a.x.t (Ix.emptyI (max 16 (4 * a.x.n))) a_3.fst).t) (encRows Ix.encP (Ix.growI a.x).t)) ∧ True ∧ True)) (by kernel_rfl) (by
 intro a h
 obtain ⟨h1, h2, h3, h4, h5⟩ := h
 obtain ⟨M, hM⟩ : ∃ M, M = max 16 (4 * a.x.n) := ⟨_, rfl⟩
 have hMi : (max 16 (4 * (a.x.n : Int)) : Int) = (M : Int) := by omega
 simp only [cond_true, ← hM] at h5 ⊢
 simp only [hMi, Nat.zero_add, Int.toNat_natCast]
 have hlen : ∀ i, (putAll a.x.t (emptyI M) i).t.length = M := fun i => by rw [putAll_length]; simp [emptyI]
 have hg : growI a.x = putAll a.x.t (emptyI M) a.x.t.length := by unfold growI; rw [← hM]
 rw [hg, hlen]
 refine fun _ => ⟨by simp only [InR]; omega, by omega, by omega, by omega, ⟨(0, M), ?_⟩, fun x hx => ?_⟩
 ·dsimp only
  (repeat' apply And.intro) <;> first | exact RowsEq.refl _ _ _ | skip
  all_goals first | exact trivial | rfl | omega | skip
  refine .of_cells fun i hi => ?_
  unfold encRows
  rw [show gl (putAll a.x.t (emptyI M) 0).t i = ⟨.empty, 0, false, false⟩ from gl_replicate hi]
  rfl
 ·obtain ⟨i, cap⟩ := x
  have hx' : i ≤ a.x.t.length := hx
  have h6 := h5 i
  have sy : (gl a.x.t i).has = true → putAll a.x.t (emptyI M) (i + 1) = putI (putAll a.x.t (emptyI M) i) (gl a.x.t i).key (gl a.x.t i).pos := fun e => if_pos e
  have sn : (gl a.x.t i).has = false → putAll a.x.t (emptyI M) (i + 1) = putAll a.x.t (emptyI M) i := fun e => if_neg (by rw [e]; decide)
  have se : ¬ i < a.x.t.length → putAll a.x.t (emptyI M) a.x.t.length = putAll a.x.t (emptyI M) i := fun e => by rw [show a.x.t.length = i by omega]
  dsimp only at *
  repeat' (first | intro _ | apply And.intro | apply Exists.intro (PutA.mk (putAll a.x.t (emptyI M) i) cap _ _) | apply Exists.intro ((i + 1, cap) : Nat × Nat) | apply Exists.intro (cap : Nat))
  all_goals (try with_reducible rfl)
  all_goals (try with_reducible exact RowsEq.refl _ _ _)
  all_goals (try dsimp only)
  all_goals (try simp only [decide_eq_true_eq, decide_eq_false_iff_not, Bool.not_eq_true', Bool.not_eq_false', InR] at *)
  all_goals (try simp only [hlen, putI_length])
  all_goals (try exact trivial)
  all_goals (try omega)
  all_goals first
   | exact h4 i (by omega)
   | exact (h6 (by omega) (by assumption)).1
   | exact (h6 (by omega) (by assumption)).2.1
   | exact (h6 (by omega) (by assumption)).2.2 (by assumption)
   | (rw [sy (by assumption)]; done)
   | (rw [sy (by assumption)]; exact RowsEq.refl _ _ _)
   | (rw [sn (by assumption)]; done)
   | (rw [sn (by assumption)]; exact RowsEq.refl _ _ _)
   | (rw [se (by omega)]; done)
   | (rw [se (by omega)]; exact RowsEq.refl _ _ _))
theorem callGrow : CallsBy (Y Tryz.prog).G.X 58 cGrow := fn_ok okY (tab := [(33, cPut0)]) ⟨callPut0, trivial⟩ bodyGrow
end Go.Proofs.YtfobhkibkdmglaaGreat.Ix

namespace Go.Proofs.YtfobhkibkdmglaaGreat.Ix
open Go.Sx
set_option maxRecDepth 100000
set_option linter.unusedVariables false

def entOf (p : PlaceR) : ByteArray × Int := (p.key, p.pos)
def ents (t : List PlaceR) : List (ByteArray × Int) := (t.filter (·.has)).map entOf
def busy (p : PlaceR) : Bool := !bare p
structure Inv (x : IdxR) : Prop where
 lo : 16 ≤ x.t.length
 hi : x.t.length ≤ 40000
 n : x.n = (ents x.t).length
 used : x.used = x.t.countP busy
 half : 2 * x.used < x.t.length + 2
 size : ∀ i, i < x.t.length → (gl x.t i).key.size ≤ lenMax
 dist : ∀ i j, i < x.t.length → j < x.t.length → (gl x.t i).has = true → (gl x.t j).has = true → (gl x.t i).key = (gl x.t j).key → i = j
 path : ∀ i, i < x.t.length → (gl x.t i).has = true → ∃ d, d < x.t.length ∧ (startOf x.t.length (gl x.t i).key + d) % x.t.length = i ∧ ∀ k, k < d → bare (gl x.t ((startOf x.t.length (gl x.t i).key + k) % x.t.length)) = false

theorem mod_step {s d L : Nat} : ((s + d) % L + 1) % L = (s + (d + 1)) % L := by rw [Nat.mod_add_mod, Nat.add_assoc]

theorem hit_iff {key : ByteArray} {p : PlaceR} : hit key p = true ↔ p.has = true ∧ p.key = key := by simp [hit]

/-- a key that is there is found -/
theorem find_there {t : List PlaceR} {key : ByteArray} {i0 d0 : Nat} (hL : 1 ≤ t.length) (hi : i0 < t.length) (hh : hit key (gl t i0) = true) (hd : d0 < t.length)
 (hp : (startOf t.length key + d0) % t.length = i0) (hb : ∀ k, k < d0 → bare (gl t ((startOf t.length key + k) % t.length)) = false)
 (hu : ∀ j, j < t.length → hit key (gl t j) = true → j = i0) : ∀ (m d : Nat) (f : Int), d + m = d0 → findFrom t key (t.length - d) ((startOf t.length key + d) % t.length) f = ((i0 : Int), (i0 : Int))
 | 0, d, f, hm => by
  have : d = d0 := by omega
  subst this
  rw [hp, show t.length - d = (t.length - d - 1) + 1 by omega]
  simp only [findFrom, hh, if_true]
 | m + 1, d, f, hm => by
  have hlt : (startOf t.length key + d) % t.length < t.length := Nat.mod_lt _ hL
  rw [show t.length - d = (t.length - (d + 1)) + 1 by omega]
  by_cases h : hit key (gl t ((startOf t.length key + d) % t.length)) = true
  ·have := hu _ hlt h
   rw [this] at h ⊢
   simp only [findFrom, h, if_true]
  ·simp only [findFrom, h, if_false, hb d (by omega), Bool.false_eq_true]
   rw [mod_step]
   exact find_there hL hi hh hd hp hb hu m (d + 1) _ (by omega)

theorem find_none {t : List PlaceR} {key : ByteArray} (hL : 1 ≤ t.length) (hu : ∀ j, j < t.length → hit key (gl t j) = false) : ∀ (k i : Nat) (f : Int), i < t.length → 0 ≤ f → findFrom t key k i f = (-1, f)
 | 0, i, f, hi, hf => rfl
 | k + 1, i, f, hi, hf => by
  have h1 : (!(gl t i).has && decide (f < 0)) = false := by simp; omega
  simp only [findFrom, hu i hi, Bool.false_eq_true, if_false, h1]
  split
  ·rfl
  ·exact find_none hL hu k _ f (Nat.mod_lt _ hL) hf

/-- a key that is not there has a place, the first that is free on its road -/
theorem find_free {t : List PlaceR} {key : ByteArray} {d0 : Nat} (hL : 1 ≤ t.length) (hd : d0 < t.length) (hu : ∀ j, j < t.length → hit key (gl t j) = false)
 (hf : (gl t ((startOf t.length key + d0) % t.length)).has = false) (hb : ∀ k, k < d0 → (gl t ((startOf t.length key + k) % t.length)).has = true) :
 ∀ (m d : Nat), d + m = d0 → findFrom t key (t.length - d) ((startOf t.length key + d) % t.length) (-1) = (-1, (((startOf t.length key + d0) % t.length : Nat) : Int))
 | 0, d, hm => by
  have : d = d0 := by omega
  subst this
  have hlt : (startOf t.length key + d) % t.length < t.length := Nat.mod_lt _ hL
  rw [show t.length - d = (t.length - d - 1) + 1 by omega]
  have h1 : (!(gl t ((startOf t.length key + d) % t.length)).has && decide ((-1 : Int) < 0)) = true := by simp [hf]
  simp only [findFrom, hu _ hlt, Bool.false_eq_true, if_false, h1, if_true]
  split
  ·rfl
  ·exact find_none hL hu _ _ _ (Nat.mod_lt _ hL) (by omega)
 | m + 1, d, hm => by
  have hlt : (startOf t.length key + d) % t.length < t.length := Nat.mod_lt _ hL
  rw [show t.length - d = (t.length - (d + 1)) + 1 by omega]
  have h0 := hb d (by omega)
  have h1 : (!(gl t ((startOf t.length key + d) % t.length)).has && decide ((-1 : Int) < 0)) = false := by simp [h0]
  have h2 : bare (gl t ((startOf t.length key + d) % t.length)) = false := by simp [bare, h0]
  simp only [findFrom, hu _ hlt, Bool.false_eq_true, if_false, h1, h2]
  rw [mod_step]
  exact find_free hL hd hu hf hb m (d + 1) (by omega)

theorem start_mod {L : Nat} {key : ByteArray} (hL : 1 ≤ L) : (startOf L key + 0) % L = startOf L key := by
 rw [Nat.add_zero, Nat.mod_eq_of_lt (startOf_lt key hL)]

theorem findP_there {x : IdxR} (h : Inv x) {i : Nat} (hi : i < x.t.length) (hh : (gl x.t i).has = true) : findP x.t (gl x.t i).key = ((i : Int), (i : Int)) := by
 obtain ⟨d, h1, h2, h3⟩ := h.path i hi hh
 have hL : 1 ≤ x.t.length := by have := h.lo; omega
 have := find_there (key := (gl x.t i).key) hL hi (hit_iff.2 ⟨hh, rfl⟩) h1 h2 h3 (fun j hj hj2 => h.dist j i hj hi (hit_iff.1 hj2).1 hh (hit_iff.1 hj2).2) d 0 (-1) (by omega)
 rwa [start_mod hL, Nat.sub_zero] at this

/-- each place is on each road -/
theorem road {L s i : Nat} (hs : s < L) (hi : i < L) : ∃ d, d < L ∧ (s + d) % L = i := by
 by_cases h : s ≤ i
 ·exact ⟨i - s, by omega, by rw [show s + (i - s) = i by omega]; exact Nat.mod_eq_of_lt hi⟩
 ·refine ⟨L + i - s, by omega, ?_⟩
  rw [show s + (L + i - s) = i + L by omega, Nat.add_mod_right]; exact Nat.mod_eq_of_lt hi

theorem some_free : ∀ (t : List PlaceR), t.countP busy < t.length → ∃ i, i < t.length ∧ (gl t i).has = false
 | [], h => absurd h (Nat.not_lt_zero _)
 | p :: r, h => by
  cases hp : p.has with
  | false => exact ⟨0, by simp, hp⟩
  | true =>
   have hb : busy p = true := by simp [busy, bare, hp]
   rw [List.countP_cons_of_pos hb] at h
   obtain ⟨i, h1, h2⟩ := some_free r (by simpa using h)
   exact ⟨i + 1, by simp; omega, h2⟩

theorem first {p : Nat → Bool} : ∀ d, p d = true → ∃ d0, d0 ≤ d ∧ p d0 = true ∧ ∀ k, k < d0 → p k = false := by
 intro d
 induction d using Nat.strongRecOn with
 | ind d ih =>
  intro h
  by_cases hx : ∃ k, k < d ∧ p k = true
  ·obtain ⟨k, hk, hp⟩ := hx
   obtain ⟨d0, a, b, c⟩ := ih k hk hp
   exact ⟨d0, by omega, b, c⟩
  ·refine ⟨d, Nat.le_refl _, h, fun k hk => ?_⟩
   cases hp : p k with
   | false => rfl
   | true => exact absurd ⟨k, hk, hp⟩ hx

def absent (t : List PlaceR) (key : ByteArray) : Prop := ∀ j, j < t.length → hit key (gl t j) = false

theorem findP_free {t : List PlaceR} {key : ByteArray} (hL : 1 ≤ t.length) (hu : absent t key) (hr : t.countP busy < t.length) :
 ∃ d i, d < t.length ∧ (startOf t.length key + d) % t.length = i ∧ i < t.length ∧ (gl t i).has = false ∧ (∀ k, k < d → (gl t ((startOf t.length key + k) % t.length)).has = true) ∧ findP t key = (-1, (i : Int)) := by
 obtain ⟨i, h1, h2⟩ := some_free t hr
 obtain ⟨d, h3, h4⟩ := road (startOf_lt key hL) h1
 obtain ⟨d0, g1, g2, g3⟩ := first (p := fun d => !(gl t ((startOf t.length key + d) % t.length)).has) d (by simp [h4, h2])
 simp only [Bool.not_eq_true', Bool.not_eq_false'] at g2 g3
 have := find_free hL (show d0 < t.length by omega) hu g2 g3 d0 0 (by omega)
 rw [start_mod hL, Nat.sub_zero] at this
 exact ⟨d0, _, by omega, rfl, Nat.mod_lt _ hL, g2, g3, this⟩

/-! ### what is there -/

theorem split_at {t : List PlaceR} {i : Nat} (h : i < t.length) : t = t.take i ++ gl t i :: t.drop (i + 1) := by
 rw [gl_eq h, List.getElem_cons_drop, List.take_append_drop]
theorem set_split {t : List PlaceR} {i : Nat} {q : PlaceR} (h : i < t.length) : t.set i q = t.take i ++ q :: t.drop (i + 1) := by
 rw [List.set_eq_take_append_cons_drop, if_pos h]
theorem ents_app (a b : List PlaceR) : ents (a ++ b) = ents a ++ ents b := by simp [ents]
theorem ents_cons (p : PlaceR) (r : List PlaceR) : ents (p :: r) = (if p.has then [entOf p] else []) ++ ents r := by
 unfold ents; rw [List.filter_cons]; split <;> simp
/-- one place changed -/
theorem ents_at {t : List PlaceR} {i : Nat} (h : i < t.length) : ents t = ents (t.take i) ++ ((if (gl t i).has then [entOf (gl t i)] else []) ++ ents (t.drop (i + 1))) := by
 conv => lhs; rw [split_at h]
 rw [ents_app, ents_cons]
theorem ents_set {t : List PlaceR} {i : Nat} {q : PlaceR} (h : i < t.length) : ents (t.set i q) = ents (t.take i) ++ ((if q.has then [entOf q] else []) ++ ents (t.drop (i + 1))) := by
 rw [set_split h, ents_app, ents_cons]
theorem cnt_at {t : List PlaceR} {i : Nat} (h : i < t.length) : t.countP busy = (t.take i).countP busy + ((t.drop (i + 1)).countP busy + if busy (gl t i) then 1 else 0) := by
 conv => lhs; rw [split_at h]
 rw [List.countP_append, List.countP_cons]
theorem cnt_set {t : List PlaceR} {i : Nat} {q : PlaceR} (h : i < t.length) : (t.set i q).countP busy = (t.take i).countP busy + ((t.drop (i + 1)).countP busy + if busy q then 1 else 0) := by
 rw [set_split h, List.countP_append, List.countP_cons]
theorem mem_ents {t : List PlaceR} {k : ByteArray} {p : Int} : (k, p) ∈ ents t ↔ ∃ i, i < t.length ∧ (gl t i).has = true ∧ (gl t i).key = k ∧ (gl t i).pos = p := by
 unfold ents
 simp only [List.mem_map, List.mem_filter, entOf, Prod.mk.injEq]
 constructor
 ·rintro ⟨q, ⟨h1, h2⟩, h3, h4⟩
  obtain ⟨i, hi, rfl⟩ := List.getElem_of_mem h1
  exact ⟨i, hi, by rw [gl_eq hi]; exact h2, by rw [gl_eq hi]; exact h3, by rw [gl_eq hi]; exact h4⟩
 ·rintro ⟨i, h1, h2, h3, h4⟩
  exact ⟨_, ⟨gl_mem h1, h2⟩, h3, h4⟩
theorem absent_iff {t : List PlaceR} {k : ByteArray} : absent t k ↔ k ∉ (ents t).map Prod.fst := by
 constructor
 ·intro h hm
  obtain ⟨⟨k', p⟩, h1, rfl⟩ := List.mem_map.1 hm
  obtain ⟨i, h2, h3, h4, _⟩ := mem_ents.1 h1
  have := h i h2
  rw [hit_iff.2 ⟨h3, h4⟩] at this; cases this
 ·intro h j hj
  cases hh : hit k (gl t j) with
  | false => rfl
  | true =>
   obtain ⟨h1, h2⟩ := hit_iff.1 hh
   exact absurd (List.mem_map.2 ⟨(k, (gl t j).pos), mem_ents.2 ⟨j, hj, h1, h2, rfl⟩, rfl⟩) h

/-- the table x has the entries l, in whatever order -/
structure Has (x : IdxR) (l : List (ByteArray × Int)) : Prop where
 inv : Inv x
 perm : (ents x.t).Perm l
theorem Has.of_perm {x : IdxR} {l m : List (ByteArray × Int)} (h : Has x l) (p : l.Perm m) : Has x m := ⟨h.inv, h.perm.trans p⟩
theorem Has.n {x : IdxR} {l : List (ByteArray × Int)} (h : Has x l) : x.n = l.length := by rw [h.inv.n, h.perm.length_eq]
theorem Has.mem {x : IdxR} {l : List (ByteArray × Int)} (h : Has x l) {k : ByteArray} {p : Int} (hm : (k, p) ∈ l) : ∃ i : Nat, i < x.t.length ∧ (gl x.t i).has = true ∧ (gl x.t i).key = k ∧ (gl x.t i).pos = p ∧ findP x.t k = ((i : Int), (i : Int)) := by
 obtain ⟨i, h1, h2, h3, h4⟩ := mem_ents.1 (h.perm.mem_iff.2 hm)
 refine ⟨i, h1, h2, h3, h4, ?_⟩
 rw [← h3]; exact findP_there h.inv h1 h2
theorem Has.none {x : IdxR} {l : List (ByteArray × Int)} (h : Has x l) {k : ByteArray} (hm : k ∉ l.map Prod.fst) : absent x.t k := absent_iff.2 fun hk => hm ((h.perm.map _).mem_iff.1 hk)
theorem Inv.room {x : IdxR} (h : Inv x) : x.t.countP busy < x.t.length := by have := h.half; have := h.used; have := h.lo; omega
theorem Has.none_find {x : IdxR} {l : List (ByteArray × Int)} (h : Has x l) {k : ByteArray} (hm : k ∉ l.map Prod.fst) : (findP x.t k).1 = -1 ∧ 0 ≤ (findP x.t k).2 := by
 obtain ⟨d, i, _, _, _, _, _, e⟩ := findP_free (by have := h.inv.lo; omega) (h.none hm) h.inv.room
 rw [e]; exact ⟨rfl, by simp⟩

/-! ### one place changed -/

theorem Inv.set {x : IdxR} (h : Inv x) {i : Nat} (hi : i < x.t.length) {q : PlaceR} (hb : bare q = false) (hs : q.key.size ≤ lenMax)
 (hd : q.has = true → ∀ j, j < x.t.length → j ≠ i → (gl x.t j).has = true → (gl x.t j).key ≠ q.key)
 (hp : q.has = true → ∃ d, d < x.t.length ∧ (startOf x.t.length q.key + d) % x.t.length = i ∧ ∀ k, k < d → bare (gl x.t ((startOf x.t.length q.key + k) % x.t.length)) = false)
 {n' u' : Nat} (hn : n' = (ents (x.t.set i q)).length) (hu : u' = (x.t.set i q).countP busy) (hh : 2 * u' < x.t.length + 2) : Inv ⟨x.t.set i q, n', u'⟩ := by
 have hl : (x.t.set i q).length = x.t.length := by simp
 have key : ∀ j, gl (x.t.set i q) j = if i = j then q else gl x.t j := by
  intro j
  by_cases e : i = j
  ·subst e; rw [if_pos rfl, gl_set_self hi]
  ·rw [if_neg e, gl_set_ne e]
 have bb : ∀ j, bare (gl x.t j) = false → bare (gl (x.t.set i q) j) = false := by
  intro j hj
  rw [key]; split
  ·exact hb
  ·exact hj
 refine ⟨by rw [hl]; exact h.lo, by rw [hl]; exact h.hi, hn, hu, by rw [hl]; exact hh, fun j hj => ?_, fun a b ha hb' h1 h2 h3 => ?_, fun j hj hj2 => ?_⟩
 ·rw [hl] at hj
  rw [key]; split
  ·exact hs
  ·exact h.size j hj
 ·simp only [hl] at ha hb'
  simp only [key] at h1 h2 h3
  by_cases e1 : i = a
  ·by_cases e2 : i = b
   ·omega
   ·rw [if_pos e1] at h1 h3; rw [if_neg e2] at h2 h3
    exact absurd h3.symm (hd h1 b hb' (fun e => e2 e.symm) h2)
  ·by_cases e2 : i = b
   ·rw [if_neg e1] at h1 h3; rw [if_pos e2] at h2 h3
    exact absurd h3 (hd h2 a ha (fun e => e1 e.symm) h1)
   ·rw [if_neg e1] at h1 h3; rw [if_neg e2] at h2 h3
    exact h.dist a b ha hb' h1 h2 h3
 ·simp only [hl] at hj ⊢
  simp only [key] at hj2
  by_cases e : i = j
  ·rw [if_pos e] at hj2
   subst e
   obtain ⟨d, h1, h2, h3⟩ := hp hj2
   rw [show gl (x.t.set i q) i = q by rw [key, if_pos rfl]]
   exact ⟨d, h1, h2, fun k hk => bb _ (h3 k hk)⟩
  ·rw [if_neg e] at hj2
   obtain ⟨d, h1, h2, h3⟩ := h.path j hj hj2
   rw [show gl (x.t.set i q) j = gl x.t j by rw [key, if_neg e]]
   exact ⟨d, h1, h2, fun k hk => bb _ (h3 k hk)⟩

theorem busy_has {p : PlaceR} (h : p.has = true) : busy p = true := by simp [busy, bare, h]

/-- a key that is there is put anew -/
theorem put_there {x : IdxR} {l : List (ByteArray × Int)} {k : ByteArray} {p q : Int} (h : Has x ((k, q) :: l)) : Has (putI x k p) ((k, p) :: l) ∧ putRet x k = q ∧ 0 ≤ (findP x.t k).1 := by
 obtain ⟨i, h1, h2, h3, h4, h5⟩ := h.mem List.mem_cons_self
 have e : putI x k p = ⟨x.t.set i { gl x.t i with pos := p }, x.n, x.used⟩ := by
  unfold putI; rw [h5]; simp
 have hk : (ents x.t).Perm ((k, q) :: (ents (x.t.take i) ++ ents (x.t.drop (i + 1)))) := by
  rw [ents_at h1, h2]
  have : entOf (gl x.t i) = (k, q) := by simp [entOf, h3, h4]
  rw [if_pos rfl, this]; exact List.perm_middle
 have hk' : (ents (x.t.set i { gl x.t i with pos := p })).Perm ((k, p) :: (ents (x.t.take i) ++ ents (x.t.drop (i + 1)))) := by
  rw [ents_set h1]
  simp only [h2, if_true, entOf, h3]
  exact List.perm_middle
 have hl : (ents (x.t.take i) ++ ents (x.t.drop (i + 1))).Perm l := (List.perm_cons _).1 (hk.symm.trans h.perm)
 refine ⟨⟨?_, ?_⟩, by unfold putRet; rw [h5]; simp [h4], by rw [h5]; simp⟩
 ·rw [e]
  refine h.inv.set (q := { gl x.t i with pos := p }) h1 (by simp [bare, h2]) (h.inv.size i h1) (fun _ j hj hne hj2 he => hne (h.inv.dist j i hj h1 hj2 h2 he)) (fun _ => h.inv.path i h1 h2) ?_ ?_ h.inv.half
  ·rw [h.inv.n, hk.length_eq, hk'.length_eq]; rfl
  ·rw [h.inv.used, cnt_at h1, cnt_set h1, busy_has h2, busy_has (p := { gl x.t i with pos := p }) h2]
 ·rw [e]; exact hk'.trans (hl.cons _)

/-- a key that is not there is put -/
theorem put_new {x : IdxR} {l : List (ByteArray × Int)} {k : ByteArray} {p : Int} (h : Has x l) (hk : k ∉ l.map Prod.fst) (hs : k.size ≤ lenMax) (hr : 2 * x.used < x.t.length) :
 Has (putI x k p) ((k, p) :: l) ∧ putRet x k = 0 ∧ (findP x.t k).1 < 0 ∧ 0 ≤ (findP x.t k).2 ∧ (putI x k p).used ≤ x.used + 1 ∧ (putI x k p).n = x.n + 1 := by
 obtain ⟨d, i, h1, h2, h3, h4, h5, h6⟩ := findP_free (by have := h.inv.lo; omega) (h.none hk) h.inv.room
 have e : putI x k p = ⟨x.t.set i ⟨k, p, true, false⟩, x.n + 1, if (gl x.t i).gone then x.used else x.used + 1⟩ := by
  unfold putI; rw [h6]; simp
 have hp0 : ents x.t = ents (x.t.take i) ++ ents (x.t.drop (i + 1)) := by rw [ents_at h3, h4]; simp
 have hp1 : (ents (x.t.set i ⟨k, p, true, false⟩)).Perm ((k, p) :: ents x.t) := by
  rw [ents_set h3, hp0]
  simp only [if_true, entOf]
  exact List.perm_middle
 have hb : busy (gl x.t i) = (gl x.t i).gone := by simp [busy, bare, h4]
 refine ⟨⟨?_, ?_⟩, by unfold putRet; rw [h6]; simp, by rw [h6]; simp, by rw [h6]; simp, by rw [e]; simp only; split <;> omega, by rw [e]⟩
 ·rw [e]
  refine h.inv.set (q := ⟨k, p, true, false⟩) h3 rfl hs (fun _ j hj hne hj2 he => ?_) (fun _ => ⟨d, h1, h2, fun k hk => by simp [bare, h5 k hk]⟩) ?_ ?_ (by split <;> omega)
  ·have := h.none hk j hj
   rw [hit_iff.2 ⟨hj2, he⟩] at this; cases this
  ·rw [hp1.length_eq, List.length_cons, h.inv.n]
  ·rw [cnt_set h3, h.inv.used, cnt_at h3, hb]
   cases hg : (gl x.t i).gone <;> simp [busy, bare] <;> omega
 ·rw [e]; exact hp1.trans (h.perm.cons _)

def goneP : PlaceR := ⟨.empty, 0, false, true⟩
def dropI (x : IdxR) (k : ByteArray) : IdxR := if 0 ≤ (findP x.t k).1 then ⟨x.t.set (findP x.t k).1.toNat goneP, x.n - 1, x.used⟩ else x
/-- a key that is there is dropped -/
theorem drop_there {x : IdxR} {l : List (ByteArray × Int)} {k : ByteArray} {q : Int} (h : Has x ((k, q) :: l)) : Has (dropI x k) l ∧ 0 ≤ (findP x.t k).1 := by
 obtain ⟨i, h1, h2, h3, h4, h5⟩ := h.mem List.mem_cons_self
 have e : dropI x k = ⟨x.t.set i goneP, x.n - 1, x.used⟩ := by unfold dropI; rw [h5]; simp
 have hk : (ents x.t).Perm ((k, q) :: (ents (x.t.take i) ++ ents (x.t.drop (i + 1)))) := by
  rw [ents_at h1, h2]
  have : entOf (gl x.t i) = (k, q) := by simp [entOf, h3, h4]
  rw [if_pos rfl, this]; exact List.perm_middle
 have hk' : ents (x.t.set i goneP) = ents (x.t.take i) ++ ents (x.t.drop (i + 1)) := by rw [ents_set h1]; rfl
 have hl : (ents (x.t.take i) ++ ents (x.t.drop (i + 1))).Perm l := (List.perm_cons _).1 (hk.symm.trans h.perm)
 refine ⟨⟨?_, ?_⟩, by rw [h5]; simp⟩
 ·rw [e]
  refine h.inv.set (q := goneP) h1 rfl (by unfold lenMax; decide) (fun hc => by cases hc) (fun hc => by cases hc) ?_ ?_ h.inv.half
  ·rw [h.inv.n, hk.length_eq, hk']; rfl
  ·rw [h.inv.used, cnt_at h1, cnt_set h1, busy_has h2]; rfl
 ·rw [e, hk']; exact hl
theorem drop_none {x : IdxR} {l : List (ByteArray × Int)} {k : ByteArray} (h : Has x l) (hk : k ∉ l.map Prod.fst) : dropI x k = x := by
 unfold dropI; rw [(h.none_find hk).1]; rfl

/-! ### Below -/

def low (p : Int) (q : PlaceR) : Bool := q.has && decide (q.pos < p)
/-- the first i places looked through -/
def belowT (t : List PlaceR) (p : Int) : Nat → List PlaceR
 | 0 => t
 | i + 1 => if low p (gl t i) then (belowT t p i).set i goneP else belowT t p i
def belowN (t : List PlaceR) (p : Int) : Nat → Nat
 | 0 => 0
 | i + 1 => belowN t p i + if low p (gl t i) then 1 else 0
def belowI (x : IdxR) (p : Int) : IdxR := ⟨belowT x.t p x.t.length, x.n - belowN x.t p x.t.length, x.used⟩
theorem belowT_length (t : List PlaceR) (p : Int) : ∀ i, (belowT t p i).length = t.length
 | 0 => rfl
 | i + 1 => by unfold belowT; split <;> simp [belowT_length t p i]
theorem belowT_at (t : List PlaceR) (p : Int) : ∀ i, i ≤ t.length → ∀ j, gl (belowT t p i) j = if j < i ∧ low p (gl t j) then goneP else gl t j
 | 0, _, j => by simp [belowT]
 | i + 1, hi, j => by
  have ih := belowT_at t p i (by omega) j
  unfold belowT
  by_cases h : low p (gl t i) = true
  ·rw [if_pos h]
   by_cases hj : i = j
   ·subst hj; rw [gl_set_self (by rw [belowT_length]; omega), if_pos ⟨by omega, h⟩]
   ·rw [gl_set_ne hj, ih]
    grind
  ·rw [if_neg h, ih]
   by_cases hj : i = j
   ·subst hj; rw [if_neg (by simp), if_neg (fun hc => h hc.2)]
   ·grind
theorem below_there {x : IdxR} {l : List (ByteArray × Int)} (h : Has x l) (p : Int) : ∀ i, i ≤ x.t.length →
 Has ⟨belowT x.t p i, x.n - belowN x.t p i, x.used⟩ (((x.t.take i).filter fun q => q.has && !low p q).map entOf ++ ents (x.t.drop i)) ∧ belowN x.t p i = ((x.t.take i).filter (low p)).length
 | 0, _ => ⟨⟨h.inv, by simp [belowT]⟩, rfl⟩
 | i + 1, hi => by
  obtain ⟨⟨i1, i2⟩, i3⟩ := below_there h p i (by omega)
  have hT := belowT_at x.t p i (by omega) i
  rw [if_neg (by simp)] at hT
  have hLen := belowT_length x.t p i
  rw [take_succ_gl (by omega), List.filter_append, List.filter_append, List.map_append, List.length_append, ← i3]
  have hdrop : ents (x.t.drop i) = (if (gl x.t i).has then [entOf (gl x.t i)] else []) ++ ents (x.t.drop (i + 1)) := by
   rw [← ents_cons, gl_eq (by omega), List.getElem_cons_drop]
  rw [hdrop] at i2
  by_cases hl : low p (gl x.t i) = true
  ·have hh : (gl x.t i).has = true := by simp [low] at hl; exact hl.1
   have e1 : belowT x.t p (i + 1) = (belowT x.t p i).set i goneP := if_pos hl
   have e2 : belowN x.t p (i + 1) = belowN x.t p i + 1 := by show belowN x.t p i + (if low p (gl x.t i) = true then 1 else 0) = _; rw [if_pos hl]
   have h0 : Has ⟨belowT x.t p i, x.n - belowN x.t p i, x.used⟩ ((entOf (gl x.t i)) :: (((x.t.take i).filter fun q => q.has && !low p q).map entOf ++ ents (x.t.drop (i + 1)))) := by
    refine ⟨i1, i2.trans ?_⟩
    rw [if_pos hh]; exact List.perm_middle
   have h1 := drop_there (x := ⟨belowT x.t p i, x.n - belowN x.t p i, x.used⟩) h0
   have hf := findP_there i1 (i := i) (by simp only; omega) (by simp only; rw [hT]; exact hh)
   simp only at hf
   rw [hT] at hf
   have e3 : dropI ⟨belowT x.t p i, x.n - belowN x.t p i, x.used⟩ (gl x.t i).key = ⟨(belowT x.t p i).set i goneP, x.n - (belowN x.t p i + 1), x.used⟩ := by
    unfold dropI; simp only; rw [hf]; simp; omega
   refine ⟨?_, by rw [e2]; simp [hl]⟩
   rw [e1, e2, ← e3]
   simp only [List.filter_cons, hl, hh, Bool.not_true, Bool.and_false, List.filter_nil, List.map_nil, List.append_nil, Bool.false_eq_true, if_false]
   exact h1.1
  ·have e1 : belowT x.t p (i + 1) = belowT x.t p i := if_neg hl
   have e2 : belowN x.t p (i + 1) = belowN x.t p i := by show belowN x.t p i + (if low p (gl x.t i) = true then 1 else 0) = _; rw [if_neg hl]; rfl
   refine ⟨⟨?_, ?_⟩, by rw [e2]; simp [hl]⟩
   ·rw [e1, e2]; exact i1
   ·rw [e1]
    refine i2.trans (.of_eq ?_)
    cases hh : (gl x.t i).has <;> simp [hl, hh]
theorem two_parts {α : Type} (f : α → Bool) : ∀ l : List α, l.length = (l.filter f).length + (l.filter fun e => !f e).length
 | [] => rfl
 | a :: r => by
  have := two_parts f r
  cases h : f a <;> simp [List.filter_cons, h] <;> omega
/-- what lies below goes -/
theorem below_has {x : IdxR} {l : List (ByteArray × Int)} (h : Has x l) (p : Int) : Has (belowI x p) (l.filter fun e => decide (p ≤ e.2)) ∧ belowN x.t p x.t.length = l.length - (l.filter fun e => decide (p ≤ e.2)).length ∧ belowN x.t p x.t.length ≤ l.length := by
 obtain ⟨h1, h2⟩ := below_there h p x.t.length (Nat.le_refl _)
 rw [List.take_length] at h1 h2
 rw [List.drop_length] at h1
 have e : ((x.t.filter fun q => q.has && !low p q).map entOf ++ ents []) = (ents x.t).filter fun e => decide (p ≤ e.2) := by
  unfold ents
  rw [List.filter_map, List.filter_filter]
  simp only [List.filter_nil, List.map_nil, List.append_nil]
  congr 1
  apply List.filter_congr
  intro q _
  simp only [Function.comp, low, entOf]
  by_cases hc : q.pos < p
  ·have hd : ¬ p ≤ q.pos := by omega
   cases hq : q.has <;> simp [hc, hd]
  ·have hd : p ≤ q.pos := by omega
   cases hq : q.has <;> simp [hc, hd]
 rw [e] at h1
 have hp := (h.perm.filter fun e => decide (p ≤ e.2))
 have e2 : (x.t.filter (low p)).length = ((ents x.t).filter fun e => !decide (p ≤ e.2)).length := by
  unfold ents
  rw [List.filter_map, List.length_map, List.filter_filter]
  congr 1
  apply List.filter_congr
  intro q _
  simp only [Function.comp, low, entOf]
  by_cases hc : q.pos < p
  ·have hd : ¬ p ≤ q.pos := by omega
   cases hq : q.has <;> simp [hc, hd]
  ·have hd : p ≤ q.pos := by omega
   cases hq : q.has <;> simp [hc, hd]
 have e3 := two_parts (fun e : ByteArray × Int => decide (p ≤ e.2)) (ents x.t)
 refine ⟨h1.of_perm hp, ?_, ?_⟩
 ·rw [h2, e2, ← hp.length_eq, ← h.perm.length_eq]; omega
 ·rw [h2, e2, ← h.perm.length_eq]; omega

/-! ### a new one; grow -/

theorem empty_has {n : Nat} (h1 : 16 ≤ n) (h2 : n ≤ 40000) : Has (emptyI n) [] := by
 have key : ∀ i, i < n → gl (List.replicate n (⟨.empty, 0, false, false⟩ : PlaceR)) i = ⟨.empty, 0, false, false⟩ := fun i hi => gl_replicate hi
 have he : ents (List.replicate n (⟨.empty, 0, false, false⟩ : PlaceR)) = [] := by simp [ents]
 refine ⟨⟨by simpa [emptyI] using h1, by simpa [emptyI] using h2, ?_, ?_, by simp only [emptyI, List.length_replicate]; omega, fun i hi => ?_, fun i j hi hj h => ?_, fun i hi h => ?_⟩, by simp only [emptyI]; rw [he]⟩
 ·simp only [emptyI]; rw [he]; rfl
 ·simp [emptyI, List.countP_replicate, busy, bare]
 ·simp only [emptyI, List.length_replicate] at hi ⊢
  rw [key i hi]; simp only [lenMax]; decide
 ·simp only [emptyI, List.length_replicate] at hi h
  rw [key i hi] at h; cases h
 ·simp only [emptyI, List.length_replicate] at hi h
  rw [key i hi] at h; cases h

theorem keys_nodup {x : IdxR} (h : Inv x) {i : Nat} (hi : i < x.t.length) (hh : (gl x.t i).has = true) : (gl x.t i).key ∉ (ents (x.t.take i)).map Prod.fst := by
 intro hm
 obtain ⟨⟨k, p⟩, h1, h2⟩ := List.mem_map.1 hm
 obtain ⟨j, h3, h4, h5, _⟩ := mem_ents.1 h1
 rw [List.length_take] at h3
 rw [gl_take (by omega)] at h4 h5
 have := h.dist j i (by omega) hi h4 hh (h5.trans h2)
 omega

theorem grow_step {x : IdxR} (h : Inv x) (hn : x.n < 10000) : ∀ i, i ≤ x.t.length →
 Has (putAll x.t (emptyI (max 16 (4 * x.n))) i) (ents (x.t.take i)) ∧ (putAll x.t (emptyI (max 16 (4 * x.n))) i).used ≤ (putAll x.t (emptyI (max 16 (4 * x.n))) i).n
 | 0, _ => ⟨by simpa [putAll, ents] using empty_has (n := max 16 (4 * x.n)) (by omega) (by omega), Nat.le_refl _⟩
 | i + 1, hi => by
  obtain ⟨h1, h2⟩ := grow_step h hn i (by omega)
  have hT := take_succ_gl (l := x.t) (i := i) (by omega)
  rw [hT, ents_app]
  unfold putAll
  by_cases hh : (gl x.t i).has = true
  ·rw [if_pos hh]
   have hcount : (ents (x.t.take i)).length + 1 ≤ x.n := by
    rw [h.n, ents_at (show i < x.t.length by omega), if_pos hh]; simp
   have hlen : (putAll x.t (emptyI (max 16 (4 * x.n))) i).t.length = max 16 (4 * x.n) := by rw [putAll_length]; simp [emptyI]
   obtain ⟨g1, g2, g3, g4, g5, g6⟩ := put_new (p := (gl x.t i).pos) h1 (keys_nodup h (by omega) hh) (h.size i (by omega)) (by rw [hlen]; have := h1.n; omega)
   refine ⟨g1.of_perm ?_, by omega⟩
   rw [ents_cons, if_pos hh]
   simp only [ents, List.filter_nil, List.map_nil, List.append_nil]
   exact (List.perm_append_singleton _ _).symm
  ·rw [if_neg hh, ents_cons, if_neg hh]
   simp only [ents, List.filter_nil, List.map_nil, List.append_nil]
   exact ⟨h1, h2⟩
/-- what grow needs -/
theorem grow_pre {x : IdxR} (h : Inv x) (hn : x.n < 10000) : ∀ i, i < x.t.length → (gl x.t i).has = true → 2 * (putAll x.t (emptyI (max 16 (4 * x.n))) i).used < max 16 (4 * x.n) ∧ (putAll x.t (emptyI (max 16 (4 * x.n))) i).n < 100000 ∧
 ((findP (putAll x.t (emptyI (max 16 (4 * x.n))) i).t (gl x.t i).key).1 < 0 → 0 ≤ (findP (putAll x.t (emptyI (max 16 (4 * x.n))) i).t (gl x.t i).key).2) := by
 intro i hi hh
 obtain ⟨h1, h2⟩ := grow_step h hn i (by omega)
 have hcount : (ents (x.t.take i)).length + 1 ≤ x.n := by
  rw [h.n, ents_at hi, if_pos hh]; simp
 have := h1.n
 exact ⟨by omega, by omega, fun _ => (h1.none_find (keys_nodup h hi hh)).2⟩
theorem grow_has {x : IdxR} {l : List (ByteArray × Int)} (h : Has x l) (hn : x.n < 10000) : Has (growI x) l ∧ 2 * (growI x).used < (growI x).t.length := by
 obtain ⟨h1, h2⟩ := grow_step h.inv hn x.t.length (Nat.le_refl _)
 rw [List.take_length] at h1
 refine ⟨h1.of_perm h.perm, ?_⟩
 have hlen : (growI x).t.length = max 16 (4 * x.n) := by unfold growI; rw [putAll_length]; simp [emptyI]
 have e1 := h1.n
 have e2 := h.inv.n
 rw [hlen]
 unfold growI
 omega

/-- Put -/
def roomy (x : IdxR) : IdxR := if x.t.length ≤ 2 * x.used then growI x else x
def putX (x : IdxR) (k : ByteArray) (p : Int) : IdxR := putI (roomy x) k p
theorem roomy_has {x : IdxR} {l : List (ByteArray × Int)} (h : Has x l) (hn : x.n < 10000) : Has (roomy x) l ∧ 2 * (roomy x).used < (roomy x).t.length := by
 unfold roomy
 split
 ·exact grow_has h hn
 ·exact ⟨h, by omega⟩
theorem putX_there {x : IdxR} {l : List (ByteArray × Int)} {k : ByteArray} {p q : Int} (h : Has x ((k, q) :: l)) (hn : x.n < 10000) : Has (putX x k p) ((k, p) :: l) ∧ putRet (roomy x) k = q :=
 let h1 := roomy_has h hn
 let h2 := put_there (p := p) h1.1
 ⟨h2.1, h2.2.1⟩
theorem putX_new {x : IdxR} {l : List (ByteArray × Int)} {k : ByteArray} {p : Int} (h : Has x l) (hn : x.n < 10000) (hk : k ∉ l.map Prod.fst) (hs : k.size ≤ lenMax) : Has (putX x k p) ((k, p) :: l) ∧ putRet (roomy x) k = 0 :=
 let h1 := roomy_has h hn
 let h2 := put_new (p := p) h1.1 hk hs h1.2
 ⟨h2.1, h2.2.1⟩
theorem Has.free {x : IdxR} {l : List (ByteArray × Int)} (h : Has x l) (k : ByteArray) (hf : (findP x.t k).1 < 0) : 0 ≤ (findP x.t k).2 := by
 by_cases hk : k ∈ l.map Prod.fst
 ·obtain ⟨⟨k', p⟩, h1, rfl⟩ := List.mem_map.1 hk
  obtain ⟨i, _, _, _, _, e⟩ := h.mem h1
  rw [e] at hf; simp at hf; omega
 ·exact (h.none_find hk).2

/-- what Get tells -/
def getI (x : IdxR) (k : ByteArray) : Int × Bool := if 0 ≤ (findP x.t k).1 then ((gl x.t (findP x.t k).1.toNat).pos, true) else (0, false)
theorem get_there {x : IdxR} {l : List (ByteArray × Int)} (h : Has x l) {k : ByteArray} {p : Int} (hm : (k, p) ∈ l) : getI x k = (p, true) := by
 obtain ⟨i, _, _, _, h4, e⟩ := h.mem hm
 unfold getI; rw [e]; simp [h4]
theorem get_none {x : IdxR} {l : List (ByteArray × Int)} (h : Has x l) {k : ByteArray} (hm : k ∉ l.map Prod.fst) : getI x k = (0, false) := by
 unfold getI; rw [(h.none_find hm).1]; rfl
end Go.Proofs.YtfobhkibkdmglaaGreat.Ix
