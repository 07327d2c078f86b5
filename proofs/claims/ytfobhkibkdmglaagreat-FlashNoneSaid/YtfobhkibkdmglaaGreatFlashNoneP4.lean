/-
  The layer slog: segments in memory, a sector's bytes; no condition but that a segment is not too long.
  The layer slog: a segment's sector is written, a segment begins; no condition but that there is room.
  The layer slog: a record is appended; no condition but that there is room, and that no segment goes.
  The layer slog: a record is read, the eldest one's position is told; no condition but that positions are in order.
  The layer slog: sectors are taken, records found, segments read, a log opened; no condition but that there is at most one segment.
-/
import Derived.Test.YtfobhkibkdmglaaGreatFlashNoneP3
namespace Go.Proofs.YtfobhkibkdmglaaGreat
open Go.Sx
set_option maxRecDepth 100000
set_option linter.unusedVariables false
set_option linter.unusedSimpArgs false

structure RecM where
 pos : Int
 body : List Int
 deriving Inhabited
structure SegM where
 gen : Int
 base : Int
 run : Int
 buf : List Int
 recs : List RecM
 deriving Inhabited
/-- where a segment lies: its block, its slices' values, its records' ones -/
structure SegL where
 b : Nat
 bv : Value
 rv : Value
 vs : List Value
def ksRec : List CK := [.int .i64, .deep]
def recR (rs : List RecM) (vs : List Value) : Nat → Nat → Value := fun i j => if j = 0 then .int .i64 (gl rs i).pos else vs.getD i undef
def segC (g : SegM) (bv rv : Value) : List Value := [.int .i64 g.gen, .int .i64 g.base, .int .i64 g.run, bv, rv]
/-- bytes of the pool -/
def BytesAt (H : PH) (v : Value) (l : List Int) : Prop := ∃ c, slAt H v [.int .u8] l.length c (encRows encB l)
structure SegAt (H : PH) (y : SegL) (g : SegM) : Prop where
 cell : H y.b = some (0, segC g y.bv y.rv)
 rng : InR .i64 g.gen ∧ InR .i64 g.base ∧ InR .i64 g.run
 buf : BytesAt H y.bv g.buf
 recs : ∃ c, slAt H y.rv ksRec g.recs.length c (recR g.recs y.vs)
 len : y.vs.length = g.recs.length
 body : ∀ i, i < g.recs.length → BytesAt H (y.vs.getD i undef) (gl g.recs i).body
def fpV : Value → List Nat
 | .slice (some ⟨b, _, _⟩) _ _ => [b]
 | _ => []
def fpSeg (y : SegL) : List Nat := y.b :: (fpV y.bv ++ (fpV y.rv ++ y.vs.flatMap fpV))
theorem slAt_frame {H H' : PH} {v : Value} {ks : List CK} {l c : Nat} {rows : Nat → Nat → Value} (h : slAt H v ks l c rows) (e : ∀ x ∈ fpV v, H' x = H x) : slAt H' v ks l c rows := by
 rcases h with h | ⟨b, lo, o, cs, rfl, h1, h2, h3, h4⟩
 ·exact .inl h
 ·exact .inr ⟨b, lo, o, cs, rfl, h1, by rw [e b (by simp [fpV, slv]), h2], h3, h4⟩
theorem BytesAt.frame {H H' : PH} {v : Value} {l : List Int} (h : BytesAt H v l) (e : ∀ x ∈ fpV v, H' x = H x) : BytesAt H' v l := by
 obtain ⟨c, h⟩ := h
 exact ⟨c, slAt_frame h e⟩
theorem SegAt.frame {H H' : PH} {y : SegL} {g : SegM} (h : SegAt H y g) (e : ∀ x ∈ fpSeg y, H' x = H x) : SegAt H' y g := by
 have e1 : ∀ x ∈ fpV y.bv, H' x = H x := fun x hx => e x (by simp [fpSeg, hx])
 have e2 : ∀ x ∈ fpV y.rv, H' x = H x := fun x hx => e x (by simp [fpSeg, hx])
 obtain ⟨c, hr⟩ := h.recs
 refine ⟨by rw [e y.b (by simp [fpSeg]), h.cell], h.rng, h.buf.frame e1, ⟨c, slAt_frame hr e2⟩, h.len, fun i hi => (h.body i hi).frame fun x hx => e x ?_⟩
 simp only [fpSeg, List.mem_cons, List.mem_append, List.mem_flatMap]
 refine .inr (.inr (.inr ⟨_, ?_, hx⟩))
 have := h.len
 rw [List.getD_eq_getElem?_getD, List.getElem?_eq_getElem (by omega)]
 exact List.getElem_mem _
theorem slAt_dom {H : PH} {v : Value} {ks : List CK} {l c : Nat} {rows : Nat → Nat → Value} (h : slAt H v ks l c rows) : ∀ x ∈ fpV v, H x ≠ none := by
 rcases h with ⟨rfl, _⟩ | ⟨b, lo, o, cs, rfl, h1, h2, h3, h4⟩
 ·intro x hx; cases hx
 ·intro x hx
  simp only [fpV, slv, List.mem_singleton] at hx
  rw [hx, h2]; simp
theorem SegAt.dom {H : PH} {y : SegL} {g : SegM} (h : SegAt H y g) : ∀ x ∈ fpSeg y, H x ≠ none := by
 intro x hx
 simp only [fpSeg, List.mem_cons, List.mem_append, List.mem_flatMap] at hx
 rcases hx with rfl | hx | hx | ⟨v, hv, hx⟩
 ·rw [h.cell]; simp
 ·obtain ⟨c, hb⟩ := h.buf; exact slAt_dom hb x hx
 ·obtain ⟨c, hr⟩ := h.recs; exact slAt_dom hr x hx
 ·obtain ⟨i, hi, rfl⟩ := List.getElem_of_mem hv
  have hl := h.len
  obtain ⟨c, hb⟩ := h.body i (by omega)
  rw [List.getD_eq_getElem?_getD, List.getElem?_eq_getElem hi] at hb
  exact slAt_dom hb x hx

theorem slAt_len {H : PH} {v : Value} {ks : List CK} {l c : Nat} {rows : Nat → Nat → Value} (h : slAt H v ks l c rows) : slLen v = l ∧ slCap v = c ∧ l ≤ c ∧ c ≤ lenMax ∧ okSl v ∧ (∃ a, v = .slice a l c) ∧ v.oneCell' = true := by
 rcases h with ⟨rfl, rfl, rfl⟩ | ⟨b, lo, o, cs, rfl, ⟨h1, h1'⟩, h2, h3, h4⟩
 ·exact ⟨rfl, rfl, Nat.le_refl _, Nat.zero_le _, .inl rfl, ⟨_, rfl⟩, rfl⟩
 ·exact ⟨rfl, rfl, h1, h1', .inr ⟨_, _, _, _, rfl, h1, h1'⟩, ⟨_, rfl⟩, rfl⟩
/-- a part of a slice -/
theorem slAt_cut {H : PH} {v : Value} {ks : List CK} {l c : Nat} {rows : Nat → Nat → Value} (hk : 1 ≤ ks.length) (h : slAt H v ks l c rows) {sz a e m : Nat} (hs : sz = ks.length) (h1 : a ≤ e) (h2 : e ≤ l) (h2' : e ≤ m) (h3 : m ≤ c) : slAt H (slcut sz v a e m) ks (e - a) (m - a) (fun i => rows (a + i)) := by
 subst hs
 rcases h with ⟨rfl, rfl, rfl⟩ | ⟨b, lo, o, cs, rfl, ⟨g1, g1'⟩, g2, g3, g4⟩
 ·exact .inl ⟨rfl, by omega, by omega⟩
 ·rw [slcut_slv]
  by_cases hm : m = a
  ·subst hm
   refine .inr ⟨b, lo, o, cs, by rw [if_pos rfl], ⟨by omega, by omega⟩, g2, by have : (m - m) * ks.length = 0 := by rw [Nat.sub_self, Nat.zero_mul]
                                                                               have := Nat.le_add_right o (c * ks.length)
                                                                               omega, ⟨fun i hi => by omega⟩⟩
  ·rw [if_neg hm]
   have e1 : (m - a) * ks.length + a * ks.length = m * ks.length := by rw [← Nat.add_mul, Nat.sub_add_cancel (by omega)]
   have e2 := Nat.mul_le_mul_right ks.length h3
   refine .inr ⟨b, lo, o + a * ks.length, cs, by rw [Nat.add_assoc], ⟨by omega, by omega⟩, g2, by omega, ⟨fun i hi j k hj => ?_⟩⟩
   have := g4.at_ (a + i) (by omega) j k hj
   rw [Nat.add_mul] at this
   rwa [show o + a * ks.length + i * ks.length + j = o + (a * ks.length + i * ks.length) + j by omega]
theorem BytesAt.len {H : PH} {v : Value} {l : List Int} (h : BytesAt H v l) : slLen v = l.length ∧ okSl v ∧ l.length ≤ lenMax ∧ l.length ≤ slCap v ∧ (∃ a c, v = .slice a l.length c) ∧ v.oneCell' = true := by
 obtain ⟨c, h⟩ := h
 obtain ⟨h1, h2, h3, h4, h5, ⟨a, h6⟩, h7⟩ := slAt_len h
 exact ⟨h1, h5, by omega, by omega, ⟨a, c, h6⟩, h7⟩
theorem BytesAt.cut {H : PH} {v : Value} {l : List Int} (h : BytesAt H v l) {a e : Nat} (h1 : a ≤ e) (h2 : e ≤ l.length) : slAt H (slcut 1 v a e (slCap v)) [.int .u8] (e - a) (slCap v - a) (fun i => encRows encB l (a + i)) := by
 obtain ⟨c, h⟩ := h
 obtain ⟨_, g2, g3, _⟩ := slAt_len h
 rw [g2]
 exact slAt_cut (Nat.le_refl _) h rfl h1 h2 (by omega) (Nat.le_refl _)

/-! ### a sector's bytes -/

theorem rowsB_eq {n : Nat} {f : Nat → Int} {rows : Nat → Nat → Value} (h : ∀ i, i < n → rows i 0 = .int .u8 (f i)) : RowsEq n 1 rows (rowsB f) := ⟨fun i hi j hj => by
 have : j = 0 := by omega
 subst this; exact h i hi⟩
theorem upd1_at {rows : Nat → Nat → Value} {k i : Nat} {v : Value} : updR rows k 0 [v] i 0 = if i = k then v else rows i 0 := by
 rw [updR_at]
 simp

/-- a number's bytes, the highest first -/
def beB (v : Int) (len k : Nat) : Int := uw .u8 (v / 2 ^ (8 * (len - 1 - k)))
def startS (i : Nat) : Nat := 48 * i - 6
def roomS (i : Nat) : Nat := if i = 0 then 42 else 48
def usedS (n i : Nat) : Nat := min (roomS i) (n - min (startS i) n)
/-- ahead of the sum -/
def sec0 (g : SegM) (i : Nat) (run : Int) (j : Nat) : Int :=
 if j < 4 then 0 else if j < 10 then beB (uw .u64 g.gen) 6 (j - 4) else if j < 14 then beB (uw .u64 run) 4 (j - 10) else if j < 15 then (i : Int) else if j < 16 then (usedS g.buf.length i : Int)
 else if i = 0 then (if j < 22 then beB (uw .u64 g.base) 6 (j - 16) else if j - 22 < usedS g.buf.length i then gl g.buf (j - 22) else 0)
 else if j - 16 < usedS g.buf.length i then gl g.buf (startS i + (j - 16)) else 0
def sumB (f : Nat → Int) : Int := ibits .xor .u32 4294967295 (crcTo (fun k => f (4 + k)) 60)
def secB (g : SegM) (i : Nat) (run : Int) (j : Nat) : Int := if j < 4 then beB (sumB (sec0 g i run)) 4 j else sec0 g i run j
theorem putR_B {f : Nat → Int} {r len : Nat} {v : Int} (h : len ≤ 8) : putR (rowsB f) r len v len = rowsB fun i => if r ≤ i ∧ i < r + len then beB v len (i - r) else f i := by
 funext i j
 simp only [putR, rowsB]
 by_cases hi : r ≤ i ∧ i < r + len
 ·rw [if_pos (by omega), if_pos hi]
  simp only [beB]
  rw [show min (8 * (r + len - 1 - i)) 64 = 8 * (len - 1 - (i - r)) by omega]
 ·rw [if_neg (by omega), if_neg hi]
structure SecA where
 H : PH
 y : SegL
 g : SegM
 i : Nat
 run : Int
noncomputable def cSector : Con where
 α := SecA
 β := Unit
 m := 1
 m' := 2
 pre := fun a => SegAt a.H a.y a.g ∧ a.i < 8 ∧ a.g.buf.length ≤ 378
 args := fun a => [.a (.val (pv a.y.b 0)), .a (.int .i64 a.i), .a (.int .i64 a.run)]
 hp := fun _ => []
 ro := fun a => [(0, .pool a.H)]
 post := fun _ _ => True
 res := fun _ _ => .a (.slc 1 0 1 64 64)
 hp' := fun a _ => [(1, .arr 5 [.int .u8] 64 (rowsB (secB a.g a.i a.run)))]
set_option maxHeartbeats 4000000 in
theorem bodySector : fnBody (Y Tryz.prog) [(80, cPut), (88, cCrc)] 102 cSector fun _ => [] := fnBody.of (p :=
 ∀ a : SecA, SegAt a.H a.y a.g ∧ a.i < 8 ∧ a.g.buf.length ≤ 378 → (0 : Int) ≤ 64 ∧ (64 : Int) ≤ 64 ∧ (64 : Int) ≤ 281474976710656 ∧ ((0 : Int) ≤ 10 ∧ (10 : Int) ≤ 64) ∧ ((0 : Int) ≤ 4 ∧ (4 : Int) ≤ 10) ∧ ∃ b o : Nat, pv a.y.b 0 = pv b o ∧ ∃ b_1 o_1 : Nat, pv b o = pv b_1 o_1 ∧ ∃ b lo o : Nat, ∃ cs : List Value, pv b_1 (o_1 + 0) = pv b (lo + o) ∧ a.H b = some (lo, cs) ∧ ((∃ v : Value, cs[o]? = some v ∧ ∃ n : Int, v = Value.int IntKind.i64 n ∧ InR .i64 n) ∧ True) ∧ (InR .i64 (toI (cs.getD o (Value.tuple #[]))) → ∃ a_3 : PutA, (4 = a_3.r ∧ 6 = a_3.len ∧ 60 = a_3.cap) ∧ uw .u64 (toI (cs.getD o (Value.tuple #[]))) = a_3.v ∧ (a_3.n ≤ 64 ∧ RowsEq a_3.n 1 (fun (x j : Nat) => [Value.int IntKind.u8 (0 : Int)].getD j (Value.tuple #[])) a_3.rows) ∧ (a_3.r + a_3.len ≤ a_3.n ∧ a_3.len ≤ 8) ∧ ∀ b : Unit, True → ((0 : Int) ≤ 14 ∧ (14 : Int) ≤ 64) ∧ ((0 : Int) ≤ 10 ∧ (10 : Int) ≤ 14) ∧ ∃ a_5 : PutA, (10 = a_5.r ∧ 4 = a_5.len ∧ 54 = a_5.cap) ∧ uw .u64 a.run = a_5.v ∧ (a_5.n ≤ a_3.n ∧ RowsEq a_5.n 1 (putR a_3.rows a_3.r a_3.len a_3.v a_3.len) a_5.rows) ∧ (a_5.r + a_5.len ≤ a_5.n ∧ a_5.len ≤ 8) ∧ ∀ b : Unit, True → ((0 : Int) ≤ 14 ∧ (14 : Int) < 64) ∧ 14 < a_5.n ∧ ((0 : Int) ≤ 16 ∧ (16 : Int) ≤ 64) ∧ (((↑a.i : Int) == 0) = true → ((0 : Int) ≤ 6 ∧ (6 : Int) ≤ 48) ∧ ∃ b o : Nat, pv a.y.b 0 = pv b o ∧ ∃ b_2 o_2 : Nat, pv b o = pv b_2 o_2 ∧ ∃ b lo o : Nat, ∃ cs : List Value, pv b_2 (o_2 + 1) = pv b (lo + o) ∧ a.H b = some (lo, cs) ∧ ((∃ v : Value, cs[o]? = some v ∧ ∃ n : Int, v = Value.int IntKind.i64 n ∧ 
 InR .i64 n) ∧ True) ∧ (InR .i64 (toI (cs.getD o (Value.tuple #[]))) → ∃ a_9 : PutA, (16 = a_9.r ∧ 6 = a_9.len ∧ 48 = a_9.cap) ∧ uw .u64 (toI (cs.getD o (Value.tuple #[]))) = a_9.v ∧ (a_9.n ≤ a_5.n ∧ RowsEq a_9.n 1 (updR (putR a_5.rows a_5.r a_5.len a_5.v a_5.len) 14 0 [Value.int IntKind.u8 (uw .u8 (↑a.i : Int))]) a_9.rows) ∧ (a_9.r + a_9.len ≤ a_9.n ∧ a_9.len ≤ 8) ∧ ∀ b : Unit, True → ((0 : Int) ≤ 6 ∧ (6 : Int) ≤ 48) ∧ ∃ b o : Nat, pv a.y.b 0 = pv b o ∧ ∃ b_3 o_3 : Nat, pv b o = pv b_3 o_3 ∧ ∃ b lo o : Nat, ∃ cs : List Value, pv b_3 (o_3 + 3) = pv b (lo + o) ∧ a.H b = some (lo, cs) ∧ ((∃ v : Value, cs[o]? = some v ∧ v.oneCell' = true) ∧ True) ∧ ∃ b o_4 : Nat, pv a.y.b 0 = pv b o_4 ∧ ∃ b_4 o_5 : Nat, pv b o_4 = pv b_4 o_5 ∧ ∃ b lo o_6 : Nat, ∃ cs_1 : List Value, pv b_4 (o_5 + 3) = pv b (lo + o_6) ∧ a.H b = some (lo, cs_1) ∧ ((∃ v : Value, cs_1[o_6]? = some v ∧ v.oneCell' = true) ∧ True) ∧ (∃ a : Option Go.Addr, ∃ l c : Nat, cs_1.getD o_6 (Value.tuple #[]) = Value.slice a l c ∧ l ≤ lenMax) ∧ InR .i64 ((↑a.i : Int) * 48) ∧ InR .i64 ((↑a.i : Int) * 48 - (6 : Int)) ∧ okSl (cs.getD o (Value.tuple #[])) ∧ (((0 : Int) ≤ bif false then max (bif true then max (0 : Int) ((↑a.i : Int) * 48 - (6 : Int)) else min (0 : Int) ((↑a.i : Int) * 48 - (6 : Int))) (↑(slLen (cs_1.getD o_6 (Value.tuple #[]))) : Int) else min (bif true then max (0 : Int) ((↑a.i : Int) * 48 - (6 : Int)) else min (0 : Int) ((↑a.i : Int) * 48 - (6 : Int))) (↑(slLen (cs_1.getD o_6 (Value.tuple #[]))) : Int)) ∧ (bif false then max (bif true then max (0 : Int) ((↑a.i : Int) * 48 - (6 : Int)) else min (0 : Int) ((↑a.i : Int) * 48 - (6 : Int))) (↑(slLen (cs_1.getD o_6 (Value.tuple #[]))) : Int) else min (bif true then max (0 : Int) ((↑a.i : Int) * 48 - (6 : Int)) else min (0 : Int) ((↑a.i : Int) * 48 - (6 : Int))) (↑(slLen (cs_1.getD o_6 (Value.tuple #[]))) : Int)) ≤ (↑(slLen (cs.getD o (Value.tuple #[]))) : Int)) ∧ 
 64 ≤ a_9.n ∧ ∃ l c : Nat, ∃ rows : Nat → Nat → Value, slAt a.H (slcut 1 (cs.getD o (Value.tuple #[])) (bif false then max (bif true then max (0 : Int) ((↑a.i : Int) * 48 - (6 : Int)) else min (0 : Int) ((↑a.i : Int) * 48 - (6 : Int))) (↑(slLen (cs_1.getD o_6 (Value.tuple #[]))) : Int) else min (bif true then max (0 : Int) ((↑a.i : Int) * 48 - (6 : Int)) else min (0 : Int) ((↑a.i : Int) * 48 - (6 : Int))) (↑(slLen (cs_1.getD o_6 (Value.tuple #[]))) : Int)).toNat (slLen (cs.getD o (Value.tuple #[]))) (slCap (cs.getD o (Value.tuple #[])))) [CK.int IntKind.u8] l c rows ∧ ((0 : Int) ≤ 15 ∧ (15 : Int) < 64) ∧ 15 < a_9.n ∧ ((0 : Int) ≤ 4 ∧ (4 : Int) ≤ 64) ∧ ((0 : Int) ≤ 4 ∧ (4 : Int) ≤ 64) ∧ ∃ a_11 : CrcA, (0 = 0 ∧ 1 = 1 ∧ 1 = a_11.c) ∧ (4 = a_11.r ∧ 60 = a_11.len ∧ 60 = a_11.cap) ∧ (a_11.n ≤ a_9.n ∧ RowsEq a_11.n 1 (updR (cpRows (putR a_9.rows a_9.r a_9.len a_9.v a_9.len) 22 (min l 42) rows) 15 0 [Value.int IntKind.u8 (uw .u8 (↑(min l 42) : Int))]) a_11.rows) ∧ (a_11.r + a_11.len ≤ a_11.n ∧ a_11.len < 100000) ∧ ∀ b : Unit, True → ∃ a_13 : PutA, (0 = a_13.r ∧ 4 = a_13.len ∧ 64 = a_13.cap) ∧ ibits Go.BinOp.xor IntKind.u32 (4294967295 : Int) (crcTo (fun (i : Nat) => u8 a_11.rows (a_11.r + i)) a_11.len) = a_13.v ∧ (a_13.n ≤ a_9.n ∧ RowsEq a_13.n 1 (updR (cpRows (putR a_9.rows a_9.r a_9.len a_9.v a_9.len) 22 (min l 42) rows) 15 0 [Value.int IntKind.u8 (uw .u8 (↑(min l 42) : Int))]) a_13.rows) ∧ (a_13.r + a_13.len ≤ a_13.n ∧ a_13.len ≤ 8) ∧ ∀ b : Unit, True → ∃ b : Unit, (0 = 0 ∧ 64 = 64 ∧ 
 64 = 64) ∧ (64 ≤ a_13.n ∧ RowsEq 64 1 (putR a_13.rows a_13.r a_13.len a_13.v a_13.len) (rowsB (secB a.g a.i a.run))) ∧ True ∧ True)) ∧ (((↑a.i : Int) == 0) = false → ∃ b o : Nat, pv a.y.b 0 = pv b o ∧ ∃ b_2 o_2 : Nat, pv b o = pv b_2 o_2 ∧ ∃ b lo o : Nat, ∃ cs : List Value, pv b_2 (o_2 + 3) = pv b (lo + o) ∧ a.H b = some (lo, cs) ∧ ((∃ v : Value, cs[o]? = some v ∧ v.oneCell' = true) ∧ True) ∧ ∃ b o_3 : Nat, pv a.y.b 0 = pv b o_3 ∧ ∃ b_3 o_4 : Nat, pv b o_3 = pv b_3 o_4 ∧ ∃ b lo o_5 : Nat, ∃ cs_1 : List Value, pv b_3 (o_4 + 3) = pv b (lo + o_5) ∧ a.H b = some (lo, cs_1) ∧ ((∃ v : Value, cs_1[o_5]? = some v ∧ v.oneCell' = true) ∧ True) ∧ (∃ a : Option Go.Addr, ∃ l c : Nat, cs_1.getD o_5 (Value.tuple #[]) = Value.slice a l c ∧ l ≤ lenMax) ∧ InR .i64 ((↑a.i : Int) * 48) ∧ InR .i64 ((↑a.i : Int) * 48 - (6 : Int)) ∧ okSl (cs.getD o (Value.tuple #[])) ∧ (((0 : Int) ≤ bif false then max (bif true then max (0 : Int) ((↑a.i : Int) * 48 - (6 : Int)) else min (0 : Int) ((↑a.i : Int) * 48 - (6 : Int))) (↑(slLen (cs_1.getD o_5 (Value.tuple #[]))) : Int) else min (bif true then max (0 : Int) ((↑a.i : Int) * 48 - (6 : Int)) else min (0 : Int) ((↑a.i : Int) * 48 - (6 : Int))) (↑(slLen (cs_1.getD o_5 (Value.tuple #[]))) : Int)) ∧ (bif false then max (bif true then max (0 : Int) ((↑a.i : Int) * 48 - (6 : Int)) else min (0 : Int) ((↑a.i : Int) * 48 - (6 : Int))) (↑(slLen (cs_1.getD o_5 (Value.tuple #[]))) : Int) else min (bif true then max (0 : Int) ((↑a.i : Int) * 48 - (6 : Int)) else min (0 : Int) ((↑a.i : Int) * 48 - (6 : Int))) (↑(slLen (cs_1.getD o_5 (Value.tuple #[]))) : Int)) ≤ (↑(slLen (cs.getD o (Value.tuple #[]))) : Int)) ∧ 
 64 ≤ a_5.n ∧ ∃ l c : Nat, ∃ rows : Nat → Nat → Value, slAt a.H (slcut 1 (cs.getD o (Value.tuple #[])) (bif false then max (bif true then max (0 : Int) ((↑a.i : Int) * 48 - (6 : Int)) else min (0 : Int) ((↑a.i : Int) * 48 - (6 : Int))) (↑(slLen (cs_1.getD o_5 (Value.tuple #[]))) : Int) else min (bif true then max (0 : Int) ((↑a.i : Int) * 48 - (6 : Int)) else min (0 : Int) ((↑a.i : Int) * 48 - (6 : Int))) (↑(slLen (cs_1.getD o_5 (Value.tuple #[]))) : Int)).toNat (slLen (cs.getD o (Value.tuple #[]))) (slCap (cs.getD o (Value.tuple #[])))) [CK.int IntKind.u8] l c rows ∧ ((0 : Int) ≤ 15 ∧ (15 : Int) < 64) ∧ 15 < a_5.n ∧ ((0 : Int) ≤ 4 ∧ (4 : Int) ≤ 64) ∧ ((0 : Int) ≤ 4 ∧ (4 : Int) ≤ 64) ∧ ∃ a_8 : CrcA, (0 = 0 ∧ 1 = 1 ∧ 1 = a_8.c) ∧ (4 = a_8.r ∧ 60 = a_8.len ∧ 60 = a_8.cap) ∧ (a_8.n ≤ a_5.n ∧ RowsEq a_8.n 1 (updR (cpRows (updR (putR a_5.rows a_5.r a_5.len a_5.v a_5.len) 14 0 [Value.int IntKind.u8 (uw .u8 (↑a.i : Int))]) 16 (min l 48) rows) 15 0 [Value.int IntKind.u8 (uw .u8 (↑(min l 48) : Int))]) a_8.rows) ∧ (a_8.r + a_8.len ≤ a_8.n ∧ a_8.len < 100000) ∧ ∀ b : Unit, True → ∃ a_10 : PutA, (0 = a_10.r ∧ 4 = a_10.len ∧ 64 = a_10.cap) ∧ ibits Go.BinOp.xor IntKind.u32 (4294967295 : Int) (crcTo (fun (i : Nat) => u8 a_8.rows (a_8.r + i)) a_8.len) = a_10.v ∧ (a_10.n ≤ a_5.n ∧ RowsEq a_10.n 1 (updR (cpRows (updR (putR a_5.rows a_5.r a_5.len a_5.v a_5.len) 14 0 [Value.int IntKind.u8 (uw .u8 (↑a.i : Int))]) 16 (min l 48) rows) 15 0 [Value.int IntKind.u8 (uw .u8 (↑(min l 48) : Int))]) a_10.rows) ∧ 
 (a_10.r + a_10.len ≤ a_10.n ∧ a_10.len ≤ 8) ∧ ∀ b : Unit, True → ∃ b : Unit, (0 = 0 ∧ 64 = 64 ∧ 64 = 64) ∧ (64 ≤ a_10.n ∧ RowsEq 64 1 (putR a_10.rows a_10.r a_10.len a_10.v a_10.len) (rowsB (secB a.g a.i a.run))) ∧ True ∧ True))) (by kernel_rfl) (by
 rintro ⟨H, y, g, i, run⟩ ⟨hs, hi, hlen⟩
 dsimp only at hs hi hlen ⊢
 have hc := hs.cell
 obtain ⟨r1, r2, r3⟩ := hs.rng
 obtain ⟨b1, b2, b3, b4, ⟨ba, bc, b5⟩, b6⟩ := hs.buf.len
 obtain ⟨S, hS⟩ : ∃ S, S = min (startS i) g.buf.length := ⟨_, rfl⟩
 have hmm : (bif false then max (bif true then max 0 ((i : Int) * 48 - 6) else min 0 ((i : Int) * 48 - 6)) (g.buf.length : Int) else min (bif true then max 0 ((i : Int) * 48 - 6) else min 0 ((i : Int) * 48 - 6)) (g.buf.length : Int)) = (S : Int) := by
  simp only [cond_true, cond_false, startS] at *; omega
 have hcut := hs.buf.cut (a := S) (e := g.buf.length) (by omega) (Nat.le_refl _)
 repeat (first | refine And.intro (by omega) ?_ | refine And.intro (by dsimp only; omega) ?_ | refine And.intro (by simp only [InR]; omega) ?_)
 refine ⟨_, _, rfl, ?_⟩
 refine ⟨_, _, rfl, ?_⟩
 refine ⟨_, 0, _, _, rfl, hc, ?_⟩
 refine ⟨⟨⟨_, rfl, _, rfl, r1⟩, trivial⟩, fun _ => ⟨⟨4, 6, 60, uw .u64 g.gen, 64, rowsB fun _ => 0⟩, ?_⟩⟩
 (repeat' apply And.intro) <;> first | with_reducible (first | rfl | trivial | assumption) | omega | with_reducible (first | exact RowsEq.refl _ _ _ | exact Nat.le_refl _) | (dsimp only [List.length_cons, List.length_nil] <;> omega) | rfl | exact rowsB_eq fun _ _ => rfl | skip
 intro _ _
 obtain ⟨F1, hF1⟩ : ∃ F : Nat → Int, F = fun k => if 4 ≤ k ∧ k < 4 + 6 then beB (uw .u64 g.gen) 6 (k - 4) else 0 := ⟨_, rfl⟩
 obtain ⟨F2, hF2⟩ : ∃ F : Nat → Int, F = fun k => if 10 ≤ k ∧ k < 10 + 4 then beB (uw .u64 run) 4 (k - 10) else F1 k := ⟨_, rfl⟩
 rw [show putR (rowsB fun _ => 0) 4 6 (uw .u64 g.gen) 6 = rowsB F1 by rw [putR_B (by omega), hF1]]
 repeat (first | refine And.intro (by omega) ?_ | refine And.intro (by dsimp only; omega) ?_ | refine And.intro (by simp only [InR]; omega) ?_)
 refine ⟨⟨10, 4, 54, uw .u64 run, 64, rowsB F1⟩, ?_⟩
 (repeat' apply And.intro) <;> first | with_reducible (first | rfl | trivial | assumption) | omega | with_reducible (first | exact RowsEq.refl _ _ _ | exact Nat.le_refl _) | (dsimp only [List.length_cons, List.length_nil] <;> omega) | rfl | skip
 intro _ _
 rw [show putR (rowsB F1) 10 4 (uw .u64 run) 4 = rowsB F2 by rw [putR_B (by omega), hF2]]
 have hi8 : uw .u8 (i : Int) = i := by simp only [uw]; omega
 have hsec : ∀ (F : Nat → Int), (∀ k, k < 64 → F k = sec0 g i run k) → ∀ k, k < 64 → (if 0 ≤ k ∧ k < 0 + 4 then beB (ibits .xor .u32 4294967295 (crcTo (fun i_1 => u8 (rowsB (sec0 g i run)) (4 + i_1)) 60)) 4 (k - 0) else sec0 g i run k) = secB g i run k := by
  intro F hF k hk
  simp only [secB, sumB, Nat.zero_add, Nat.sub_zero, Nat.zero_le, true_and]
  rfl
 repeat (first | refine And.intro (by omega) ?_ | refine And.intro (by dsimp only; omega) ?_ | refine And.intro (by simp only [InR]; omega) ?_)
 rw [hi8]
 refine ⟨fun c1 => ?_, fun c1 => ?_⟩
 ·have hi0 : i = 0 := by simpa using c1
  subst hi0
  obtain ⟨F3, hF3⟩ : ∃ F : Nat → Int, F = fun k => if k = 14 then 0 else F2 k := ⟨_, rfl⟩
  obtain ⟨F4, hF4⟩ : ∃ F : Nat → Int, F = fun k => if 16 ≤ k ∧ k < 16 + 6 then beB (uw .u64 g.base) 6 (k - 16) else F3 k := ⟨_, rfl⟩
  repeat (first | refine And.intro (by omega) ?_ | refine And.intro (by dsimp only; omega) ?_ | refine And.intro (by simp only [InR]; omega) ?_)
  refine ⟨_, _, rfl, ?_⟩
  refine ⟨_, _, rfl, ?_⟩
  refine ⟨_, 0, _, _, rfl, hc, ?_⟩
  refine ⟨⟨⟨_, rfl, _, rfl, r2⟩, trivial⟩, fun _ => ⟨⟨16, 6, 48, uw .u64 g.base, 64, rowsB F3⟩, ?_⟩⟩
  (repeat' apply And.intro) <;> first | with_reducible (first | rfl | trivial | assumption) | omega | with_reducible (first | exact RowsEq.refl _ _ _ | exact Nat.le_refl _) | (dsimp only [List.length_cons, List.length_nil] <;> omega) | rfl | exact rowsB_eq (fun k hk => by rw [upd1_at, hF3]; simp only [rowsB]; split <;> rfl) | skip
  intro _ _
  rw [show putR (rowsB F3) 16 6 (uw .u64 g.base) 6 = rowsB F4 by rw [putR_B (by omega), hF4]]
  repeat (first | refine And.intro (by omega) ?_ | refine And.intro (by dsimp only; omega) ?_ | refine And.intro (by simp only [InR]; omega) ?_)
  refine ⟨_, _, rfl, ?_⟩
  refine ⟨_, _, rfl, ?_⟩
  refine ⟨_, 0, _, _, rfl, hc, ?_⟩
  refine ⟨⟨⟨_, rfl, b6⟩, trivial⟩, ?_⟩
  refine ⟨_, _, rfl, ?_⟩
  refine ⟨_, _, rfl, ?_⟩
  refine ⟨_, 0, _, _, rfl, hc, ?_⟩
  refine ⟨⟨⟨_, rfl, b6⟩, trivial⟩, ⟨ba, _, bc, b5, b3⟩, ?_⟩
  simp only [segC, List.getD_cons_succ, List.getD_cons_zero, b1, hmm, Int.toNat_natCast]
  repeat (first | refine And.intro (by omega) ?_ | refine And.intro (by dsimp only; omega) ?_ | refine And.intro (by simp only [InR]; omega) ?_)
  refine ⟨_, _, _, hcut, ?_⟩
  repeat (first | refine And.intro (by omega) ?_ | refine And.intro (by dsimp only; omega) ?_ | refine And.intro (by simp only [InR]; omega) ?_)
  obtain ⟨U, hU⟩ : ∃ U, U = usedS g.buf.length 0 := ⟨_, rfl⟩
  have hU2 : min (g.buf.length - S) 42 = U := by rw [hU, hS]; simp only [usedS, roomS, startS, if_true]; omega
  have hUs : (uw .u8 ((min (g.buf.length - S) 42 : Nat) : Int)) = (U : Int) := by rw [hU2]; simp only [uw]; omega
  have hS0 : S = 0 := by rw [hS]; simp [startS]
  have hfin : RowsEq 64 1 (updR (cpRows (rowsB F4) 22 (min (g.buf.length - S) 42) fun i => encRows encB g.buf (S + i)) 15 0 [Value.int .u8 (uw .u8 ((min (g.buf.length - S) 42 : Nat) : Int))]) (rowsB (sec0 g 0 run)) := by
   rw [hUs, hU2, hS0]
   refine rowsB_eq fun k hk => ?_
   rw [upd1_at]
   simp only [cpRows, rowsB, encRows, encB, List.getD_cons_zero, Nat.zero_add, hF4, hF3, hF2, hF1, sec0, ← hU, if_true]
   (repeat' split) <;> first | rfl | (exfalso; omega) | skip
  refine ⟨CrcA.mk 1 4 60 60 64 (rowsB (sec0 g 0 run)), ?_⟩
  (repeat' apply And.intro) <;> first | with_reducible (first | rfl | trivial | assumption) | omega | with_reducible (first | exact RowsEq.refl _ _ _ | exact Nat.le_refl _) | (dsimp only [List.length_cons, List.length_nil] <;> omega) | exact hfin | skip
  intro _ _
  refine ⟨PutA.mk 0 4 64 (ibits .xor .u32 4294967295 (crcTo (fun i_1 => u8 (rowsB (sec0 g 0 run)) (4 + i_1)) 60)) 64 (rowsB (sec0 g 0 run)), ?_⟩
  (repeat' apply And.intro) <;> first | with_reducible (first | rfl | trivial | assumption) | omega | with_reducible (first | exact RowsEq.refl _ _ _ | exact Nat.le_refl _) | (dsimp only [List.length_cons, List.length_nil] <;> omega) | exact hfin | skip
  intro _ _
  refine ⟨(), ?_⟩
  have hlast : RowsEq 64 1 (putR (rowsB (sec0 g 0 run)) 0 4 (ibits .xor .u32 4294967295 (crcTo (fun i_1 => u8 (rowsB (sec0 g 0 run)) (4 + i_1)) 60)) 4) (rowsB (secB g 0 run)) := by
   rw [putR_B (by omega)]
   exact rowsB_eq fun k hk => by simp only [rowsB]; rw [hsec _ (fun _ _ => rfl) k hk]
  (repeat' apply And.intro) <;> first | with_reducible (first | rfl | trivial | assumption) | omega | with_reducible (first | exact RowsEq.refl _ _ _ | exact Nat.le_refl _) | (dsimp only [List.length_cons, List.length_nil] <;> omega) | exact hlast | skip
 ·have hi0 : i ≠ 0 := by simpa using c1
  repeat (first | refine And.intro (by omega) ?_ | refine And.intro (by dsimp only; omega) ?_ | refine And.intro (by simp only [InR]; omega) ?_)
  refine ⟨_, _, rfl, ?_⟩
  refine ⟨_, _, rfl, ?_⟩
  refine ⟨_, 0, _, _, rfl, hc, ?_⟩
  refine ⟨⟨⟨_, rfl, b6⟩, trivial⟩, ?_⟩
  refine ⟨_, _, rfl, ?_⟩
  refine ⟨_, _, rfl, ?_⟩
  refine ⟨_, 0, _, _, rfl, hc, ?_⟩
  refine ⟨⟨⟨_, rfl, b6⟩, trivial⟩, ⟨ba, _, bc, b5, b3⟩, ?_⟩
  simp only [segC, List.getD_cons_succ, List.getD_cons_zero, b1, hmm, Int.toNat_natCast]
  repeat (first | refine And.intro (by omega) ?_ | refine And.intro (by dsimp only; omega) ?_ | refine And.intro (by simp only [InR]; omega) ?_)
  refine ⟨_, _, _, hcut, ?_⟩
  repeat (first | refine And.intro (by omega) ?_ | refine And.intro (by dsimp only; omega) ?_ | refine And.intro (by simp only [InR]; omega) ?_)
  obtain ⟨U, hU⟩ : ∃ U, U = usedS g.buf.length i := ⟨_, rfl⟩
  have hU2 : min (g.buf.length - S) 48 = U := by rw [hU, hS]; simp only [usedS, roomS, if_neg hi0]; omega
  have hUs : (uw .u8 ((min (g.buf.length - S) 48 : Nat) : Int)) = (U : Int) := by rw [hU2]; simp only [uw]; omega
  have hfin : RowsEq 64 1 (updR (cpRows (updR (rowsB F2) 14 0 [Value.int .u8 (i : Int)]) 16 (min (g.buf.length - S) 48) fun i => encRows encB g.buf (S + i)) 15 0 [Value.int .u8 (uw .u8 ((min (g.buf.length - S) 48 : Nat) : Int))]) (rowsB (sec0 g i run)) := by
   have hSU : 0 < U → S = startS i := by rw [hU, hS]; simp only [usedS]; omega
   rw [hUs, hU2]
   refine rowsB_eq fun k hk => ?_
   rw [upd1_at]
   simp only [cpRows, rowsB, encRows, encB, List.getD_cons_zero, upd1_at, hF2, hF1, sec0, ← hU, if_neg hi0]
   (repeat' split) <;> first | rfl | (exfalso; omega) | (rw [hSU (by omega)]; done) | skip
  refine ⟨CrcA.mk 1 4 60 60 64 (rowsB (sec0 g i run)), ?_⟩
  (repeat' apply And.intro) <;> first | with_reducible (first | rfl | trivial | assumption) | omega | with_reducible (first | exact RowsEq.refl _ _ _ | exact Nat.le_refl _) | (dsimp only [List.length_cons, List.length_nil] <;> omega) | exact hfin | skip
  intro _ _
  refine ⟨PutA.mk 0 4 64 (ibits .xor .u32 4294967295 (crcTo (fun i_1 => u8 (rowsB (sec0 g i run)) (4 + i_1)) 60)) 64 (rowsB (sec0 g i run)), ?_⟩
  (repeat' apply And.intro) <;> first | with_reducible (first | rfl | trivial | assumption) | omega | with_reducible (first | exact RowsEq.refl _ _ _ | exact Nat.le_refl _) | (dsimp only [List.length_cons, List.length_nil] <;> omega) | exact hfin | skip
  intro _ _
  refine ⟨(), ?_⟩
  have hlast : RowsEq 64 1 (putR (rowsB (sec0 g i run)) 0 4 (ibits .xor .u32 4294967295 (crcTo (fun i_1 => u8 (rowsB (sec0 g i run)) (4 + i_1)) 60)) 4) (rowsB (secB g i run)) := by
   rw [putR_B (by omega)]
   exact rowsB_eq fun k hk => by simp only [rowsB]; rw [hsec _ (fun _ _ => rfl) k hk]
  (repeat' apply And.intro) <;> first | with_reducible (first | rfl | trivial | assumption) | omega | with_reducible (first | exact RowsEq.refl _ _ _ | exact Nat.le_refl _) | (dsimp only [List.length_cons, List.length_nil] <;> omega) | exact hlast | skip)

end Go.Proofs.YtfobhkibkdmglaaGreat

namespace Go.Proofs.YtfobhkibkdmglaaGreat
open Go.Sx
set_option maxRecDepth 100000
set_option linter.unusedVariables false
set_option linter.unusedSimpArgs false

theorem callSector : CallsBy (Y Tryz.prog).G.X 102 cSector := fn_ok okY (tab := [(80, cPut), (88, cCrc)]) ⟨callPut, callCrc, trivial⟩ bodySector
structure LogM where
 from_ : Nat
 segs : Nat
 l : List SegM
 next : Int
 run : Int
 fresh : Bool
 deriving Inhabited
/-- where a log lies: the list's value, the segments' places -/
structure LogL where
 lv : Value
 ys : List SegL
def logA (t : Nat) (L : LogM) (lv : Value) : List A := [.ptr t 0 0 0, .int .i64 L.from_, .int .i64 L.segs, .val lv, .int .i64 L.next, .int .i64 L.run, .bool L.fresh]
/-- a log is told as another one -/
@[reducible] def logQ (a b : LogM) (v w : Value) (p : Prop) : Prop := (↑a.from_ : Int) = (↑b.from_ : Int) ∧ (↑a.segs : Int) = (↑b.segs : Int) ∧ v = w ∧ a.next = b.next ∧ a.run = b.run ∧ a.fresh = b.fresh ∧ p
def logObj (t : Nat) (L : LogM) (lv : Value) : Chunk := .obj 100 (logA t L lv)
def secNo (L : LogM) (g : SegM) (i : Nat) : Nat := L.from_ + (g.gen - 1).toNat % L.segs * 8 + i
structure WriteA where
 H : PH
 y : SegL
 g : SegM
 i : Nat
 L : LogM
 lv : Value
 d : DevM
noncomputable def cWrite : Con where
 α := WriteA
 β := Unit
 m := 4
 m' := 4
 pre := fun a => SegAt a.H a.y a.g ∧ a.i < 8 ∧ a.g.buf.length ≤ 378 ∧ 1 ≤ a.g.gen ∧ 3 ≤ a.L.segs ∧ a.L.segs ≤ 200 ∧ a.L.from_ + a.L.segs * 8 ≤ a.d.n ∧ a.d.n < 100000 ∧ a.d.calls < 1000000000000
 args := fun a => [.a (.ptr 0 0 0 0), .a (.val (pv a.y.b 0)), .a (.int .i64 a.i)]
 hp := fun a => devHp 1 2 a.d
 ro := fun a => [(0, logObj 1 a.L a.lv), (3, .pool a.H)]
 post := fun _ _ => True
 res := fun _ _ => .a (.int .i64 0)
 hp' := fun a _ => devHp 1 2 (devWr a.d (secNo a.L a.g a.i) 64 (secB a.g a.i a.L.run))
set_option maxHeartbeats 4000000 in
theorem bodyWrite : fnBody (Y Tryz.prog) [(102, cSector), (101, cDevWrite)] 82 cWrite fun _ => [] := fnBody.of (p :=
 ∀ a : WriteA, SegAt a.H a.y a.g ∧ a.i < 8 ∧ a.g.buf.length ≤ 378 ∧ (1 : Int) ≤ a.g.gen ∧ 3 ≤ a.L.segs ∧ a.L.segs ≤ 200 ∧ a.L.from_ + a.L.segs * 8 ≤ a.d.n ∧ a.d.n < 100000 ∧ a.d.calls < 1000000000000 → ∃ b o : Nat, pv a.y.b 0 = pv b o ∧ ∃ b_1 o_1 : Nat, pv b o = pv b_1 o_1 ∧ ∃ b lo o : Nat, ∃ cs : List Value, pv b_1 (o_1 + 0) = pv b (lo + o) ∧ a.H b = some (lo, cs) ∧ ((∃ v : Value, cs[o]? = some v ∧ ∃ n : Int, v = Value.int IntKind.i64 n ∧ InR .i64 n) ∧ True) ∧ (InR .i64 (toI (cs.getD o (Value.tuple #[]))) → InR .i64 (toI (cs.getD o (Value.tuple #[])) - (1 : Int)) ∧ (InR .i64 (↑a.L.segs : Int) → (↑a.L.segs : Int) ≠ (0 : Int) ∧ (InR .i64 (↑a.L.from_ : Int) → InR .i64 ((toI (cs.getD o (Value.tuple #[])) - (1 : Int)).tmod (↑a.L.segs : Int) * 8) ∧ InR .i64 ((↑a.L.from_ : Int) + (toI (cs.getD o (Value.tuple #[])) - (1 : Int)).tmod (↑a.L.segs : Int) * 8) ∧ InR .i64 ((↑a.L.from_ : Int) + (toI (cs.getD o (Value.tuple #[])) - (1 : Int)).tmod (↑a.L.segs : Int) * 8 + (↑a.i : Int)) ∧ (InR .i64 a.L.run → ∃ a_6 : SecA, pv a.y.b 0 = pv a_6.y.b 0 ∧ (↑a.i : Int) = (↑a_6.i : Int) ∧ a.L.run = a_6.run ∧ a.H = a_6.H ∧ (SegAt a_6.H a_6.y a_6.g ∧ a_6.i < 8 ∧ a_6.g.buf.length ≤ 378) ∧ ∀ b : Unit, True → ∃ a_8 : WrA, 0 = 0 ∧ (↑a.L.from_ : Int) + (toI (cs.getD o (Value.tuple #[])) - (1 : Int)).tmod (↑a.L.segs : Int) * 8 + (↑a.i : Int) = (↑a_8.i : Int) ∧ (0 = a_8.r ∧ 64 = a_8.len ∧ 64 = a_8.cap) ∧ devQ a.d a_8.d ((a_8.n ≤ 64 ∧ RowsEq a_8.n 1 (rowsB (secB a_6.g a_6.i a_6.run)) (rowsB a_8.src)) ∧ (a_8.i < a_8.d.n ∧ 
 a_8.d.n < 100000 ∧ a_8.len ≤ 64 ∧ a_8.r + a_8.len ≤ a_8.n ∧ a_8.d.calls < 1000000000000) ∧ ∀ b : Unit, True → ∃ b : Unit, (0 : Int) = 0 ∧ devQ (devWr a_8.d a_8.i a_8.len fun (j : Nat) => a_8.src (a_8.r + j)) (devWr a.d (secNo a.L a.g a.i) 64 (secB a.g a.i a.L.run)) (True ∧ True))))))) (by kernel_rfl) (by
 rintro ⟨H, y, g, i, L, lv, d⟩ ⟨hs, hi, hlen, hg, s1, s2, h3, h4, h5⟩
 dsimp only at *
 have hc := hs.cell
 obtain ⟨r1, r2, r3⟩ := hs.rng
 have hm : (g.gen - 1).tmod (L.segs : Int) = (((g.gen - 1).toNat % L.segs : Nat) : Int) := by
  rw [Int.tmod_eq_emod_of_nonneg (by omega), Int.natCast_emod]
  congr 1; omega
 have hml : (g.gen - 1).toNat % L.segs < L.segs := Nat.mod_lt _ (by omega)
 have hsn : ((L.from_ : Int) + (((g.gen - 1).toNat % L.segs : Nat) : Int) * 8 + i) = (secNo L g i : Nat) := by simp only [secNo]; omega
 have hlt : secNo L g i < d.n := by simp only [secNo]; omega
 refine ⟨_, _, rfl, ?_⟩
 refine ⟨_, _, rfl, ?_⟩
 refine ⟨_, 0, _, _, rfl, hc, ?_⟩
 refine ⟨⟨⟨_, rfl, _, rfl, r1⟩, trivial⟩, fun _ => ?_⟩
 simp only [segC, List.getD_cons_zero, toI, hm]
 refine ⟨by simp only [InR] at *; omega, fun _ => ⟨by omega, fun _ => ⟨by simp only [InR]; omega, by simp only [InR]; omega, by simp only [InR]; omega, fun _ => ?_⟩⟩⟩
 rw [hsn]
 refine ⟨SecA.mk H y g i L.run, ?_⟩
 (repeat' apply And.intro) <;> first | with_reducible (first | rfl | trivial | assumption) | omega | with_reducible (first | exact RowsEq.refl _ _ _ | exact Nat.le_refl _) | (dsimp only [List.length_cons, List.length_nil] <;> omega) | skip
 intro _ _
 refine ⟨WrA.mk d (secNo L g i) 0 64 64 64 (secB g i L.run), ?_⟩
 simp only [Nat.zero_add]
 (repeat' (first | apply And.intro | (intro _) | apply Exists.intro ())) <;> first | with_reducible (first | rfl | trivial | assumption) | omega | with_reducible (first | exact RowsEq.refl _ _ _ | exact Nat.le_refl _) | (dsimp only [List.length_cons, List.length_nil] <;> omega) | skip)
theorem callWrite : CallsBy (Y Tryz.prog).G.X 82 cWrite := fn_ok okY (tab := [(102, cSector), (101, cDevWrite)]) ⟨callSector, callDevWrite, trivial⟩ bodyWrite

/-! ### a log in memory -/

instance : Inhabited SegL := ⟨⟨0, undef, undef, []⟩⟩
def ptrR (ys : List SegL) : Nat → Nat → Value := fun i _ => pv (gl ys i).b 0
structure LogAt (H : PH) (y : LogL) (L : LogM) : Prop where
 lst : ∃ c, slAt H y.lv [.deep] L.l.length c (ptrR y.ys)
 len : y.ys.length = L.l.length
 seg : ∀ i, i < L.l.length → SegAt H (gl y.ys i) (gl L.l i)
 nd : (fpV y.lv ++ y.ys.flatMap fpSeg).Nodup
def fpLog (y : LogL) : List Nat := fpV y.lv ++ y.ys.flatMap fpSeg

/-- the i-th segment's place -/
theorem LogAt.at_ {H : PH} {y : LogL} {L : LogM} (h : LogAt H y L) {i : Nat} (hi : i < L.l.length) : ∃ b lo o c cs, y.lv = slv b (lo + o) L.l.length c ∧ H b = some (lo, cs) ∧ cs[o + i * 1]? = some (pv (gl y.ys i).b 0) ∧ cs.getD (o + i * 1) (Value.tuple #[]) = pv (gl y.ys i).b 0 := by
 obtain ⟨c, h⟩ := h.lst
 rcases h with ⟨_, h0, _⟩ | ⟨b, lo, o, cs, h1, h2, h3, h4, h5⟩
 ·omega
 ·have := (h5.at_ i hi 0 .deep rfl).1
  exact ⟨b, lo, o, c, cs, h1, h3, this, by rw [List.getD_eq_getElem?_getD, show cs[o + i * 1]? = some (pv (gl y.ys i).b 0) from this]; rfl⟩
theorem LogAt.lv_len {H : PH} {y : LogL} {L : LogM} (h : LogAt H y L) : slLen y.lv = L.l.length ∧ okSl y.lv ∧ (∃ a c, y.lv = .slice a L.l.length c) ∧ L.l.length ≤ lenMax ∧ y.lv.oneCell' = true := by
 obtain ⟨c, h⟩ := h.lst
 obtain ⟨h1, h2, h3, h4, h5, ⟨a, h6⟩, h7⟩ := slAt_len h
 exact ⟨h1, h5, ⟨a, c, h6⟩, by omega, h7⟩

/-! ### nothing is deleted -/

structure NoDelA where
 H : PH
 y : LogL
 L : LogM
 gb : Nat
 gc : List Value
 t : Int
noncomputable def cNoDel : Con where
 α := NoDelA
 β := Unit
 m := 5
 m' := 5
 pre := fun a => LogAt a.H a.y a.L ∧ a.L.l.length < 1000 ∧ a.L.segs ≤ 200 ∧ InR .i64 a.t ∧ 0 ≤ a.t ∧ (∃ r, a.H a.gb = some (0, .int .i64 a.t :: r)) ∧ ∀ i, i < a.L.l.length → a.t - a.L.segs < (gl a.L.l i).gen
 args := fun a => [.a (.val a.y.lv), .clo 100 [.ptr 0 0 0 0, .ptr 1 0 0 0]]
 hp := fun _ => []
 ro := fun a => [(0, .obj 101 [.val (pv a.gb 0)]), (1, .obj 65 [.ptr 2 0 0 0]), (2, logObj 4 a.L a.y.lv), (3, .pool a.H)]
 post := fun _ _ => True
 res := fun a _ => .a (.val a.y.lv)
 hp' := fun _ _ => []
noncomputable def cIdxNo : Con where
 α := NoDelA
 β := Unit
 m := 5
 m' := 5
 pre := cNoDel.pre
 args := cNoDel.args
 hp := fun _ => []
 ro := cNoDel.ro
 post := fun _ _ => True
 res := fun a _ => .a (.lit .i64 (-1))
 hp' := fun _ _ => []
def iNoDel (a : NoDelA) : An := .flat 2 Nat (fun s k => s.int 8 k) (fun _ k => k ≤ a.L.l.length) (fun _ k => a.L.l.length - k)
set_option maxHeartbeats 4000000 in
theorem bodyIdxNo : fnBody (Y Tryz.prog) [] 75 cIdxNo fun a => [(75, [iNoDel a], [])] := fnBody.of (p :=
 ∀ a : NoDelA, (LogAt a.H a.y a.L ∧ a.L.l.length < 1000 ∧ a.L.segs ≤ 200 ∧ InR .i64 a.t ∧ (0 : Int) ≤ a.t ∧ (∃ r : List Value, a.H a.gb = some (0, Value.int IntKind.i64 a.t :: r)) ∧ ∀ i : Nat, i < a.L.l.length → a.t - (↑a.L.segs : Int) < (gl a.L.l i).gen) → (∃ a_2 : Option Go.Addr, ∃ l c : Nat, a.y.lv = Value.slice a_2 l c ∧ l ≤ lenMax) ∧ (∃ a_2 : Nat, 0 = (↑a_2 : Int) ∧ (↑(slLen a.y.lv) : Int) = (↑(slLen a.y.lv) : Int) ∧ (0 : Int) = 0 ∧ a.y.lv = a.y.lv ∧ 0 = 0 ∧ 0 = 0 ∧ pv a.gb 0 = pv a.gb 0 ∧ 0 = 0 ∧ 0 = 0 ∧ logQ a.L a.L a.y.lv a.y.lv (a.H = a.H ∧ a_2 ≤ a.L.l.length ∧ True)) ∧ ∀ a_2 : Nat, a_2 ≤ a.L.l.length → (decide ((↑a_2 : Int) < (↑(slLen a.y.lv) : Int)) = true → ∃ b o : Nat, ∃ l c : Nat, a.y.lv = slv b o l c ∧ (0 ≤ (↑a_2 : Int) ∧ (↑a_2 : Int) < (↑l : Int)) ∧ ∃ b_1 lo o_1 : Nat, ∃ cs : List Value, pv b (o + (↑a_2 : Int).toNat * 1) = pv b_1 (lo + o_1) ∧ a.H b_1 = some (lo, cs) ∧ ((∃ v : Value, cs[o_1]? = some v ∧ v.oneCell' = true) ∧ True) ∧ ∃ b o : Nat, cs.getD o_1 (Value.tuple #[]) = pv b o ∧ ∃ b_2 o_2 : Nat, pv b o = pv b_2 o_2 ∧ ∃ b lo o : Nat, ∃ cs : List Value, pv b_2 (o_2 + 0) = pv b (lo + o) ∧ a.H b = some (lo, cs) ∧ ((∃ v : Value, cs[o]? = some v ∧ ∃ n : Int, v = Value.int IntKind.i64 n ∧ InR .i64 n) ∧ True) ∧ (InR .i64 (toI (cs.getD o (Value.tuple #[]))) → ∃ b o_3 : Nat, pv a.gb 0 = pv b o_3 ∧ ∃ b_3 o_4 : Nat, pv b o_3 = pv b_3 o_4 ∧ ∃ b lo o_5 : Nat, ∃ cs_1 : List Value, pv b_3 (o_4 + 0) = pv b (lo + o_5) ∧ a.H b = some (lo, cs_1) ∧ ((∃ v : Value, cs_1[o_5]? = some v ∧ 
 ∃ n : Int, v = Value.int IntKind.i64 n ∧ InR .i64 n) ∧ True) ∧ (InR .i64 (toI (cs_1.getD o_5 (Value.tuple #[]))) → InR .i64 (↑a.L.segs : Int) → InR .i64 (toI (cs_1.getD o_5 (Value.tuple #[])) - (↑a.L.segs : Int)) ∧ (decide (toI (cs.getD o (Value.tuple #[])) ≤ toI (cs_1.getD o_5 (Value.tuple #[])) - (↑a.L.segs : Int)) = true → ∃ b : Unit, (↑a_2 : Int) = (-1 : Int) ∧ True ∧ True) ∧ (decide (toI (cs.getD o (Value.tuple #[])) ≤ toI (cs_1.getD o_5 (Value.tuple #[])) - (↑a.L.segs : Int)) = false → InR .i64 ((↑a_2 : Int) + 1) ∧ ∃ (a' : Nat), (↑a_2 : Int) + 1 = (↑a' : Int) ∧ (↑(slLen a.y.lv) : Int) = (↑(slLen a.y.lv) : Int) ∧ (0 : Int) = 0 ∧ a.y.lv = a.y.lv ∧ 0 = 0 ∧ 0 = 0 ∧ pv a.gb 0 = pv a.gb 0 ∧ 0 = 0 ∧ 0 = 0 ∧ logQ a.L a.L a.y.lv a.y.lv (a.H = a.H ∧ a' ≤ a.L.l.length ∧ a.L.l.length - a' < a.L.l.length - a_2))))) ∧ (decide ((↑a_2 : Int) < (↑(slLen a.y.lv) : Int)) = false → ∃ b : Unit, (-1 : Int) = (-1 : Int) ∧ True ∧ True)) (by kernel_rfl) (by
 rintro ⟨H, y, L, gb, gc, T⟩ ⟨hl, h1, h2, h3, h4, ⟨gr, hgb⟩, h5⟩
 dsimp only at *
 obtain ⟨e1, _, ⟨ea, ec, e2⟩, e3, _⟩ := hl.lv_len
 refine ⟨⟨ea, _, ec, e2, e3⟩, ⟨0, ?_⟩, fun k hk => ⟨fun c1 => ?_, fun c1 => ⟨(), ?_⟩⟩⟩
 ·(repeat' apply And.intro) <;> first | with_reducible (first | rfl | trivial | assumption) | omega | with_reducible (first | exact RowsEq.refl _ _ _ | exact Nat.le_refl _) | (dsimp only [List.length_cons, List.length_nil] <;> omega)
 ·rw [e1] at c1
  have hk : k < L.l.length := by simpa using c1
  obtain ⟨b, lo, o, c, cs, g1, g2, g3, g4⟩ := hl.at_ hk
  have hs := hl.seg k hk
  obtain ⟨r1, _, _⟩ := hs.rng
  refine ⟨_, _, _, _, g1, by omega, b, lo, o + k * 1, cs, by rw [Int.toNat_natCast, Nat.add_assoc], g2, ⟨⟨_, g3, rfl⟩, trivial⟩, ?_⟩
  refine ⟨_, _, g4, ?_⟩
  refine ⟨_, _, rfl, ?_⟩
  refine ⟨_, 0, _, _, rfl, hs.cell, ?_⟩
  refine ⟨⟨⟨_, rfl, _, rfl, r1⟩, trivial⟩, fun _ => ?_⟩
  refine ⟨_, _, rfl, ?_⟩
  refine ⟨_, _, rfl, ?_⟩
  refine ⟨_, 0, _, _, rfl, hgb, ?_⟩
  refine ⟨⟨⟨_, rfl, _, rfl, h3⟩, trivial⟩, fun _ _ => ?_⟩
  simp only [segC, List.getD_cons_zero, toI, InR] at h3 ⊢
  have h6 := h5 k hk
  refine ⟨by omega, fun c2 => ?_, fun c2 => ⟨by omega, k + 1, ?_⟩⟩
  ·exfalso; simp at c2; omega
  ·(repeat' apply And.intro) <;> first | with_reducible (first | rfl | trivial | assumption) | omega | with_reducible (first | exact RowsEq.refl _ _ _ | exact Nat.le_refl _) | (dsimp only [List.length_cons, List.length_nil] <;> omega)
 ·(repeat' apply And.intro) <;> first | with_reducible (first | rfl | trivial | assumption) | omega | with_reducible (first | exact RowsEq.refl _ _ _ | exact Nat.le_refl _) | (dsimp only [List.length_cons, List.length_nil] <;> omega))
theorem callIdxNo : CallsBy (Y Tryz.prog).G.X 75 cIdxNo := fn_ok okY (tab := []) trivial bodyIdxNo
set_option maxHeartbeats 4000000 in
theorem bodyNoDel : fnBody (Y Tryz.prog) [(75, cIdxNo)] 53 cNoDel fun a => [] := fnBody.of (p :=
 ∀ a : NoDelA, (LogAt a.H a.y a.L ∧ a.L.l.length < 1000 ∧ a.L.segs ≤ 200 ∧ InR .i64 a.t ∧ (0 : Int) ≤ a.t ∧ (∃ r : List Value, a.H a.gb = some (0, Value.int IntKind.i64 a.t :: r)) ∧ ∀ i : Nat, i < a.L.l.length → a.t - (↑a.L.segs : Int) < (gl a.L.l i).gen) → ∃ a_2 : NoDelA, a.y.lv = a_2.y.lv ∧ 0 = 0 ∧ 0 = 0 ∧ pv a.gb 0 = pv a_2.gb 0 ∧ 0 = 0 ∧ 0 = 0 ∧ logQ a.L a_2.L a.y.lv a_2.y.lv (a.H = a_2.H ∧ (LogAt a_2.H a_2.y a_2.L ∧ a_2.L.l.length < 1000 ∧ a_2.L.segs ≤ 200 ∧ InR .i64 a_2.t ∧ (0 : Int) ≤ a_2.t ∧ (∃ r : List Value, a_2.H a_2.gb = some (0, Value.int IntKind.i64 a_2.t :: r)) ∧ ∀ i : Nat, i < a_2.L.l.length → a_2.t - (↑a_2.L.segs : Int) < (gl a_2.L.l i).gen) ∧ ∀ b : Unit, True → ∃ b : Unit, a.y.lv = a.y.lv ∧ True ∧ True)) (by kernel_rfl) (by
 intro a h
 refine ⟨a, ?_⟩
 obtain ⟨h1, h2, h3, h4, h5, h6, h7⟩ := h
 (repeat' (first | apply And.intro | (intro _) | apply Exists.intro ())) <;> first | with_reducible (first | rfl | trivial | assumption) | omega | with_reducible (first | exact RowsEq.refl _ _ _ | exact Nat.le_refl _) | (dsimp only [List.length_cons, List.length_nil] <;> omega) | exact h6 | exact h4.2 | exact h4.1 | exact h7 _ (by assumption))
theorem callNoDel : CallsBy (Y Tryz.prog).G.X 53 cNoDel := fn_ok okY (tab := [(75, cIdxNo)]) ⟨callIdxNo, trivial⟩ bodyNoDel

/-! ### a segment begins -/

def newSeg (L : LogM) : SegM := ⟨(match L.l.getLast? with | some g => g.gen + 1 | none => 1), L.next, 0, [], []⟩
def beginL (L : LogM) : LogM := { L with l := L.l ++ [newSeg L] }
def beginD (L : LogM) (d : DevM) : DevM := devFl (devWr d (secNo L (newSeg L) 0) 64 (secB (newSeg L) 0 L.run))
theorem pminusV_ne {H : PH} {v : Value} {x : Nat} (h : x ∉ fpV v) : pminusV H v x = H x := by
 unfold pminusV
 split
 ·rename_i b o p l c
  exact pminus_ne (fun e => h (by simp [fpV, e]))
 ·rfl
theorem fpSeg_mem {ys : List SegL} {i x : Nat} (hi : i < ys.length) (hx : x ∈ fpSeg (gl ys i)) : x ∈ ys.flatMap fpSeg := by
 rw [gl_eq hi] at hx
 exact List.mem_flatMap.2 ⟨_, List.getElem_mem _, hx⟩
theorem fpSeg_ex {ys : List SegL} {x : Nat} (hx : x ∈ ys.flatMap fpSeg) : ∃ i, i < ys.length ∧ x ∈ fpSeg (gl ys i) := by
 obtain ⟨y, hy, hx⟩ := List.mem_flatMap.1 hx
 obtain ⟨i, hi, rfl⟩ := List.getElem_of_mem hy
 exact ⟨i, hi, by rw [gl_eq hi]; exact hx⟩
theorem LogAt.dom {H : PH} {y : LogL} {L : LogM} (h : LogAt H y L) : ∀ x ∈ fpLog y, H x ≠ none := by
 intro x hx
 rcases List.mem_append.1 hx with hx | hx
 ·obtain ⟨c, hl⟩ := h.lst; exact slAt_dom hl x hx
 ·obtain ⟨i, hi, hx⟩ := fpSeg_ex hx
  exact (h.seg i (by rw [← h.len]; exact hi)).dom x hx
theorem LogAt.frame {H H' : PH} {y : LogL} {L : LogM} (h : LogAt H y L) (e : ∀ x ∈ fpLog y, H' x = H x) : LogAt H' y L := by
 obtain ⟨c, hl⟩ := h.lst
 refine ⟨⟨c, slAt_frame hl fun x hx => e x (List.mem_append_left _ hx)⟩, h.len, fun i hi => (h.seg i hi).frame fun x hx => e x (List.mem_append_right _ (fpSeg_mem (by rw [h.len]; exact hi) hx)), h.nd⟩
theorem gl_app {α : Type} [Inhabited α] {l : List α} {x : α} {i : Nat} (h : i < l.length + 1) : gl (l ++ [x]) i = if i < l.length then gl l i else x := by
 by_cases hi : i < l.length
 ·rw [if_pos hi, gl_append_left hi]
 ·rw [if_neg hi, show i = l.length + 0 by omega, gl_append_right]; rfl
/-- where a new segment lies -/
def newL (b : Nat) : SegL := ⟨b, .slice none 0 0, .slice none 0 0, []⟩
theorem newSeg_at {H : PH} {b : Nat} {L : LogM} (h1 : InR .i64 L.next) (h2 : InR .i64 (newSeg L).gen) : SegAt (pupd H b 0 (segC (newSeg L) (.slice none 0 0) (.slice none 0 0))) (newL b) (newSeg L) :=
 ⟨pupd_self .., ⟨h2, h1, by show InR .i64 0; simp only [InR]; omega⟩, ⟨0, .inl ⟨rfl, rfl, rfl⟩⟩, ⟨0, .inl ⟨rfl, rfl, rfl⟩⟩, rfl, fun i hi => absurd hi (Nat.not_lt_zero i)⟩
theorem begin_at {H : PH} {y : LogL} {L : LogM} {b b' lo cap : Nat} {cs : List Value} {R : Nat → Nat → Value} (hl : LogAt H y L) (h1 : InR .i64 L.next) (h2 : InR .i64 (newSeg L).gen) (hb : H b = none)
 (hb' : pminusV (pupd H b 0 (segC (newSeg L) (.slice none 0 0) (.slice none 0 0))) y.lv b' = none) (hcs : cs.length = cap * 1) (hc : L.l.length + 1 ≤ cap) (hc2 : cap ≤ lenMax) (hp : PRows cs 0 [.deep] (L.l.length + 1) R)
 (hR : ∀ i, i < L.l.length + 1 → R i 0 = ptrR (y.ys ++ [newL b]) i 0) :
 LogAt (pupd (pminusV (pupd H b 0 (segC (newSeg L) (.slice none 0 0) (.slice none 0 0))) y.lv) b' lo cs) ⟨slv b' lo (L.l.length + 1) cap, y.ys ++ [newL b]⟩ (beginL L) ∧
 ∀ x, H x ≠ none → x ∉ fpLog y → pupd (pminusV (pupd H b 0 (segC (newSeg L) (.slice none 0 0) (.slice none 0 0))) y.lv) b' lo cs x = H x ∧ x ∉ fpLog ⟨slv b' lo (L.l.length + 1) cap, y.ys ++ [newL b]⟩ := by
 have hd := hl.dom
 obtain ⟨H1, hH1⟩ : ∃ H1, H1 = pupd H b 0 (segC (newSeg L) (.slice none 0 0) (.slice none 0 0)) := ⟨_, rfl⟩
 have hseg := newSeg_at (H := H) (b := b) h1 h2
 rw [← hH1] at hb' hseg ⊢
 have hx1 : ∀ x, H x ≠ none → H1 x = H x := fun x hx => by rw [hH1]; exact pupd_ne (fun e => hx (by rw [e]; exact hb))
 have hbl : b ∉ fpV y.lv := fun e => hd b (List.mem_append_left _ e) hb
 have hbF : b ∉ y.ys.flatMap fpSeg := fun e => hd b (List.mem_append_right _ e) hb
 have hnd := hl.nd
 rw [List.nodup_append] at hnd
 obtain ⟨n1, n2, n3⟩ := hnd
 have hFl : ∀ x ∈ y.ys.flatMap fpSeg, x ∉ fpV y.lv := fun x hx e => n3 x e x hx rfl
 have hm : ∀ x, x ∉ fpV y.lv → pminusV H1 y.lv x = H1 x := fun x hx => pminusV_ne hx
 have hb'b : b' ≠ b := fun e => by
  have hc : H1 b = _ := hseg.cell
  rw [e, hm b hbl, hc] at hb'; cases hb'
 have hb'F : b' ∉ y.ys.flatMap fpSeg := fun e => by
  have := hd b' (List.mem_append_right _ e)
  rw [hm b' (hFl b' e), hx1 b' this] at hb'
  exact this hb'
 have hfp : fpLog ⟨slv b' lo (L.l.length + 1) cap, y.ys ++ [newL b]⟩ = b' :: (y.ys.flatMap fpSeg ++ [b]) := by
  simp [fpLog, fpV, slv, newL, fpSeg]
 refine ⟨⟨⟨cap, .inr ⟨b', lo, 0, cs, ?_, ⟨?_, hc2⟩, pupd_self .., by simp [hcs], ?_⟩⟩, ?_, ?_, ?_⟩, ?_⟩
 ·simp only [Nat.add_zero, beginL, List.length_append, List.length_singleton]
 ·simp only [beginL, List.length_append, List.length_singleton]; exact hc
 ·simp only [beginL, List.length_append, List.length_singleton]
  refine ⟨fun i hi j k hj => ?_⟩
  have := hp.at_ i hi j k hj
  have hj0 : j = 0 := by have := (List.getElem?_eq_some_iff.1 hj).1; simpa using this
  subst hj0
  rw [hR i hi] at this
  exact this
 ·simp [beginL, hl.len]
 ·intro i hi
  simp only [beginL, List.length_append, List.length_singleton] at hi
  simp only [beginL]
  rw [gl_app hi, gl_app (by rw [hl.len]; exact hi), hl.len]
  by_cases hin : i < L.l.length
  ·rw [if_pos hin, if_pos hin]
   refine (hl.seg i hin).frame fun x hx => ?_
   have hxF := fpSeg_mem (by rw [hl.len]; exact hin) hx
   rw [pupd_ne (fun e => hb'F (by rw [← e]; exact hxF)), hm x (hFl x hxF), hx1 x (hd x (List.mem_append_right _ hxF))]
  ·rw [if_neg hin, if_neg hin]
   refine hseg.frame fun x hx => ?_
   have hxb : x = b := by simpa [newL, fpSeg, fpV] using hx
   subst hxb
   rw [pupd_ne hb'b.symm, hm _ hbl]
 ·show (fpLog ⟨slv b' lo (L.l.length + 1) cap, y.ys ++ [newL b]⟩).Nodup
  rw [hfp, List.nodup_cons, List.nodup_append]
  refine ⟨?_, n2, by simp, ?_⟩
  ·simp only [List.mem_append, List.mem_singleton, not_or]; exact ⟨hb'F, hb'b⟩
  ·intro x hx z hz
   have : z = b := by simpa using hz
   subst this
   exact fun e => hbF (by rw [← e]; exact hx)
 ·intro x hx hxn
  have hxl : x ∉ fpV y.lv := fun e => hxn (List.mem_append_left _ e)
  have hxF : x ∉ y.ys.flatMap fpSeg := fun e => hxn (List.mem_append_right _ e)
  have hxb' : x ≠ b' := fun e => by
   rw [← e, hm x hxl, hx1 x hx] at hb'; exact hx hb'
  have hxb : x ≠ b := fun e => hx (by rw [e]; exact hb)
  refine ⟨by rw [pupd_ne hxb', hm x hxl, hx1 x hx], ?_⟩
  rw [hfp]
  simp only [List.mem_cons, List.mem_append, List.not_mem_nil, or_false, not_or]
  exact ⟨hxb', hxF, hxb⟩
structure BegA where
 H : PH
 y : LogL
 L : LogM
 d : DevM
structure BegB where
 H : PH
 y : LogL
noncomputable def cBegin : Con where
 α := BegA
 β := BegB
 m := 4
 m' := 5
 pre := fun a => LogAt a.H a.y a.L ∧ a.L.l.length < 900 ∧ 3 ≤ a.L.segs ∧ a.L.segs ≤ 200 ∧ a.L.from_ + a.L.segs * 8 ≤ a.d.n ∧ a.d.n < 100000 ∧ a.d.calls < 999999999999 ∧ InR .i64 a.L.next ∧
  (newSeg a.L).gen < 1000000000000 ∧ 1 ≤ (newSeg a.L).gen ∧ ∀ i, i < a.L.l.length → (newSeg a.L).gen - a.L.segs < (gl a.L.l i).gen
 args := fun _ => [.a (.ptr 0 0 0 0)]
 hp := fun a => [(0, logObj 1 a.L a.y.lv)] ++ devHp 1 2 a.d ++ [(3, .pool a.H)]
 ro := fun _ => []
 post := fun a b => LogAt b.H b.y (beginL a.L) ∧ ∀ x, a.H x ≠ none → x ∉ fpLog a.y → b.H x = a.H x ∧ x ∉ fpLog b.y
 res := fun _ _ => .a (.int .i64 0)
 hp' := fun a b => [(0, logObj 1 (beginL a.L) b.y.lv)] ++ devHp 1 2 (beginD a.L a.d) ++ [(4, .pool b.H)]
def vBegin : An := .absCell 5 3 0 (.mk 1000 [] [])
set_option maxHeartbeats 4000000 in
theorem bodyBegin : fnBody (Y Tryz.prog) [(82, cWrite), (53, cNoDel), (64, cDevFlush)] 79 cBegin fun _ => [(79, [], [vBegin])] := fnBody.of (p :=
 ∀ a : BegA, (LogAt a.H a.y a.L ∧ a.L.l.length < 900 ∧ 3 ≤ a.L.segs ∧ a.L.segs ≤ 200 ∧ a.L.from_ + a.L.segs * 8 ≤ a.d.n ∧ a.d.n < 100000 ∧ a.d.calls < 999999999999 ∧ InR .i64 a.L.next ∧ (newSeg a.L).gen < (1000000000000 : Int) ∧ (1 : Int) ≤ (newSeg a.L).gen ∧ ∀ i : Nat, i < a.L.l.length → (newSeg a.L).gen - (↑a.L.segs : Int) < (gl a.L.l i).gen) → InR .i64 a.L.next → (∃ a_3 : Option Go.Addr, ∃ l c : Nat, a.y.lv = Value.slice a_3 l c ∧ l ≤ lenMax) ∧ (decide (0 < (↑(slLen a.y.lv) : Int)) = true → InR .i64 ((↑(slLen a.y.lv) : Int) - 1) ∧ ∃ b o : Nat, ∃ l c : Nat, a.y.lv = slv b o l c ∧ (0 ≤ (↑(slLen a.y.lv) : Int) - 1 ∧ (↑(slLen a.y.lv) : Int) - 1 < (↑l : Int)) ∧ ∃ b_1 lo o_1 : Nat, ∃ cs : List Value, pv b (o + ((↑(slLen a.y.lv) : Int) - 1).toNat * 1) = pv b_1 (lo + o_1) ∧ a.H b_1 = some (lo, cs) ∧ ((∃ v : Value, cs[o_1]? = some v ∧ v.oneCell' = true) ∧ True) ∧ ∃ b o : Nat, cs.getD o_1 (Value.tuple #[]) = pv b o ∧ ∃ b_2 o_2 : Nat, pv b o = pv b_2 o_2 ∧ ∃ b lo o : Nat, ∃ cs : List Value, pv b_2 (o_2 + 0) = pv b (lo + o) ∧ a.H b = some (lo, cs) ∧ ((∃ v : Value, cs[o]? = some v ∧ ∃ n : Int, v = Value.int IntKind.i64 n ∧ InR .i64 n) ∧ True) ∧ (InR .i64 (toI (cs.getD o (Value.tuple #[]))) → InR .i64 (toI (cs.getD o (Value.tuple #[])) + (1 : Int)) ∧ (InR .i64 (toI (cs.getD o (Value.tuple #[])) + (1 : Int)) → InR .i64 a.L.next → ∀ b : Nat, a.H b = none → ∃ a_8 : WriteA, 0 = 0 ∧ pv b 0 = pv a_8.y.b 0 ∧ 0 = (↑a_8.i : Int) ∧ devQ a.d a_8.d (0 = 0 ∧ logQ a.L a_8.L a.y.lv a_8.lv (pupd a.H b 0 [Value.int IntKind.i64 (toI (cs.getD o (Value.tuple #[])) + (1 : Int)), Value.int IntKind.i64 a.L.next, Value.int IntKind.i64 (0 : Int), Value.slice none 0 0, Value.slice none 0 0] = a_8.H ∧ 
 (SegAt a_8.H a_8.y a_8.g ∧ a_8.i < 8 ∧ a_8.g.buf.length ≤ 378 ∧ (1 : Int) ≤ a_8.g.gen ∧ 3 ≤ a_8.L.segs ∧ a_8.L.segs ≤ 200 ∧ a_8.L.from_ + a_8.L.segs * 8 ≤ a_8.d.n ∧ a_8.d.n < 100000 ∧ a_8.d.calls < 1000000000000) ∧ ∀ b_3 : Unit, True → (false = true → ∃ b_4 : BegB, (0 : Int) = 0 ∧ pupd a.H b 0 [Value.int IntKind.i64 (toI (cs.getD o (Value.tuple #[])) + (1 : Int)), Value.int IntKind.i64 a.L.next, Value.int IntKind.i64 (0 : Int), Value.slice none 0 0, Value.slice none 0 0] = b_4.H ∧ 0 = 0 ∧ logQ a.L (beginL a.L) a.y.lv b_4.y.lv (devQ (devWr a_8.d (secNo a_8.L a_8.g a_8.i) 64 (secB a_8.g a_8.i a_8.L.run)) (beginD a.L a.d) ((LogAt b_4.H b_4.y (beginL a.L) ∧ ∀ x : Nat, a.H x ≠ none → ¬x ∈ fpLog a.y → b_4.H x = a.H x ∧ ¬x ∈ fpLog b_4.y) ∧ True))) ∧ (false = false → ∃ a_11 : NoDelA, a.y.lv = a_11.y.lv ∧ 0 = 0 ∧ 0 = 0 ∧ pv b 0 = pv a_11.gb 0 ∧ 0 = 0 ∧ 0 = 0 ∧ logQ a.L a_11.L a.y.lv a_11.y.lv (pupd a.H b 0 [Value.int IntKind.i64 (toI (cs.getD o (Value.tuple #[])) + (1 : Int)), Value.int IntKind.i64 a.L.next, Value.int IntKind.i64 (0 : Int), Value.slice none 0 0, Value.slice none 0 0] = a_11.H ∧ (LogAt a_11.H a_11.y a_11.L ∧ a_11.L.l.length < 1000 ∧ a_11.L.segs ≤ 200 ∧ InR .i64 a_11.t ∧ (0 : Int) ≤ a_11.t ∧ (∃ r : List Value, a_11.H a_11.gb = some (0, Value.int IntKind.i64 a_11.t :: r)) ∧ ∀ i : Nat, i < a_11.L.l.length → a_11.t - (↑a_11.L.segs : Int) < (gl a_11.L.l i).gen) ∧ ∀ b_4 : Unit, True → ∃ l c : Nat, ∃ rows : Nat → Nat → Value, slAt (pupd a.H b 0 [Value.int IntKind.i64 (toI (cs.getD o (Value.tuple #[])) + (1 : Int)), Value.int IntKind.i64 a.L.next, Value.int IntKind.i64 (0 : Int), Value.slice none 0 0, Value.slice none 0 0]) a_11.y.lv [CK.deep] l c rows ∧ 
 0 + l ≤ l ∧ 1 ≤ 1 ∧ (l + 1) * 8 ≤ 140737488355328 ∧ ∀ cap : Nat, l + 1 ≤ cap → cap ≤ lenMax → (l + 1 ≤ c → cap = c) → (cap ≠ 0 ∧ 0 + (l + 1) ≤ l + 1) ∧ ∀ (b_5 lo : Nat) (cs_1 : List Value), pminusV (pupd a.H b 0 [Value.int IntKind.i64 (toI (cs.getD o (Value.tuple #[])) + (1 : Int)), Value.int IntKind.i64 a.L.next, Value.int IntKind.i64 (0 : Int), Value.slice none 0 0, Value.slice none 0 0]) a_11.y.lv b_5 = none → cs_1.length = cap * 1 → (PRows cs_1 0 [CK.deep] (l + 1) fun (i j : Nat) => appRows rows 0 l (fun (i j : Nat) => flatRows 1 [Value.pointer (some { block := b, off := 0 })] (0 + i) j) (0 + i) j) → ∃ a_19 : DevM, 0 = 0 ∧ devQ (devWr a_8.d (secNo a_8.L a_8.g a_8.i) 64 (secB a_8.g a_8.i a_8.L.run)) a_19 ((a_19.n < 100000 ∧ a_19.calls < 1000000000000) ∧ ∀ b_6 : Unit, True → ∃ b_7 : BegB, (0 : Int) = 0 ∧ pupd (pminusV (pupd a.H b 0 [Value.int IntKind.i64 (toI (cs.getD o (Value.tuple #[])) + (1 : Int)), Value.int IntKind.i64 a.L.next, Value.int IntKind.i64 (0 : Int), Value.slice none 0 0, Value.slice none 0 0]) a_11.y.lv) b_5 lo cs_1 = b_7.H ∧ 0 = 0 ∧ logQ a.L (beginL a.L) (slv b_5 lo (l + 1) cap) b_7.y.lv (devQ (devFl a_19) (beginD a.L a.d) ((LogAt b_7.H b_7.y (beginL a.L) ∧ ∀ x : Nat, a.H x ≠ none → ¬x ∈ fpLog a.y → b_7.H x = a.H x ∧ ¬x ∈ fpLog b_7.y) ∧ True)))))))))) ∧ (decide (0 < (↑(slLen a.y.lv) : Int)) = false → InR .i64 a.L.next → ∀ b : Nat, a.H b = none → ∃ a_6 : WriteA, 0 = 0 ∧ pv b 0 = pv a_6.y.b 0 ∧ 0 = (↑a_6.i : Int) ∧ devQ a.d a_6.d (0 = 0 ∧ logQ a.L a_6.L a.y.lv a_6.lv (pupd a.H b 0 [Value.int IntKind.i64 (1 : Int), Value.int IntKind.i64 a.L.next, Value.int IntKind.i64 (0 : Int), Value.slice none 0 0, Value.slice none 0 0] = a_6.H ∧ 
 (SegAt a_6.H a_6.y a_6.g ∧ a_6.i < 8 ∧ a_6.g.buf.length ≤ 378 ∧ (1 : Int) ≤ a_6.g.gen ∧ 3 ≤ a_6.L.segs ∧ a_6.L.segs ≤ 200 ∧ a_6.L.from_ + a_6.L.segs * 8 ≤ a_6.d.n ∧ a_6.d.n < 100000 ∧ a_6.d.calls < 1000000000000) ∧ ∀ b_1 : Unit, True → (false = true → ∃ b_2 : BegB, (0 : Int) = 0 ∧ pupd a.H b 0 [Value.int IntKind.i64 (1 : Int), Value.int IntKind.i64 a.L.next, Value.int IntKind.i64 (0 : Int), Value.slice none 0 0, Value.slice none 0 0] = b_2.H ∧ 0 = 0 ∧ logQ a.L (beginL a.L) a.y.lv b_2.y.lv (devQ (devWr a_6.d (secNo a_6.L a_6.g a_6.i) 64 (secB a_6.g a_6.i a_6.L.run)) (beginD a.L a.d) ((LogAt b_2.H b_2.y (beginL a.L) ∧ ∀ x : Nat, a.H x ≠ none → ¬x ∈ fpLog a.y → b_2.H x = a.H x ∧ ¬x ∈ fpLog b_2.y) ∧ True))) ∧ (false = false → ∃ a_9 : NoDelA, a.y.lv = a_9.y.lv ∧ 0 = 0 ∧ 0 = 0 ∧ pv b 0 = pv a_9.gb 0 ∧ 0 = 0 ∧ 0 = 0 ∧ logQ a.L a_9.L a.y.lv a_9.y.lv (pupd a.H b 0 [Value.int IntKind.i64 (1 : Int), Value.int IntKind.i64 a.L.next, Value.int IntKind.i64 (0 : Int), Value.slice none 0 0, Value.slice none 0 0] = a_9.H ∧ (LogAt a_9.H a_9.y a_9.L ∧ a_9.L.l.length < 1000 ∧ a_9.L.segs ≤ 200 ∧ InR .i64 a_9.t ∧ (0 : Int) ≤ a_9.t ∧ (∃ r : List Value, a_9.H a_9.gb = some (0, Value.int IntKind.i64 a_9.t :: r)) ∧ ∀ i : Nat, i < a_9.L.l.length → a_9.t - (↑a_9.L.segs : Int) < (gl a_9.L.l i).gen) ∧ ∀ b_2 : Unit, True → ∃ l c : Nat, ∃ rows : Nat → Nat → Value, slAt (pupd a.H b 0 [Value.int IntKind.i64 (1 : Int), Value.int IntKind.i64 a.L.next, Value.int IntKind.i64 (0 : Int), Value.slice none 0 0, Value.slice none 0 0]) a_9.y.lv [CK.deep] l c rows ∧ 
 0 + l ≤ l ∧ 1 ≤ 1 ∧ (l + 1) * 8 ≤ 140737488355328 ∧ ∀ cap : Nat, l + 1 ≤ cap → cap ≤ lenMax → (l + 1 ≤ c → cap = c) → (cap ≠ 0 ∧ 0 + (l + 1) ≤ l + 1) ∧ ∀ (b_3 lo : Nat) (cs : List Value), pminusV (pupd a.H b 0 [Value.int IntKind.i64 (1 : Int), Value.int IntKind.i64 a.L.next, Value.int IntKind.i64 (0 : Int), Value.slice none 0 0, Value.slice none 0 0]) a_9.y.lv b_3 = none → cs.length = cap * 1 → (PRows cs 0 [CK.deep] (l + 1) fun (i j : Nat) => appRows rows 0 l (fun (i j : Nat) => flatRows 1 [Value.pointer (some { block := b, off := 0 })] (0 + i) j) (0 + i) j) → ∃ a_17 : DevM, 0 = 0 ∧ devQ (devWr a_6.d (secNo a_6.L a_6.g a_6.i) 64 (secB a_6.g a_6.i a_6.L.run)) a_17 ((a_17.n < 100000 ∧ a_17.calls < 1000000000000) ∧ ∀ b_4 : Unit, True → ∃ b_5 : BegB, (0 : Int) = 0 ∧ pupd (pminusV (pupd a.H b 0 [Value.int IntKind.i64 (1 : Int), Value.int IntKind.i64 a.L.next, Value.int IntKind.i64 (0 : Int), Value.slice none 0 0, Value.slice none 0 0]) a_9.y.lv) b_3 lo cs = b_5.H ∧ 0 = 0 ∧ logQ a.L (beginL a.L) (slv b_3 lo (l + 1) cap) b_5.y.lv (devQ (devFl a_17) (beginD a.L a.d) ((LogAt b_5.H b_5.y (beginL a.L) ∧ ∀ x : Nat, a.H x ≠ none → ¬x ∈ fpLog a.y → b_5.H x = a.H x ∧ ¬x ∈ fpLog b_5.y) ∧ True))))))))) (by kernel_rfl) (by
 rintro ⟨H, y, L, d⟩ ⟨hl, h1, h2, h3, h4, h5, h6, h8, h9, h10, h11⟩
 dsimp only at *
 obtain ⟨e1, _, ⟨ea, ec, e2⟩, e3, _⟩ := hl.lv_len
 have hgR : InR .i64 (newSeg L).gen := by simp only [InR]; omega
 refine fun _ => ⟨⟨ea, _, ec, e2, e3⟩, fun c1 => ?_, fun c1 => ?_⟩
 ·rw [e1] at c1
  have hn : 0 < L.l.length := by simpa using c1
  have hk : L.l.length - 1 < L.l.length := by omega
  obtain ⟨b, lo, o, c, cs, g1, g2, g3, g4⟩ := hl.at_ hk
  have hs := hl.seg _ hk
  obtain ⟨r1, _, _⟩ := hs.rng
  have hng : (newSeg L).gen = (gl L.l (L.l.length - 1)).gen + 1 := by
   have : L.l.getLast? = some (gl L.l (L.l.length - 1)) := by rw [gl_eq hk, List.getLast?_eq_getElem?, List.getElem?_eq_getElem hk]
   simp only [newSeg, this]
  simp only [e1]
  have e5 : ((L.l.length : Int) - 1).toNat = L.l.length - 1 := by omega
  refine ⟨by simp only [InR]; omega, _, _, _, _, g1, by omega, b, lo, o + (L.l.length - 1) * 1, cs, by rw [e5, Nat.add_assoc], g2, ⟨⟨_, g3, rfl⟩, trivial⟩, ?_⟩
  refine ⟨_, _, g4, ?_⟩
  refine ⟨_, _, rfl, ?_⟩
  refine ⟨_, 0, _, _, rfl, hs.cell, ?_⟩
  refine ⟨⟨⟨_, rfl, _, rfl, r1⟩, trivial⟩, fun _ => ?_⟩
  simp only [segC, List.getD_cons_zero, toI, ← hng]
  refine ⟨hgR, fun _ _ => ?_⟩
  show ∀ b, _
  intro b hb
  have hsg := newSeg_at (H := H) (b := b) h8 hgR
  have hl1 : LogAt (pupd H b 0 (segC (newSeg L) (.slice none 0 0) (.slice none 0 0))) y L := hl.frame fun x hx => pupd_ne fun e => hl.dom x hx (by rw [e]; exact hb)
  refine ⟨WriteA.mk (pupd H b 0 (segC (newSeg L) (.slice none 0 0) (.slice none 0 0))) (newL b) (newSeg L) 0 L y.lv d, ?_⟩
  (repeat' apply And.intro) <;> first | with_reducible (first | rfl | trivial | assumption) | omega | with_reducible (first | exact RowsEq.refl _ _ _ | exact Nat.le_refl _) | (dsimp only [List.length_cons, List.length_nil] <;> omega) | exact hsg | (simp only [newSeg, List.length_nil]; omega) | rfl | skip
  intro _ _
  refine ⟨fun e => (by cases e), fun _ => ?_⟩
  refine ⟨NoDelA.mk (pupd H b 0 (segC (newSeg L) (.slice none 0 0) (.slice none 0 0))) y L b [] (newSeg L).gen, ?_⟩
  (repeat' (first | apply And.intro | apply Exists.intro ([.int .i64 L.next, .int .i64 0, .slice none 0 0, .slice none 0 0] : List Value))) <;> first | with_reducible (first | rfl | trivial | assumption) | omega | with_reducible (first | exact RowsEq.refl _ _ _ | exact Nat.le_refl _) | (dsimp only [List.length_cons, List.length_nil] <;> omega) | exact hl1 | exact h11 | exact pupd_self .. | exact hgR.1 | exact hgR.2 | rfl | skip
  intro _ _
  obtain ⟨c0, hsl⟩ := hl1.lst
  refine ⟨_, c0, _, hsl, ?_⟩
  repeat (first | refine And.intro (by omega) ?_ | refine And.intro (by dsimp only; omega) ?_ | refine And.intro (by simp only [InR]; omega) ?_)
  intro cap hc1 hc2 hc3
  repeat (first | refine And.intro (by omega) ?_ | refine And.intro (by dsimp only; omega) ?_ | refine And.intro (by simp only [InR]; omega) ?_)
  intro b' lo cs' hb' hcs hp
  have hba := begin_at (lo := lo) hl h8 hgR hb hb' hcs hc1 hc2 hp (by
   intro i hi
   simp only [Nat.zero_add, appRows, ptrR]
   rw [gl_app (by rw [hl.len]; exact hi), hl.len]
   by_cases hin : i < L.l.length
   ·rw [if_pos hin, if_pos hin]
   ·rw [if_neg hin, if_neg hin, show i - L.l.length = 0 by omega]; rfl)
  refine ⟨devWr d (secNo L (newSeg L) 0) 64 (secB (newSeg L) 0 L.run), ?_⟩
  (repeat' apply And.intro) <;> first | with_reducible (first | rfl | trivial | assumption) | omega | with_reducible (first | exact RowsEq.refl _ _ _ | exact Nat.le_refl _) | (dsimp only [List.length_cons, List.length_nil] <;> omega) | (simp only [devWr]; omega) | skip
  intro _ _
  refine ⟨⟨pupd (pminusV (pupd H b 0 (segC (newSeg L) (.slice none 0 0) (.slice none 0 0))) y.lv) b' lo cs', ⟨slv b' lo (L.l.length + 1) cap, y.ys ++ [newL b]⟩⟩, ?_⟩
  (repeat' apply And.intro) <;> first | with_reducible (first | rfl | trivial | assumption) | omega | with_reducible (first | exact RowsEq.refl _ _ _ | exact Nat.le_refl _) | (dsimp only [List.length_cons, List.length_nil] <;> omega) | exact hba.1 | exact hba.2 | exact Nat.le_refl _ | exact RowsEq.refl _ _ _ | rfl
 ·rw [e1] at c1
  have hn : L.l.length = 0 := by have := of_decide_eq_false c1; omega
  have hng : (newSeg L).gen = 1 := by
   have : L.l = [] := List.eq_nil_of_length_eq_zero hn
   simp only [newSeg, this]; rfl
  rw [← hng]
  intro _
  intro b hb
  have hsg := newSeg_at (H := H) (b := b) h8 hgR
  have hl1 : LogAt (pupd H b 0 (segC (newSeg L) (.slice none 0 0) (.slice none 0 0))) y L := hl.frame fun x hx => pupd_ne fun e => hl.dom x hx (by rw [e]; exact hb)
  refine ⟨WriteA.mk (pupd H b 0 (segC (newSeg L) (.slice none 0 0) (.slice none 0 0))) (newL b) (newSeg L) 0 L y.lv d, ?_⟩
  (repeat' apply And.intro) <;> first | with_reducible (first | rfl | trivial | assumption) | omega | with_reducible (first | exact RowsEq.refl _ _ _ | exact Nat.le_refl _) | (dsimp only [List.length_cons, List.length_nil] <;> omega) | exact hsg | (simp only [newSeg, List.length_nil]; omega) | rfl | skip
  intro _ _
  refine ⟨fun e => (by cases e), fun _ => ?_⟩
  refine ⟨NoDelA.mk (pupd H b 0 (segC (newSeg L) (.slice none 0 0) (.slice none 0 0))) y L b [] (newSeg L).gen, ?_⟩
  (repeat' (first | apply And.intro | apply Exists.intro ([.int .i64 L.next, .int .i64 0, .slice none 0 0, .slice none 0 0] : List Value))) <;> first | with_reducible (first | rfl | trivial | assumption) | omega | with_reducible (first | exact RowsEq.refl _ _ _ | exact Nat.le_refl _) | (dsimp only [List.length_cons, List.length_nil] <;> omega) | exact hl1 | exact h11 | exact pupd_self .. | exact hgR.1 | exact hgR.2 | rfl | skip
  intro _ _
  obtain ⟨c0, hsl⟩ := hl1.lst
  refine ⟨_, c0, _, hsl, ?_⟩
  repeat (first | refine And.intro (by omega) ?_ | refine And.intro (by dsimp only; omega) ?_ | refine And.intro (by simp only [InR]; omega) ?_)
  intro cap hc1 hc2 hc3
  repeat (first | refine And.intro (by omega) ?_ | refine And.intro (by dsimp only; omega) ?_ | refine And.intro (by simp only [InR]; omega) ?_)
  intro b' lo cs' hb' hcs hp
  have hba := begin_at (lo := lo) hl h8 hgR hb hb' hcs hc1 hc2 hp (by
   intro i hi
   simp only [Nat.zero_add, appRows, ptrR]
   rw [gl_app (by rw [hl.len]; exact hi), hl.len]
   by_cases hin : i < L.l.length
   ·rw [if_pos hin, if_pos hin]
   ·rw [if_neg hin, if_neg hin, show i - L.l.length = 0 by omega]; rfl)
  refine ⟨devWr d (secNo L (newSeg L) 0) 64 (secB (newSeg L) 0 L.run), ?_⟩
  (repeat' apply And.intro) <;> first | with_reducible (first | rfl | trivial | assumption) | omega | with_reducible (first | exact RowsEq.refl _ _ _ | exact Nat.le_refl _) | (dsimp only [List.length_cons, List.length_nil] <;> omega) | (simp only [devWr]; omega) | skip
  intro _ _
  refine ⟨⟨pupd (pminusV (pupd H b 0 (segC (newSeg L) (.slice none 0 0) (.slice none 0 0))) y.lv) b' lo cs', ⟨slv b' lo (L.l.length + 1) cap, y.ys ++ [newL b]⟩⟩, ?_⟩
  (repeat' apply And.intro) <;> first | with_reducible (first | rfl | trivial | assumption) | omega | with_reducible (first | exact RowsEq.refl _ _ _ | exact Nat.le_refl _) | (dsimp only [List.length_cons, List.length_nil] <;> omega) | exact hba.1 | exact hba.2 | exact Nat.le_refl _ | exact RowsEq.refl _ _ _ | rfl)
theorem callBegin : CallsBy (Y Tryz.prog).G.X 79 cBegin := fn_ok okY (tab := [(82, cWrite), (53, cNoDel), (64, cDevFlush)]) ⟨callWrite, callNoDel, callDevFlush, trivial⟩ bodyBegin

end Go.Proofs.YtfobhkibkdmglaaGreat

namespace Go.Proofs.YtfobhkibkdmglaaGreat
open Go.Sx
set_option maxRecDepth 100000
set_option linter.unusedVariables false
set_option linter.unusedSimpArgs false

def lastG (L : LogM) : SegM := gl L.l (L.l.length - 1)
/-- does another segment begin -/
def needB (L : LogM) (n : Nat) : Bool := decide (L.l.length = 0) || decide (370 < (lastG L).buf.length + n)
def appL1 (L : LogM) (n : Nat) : LogM := if needB L n then beginL L else L
def appD1 (L : LogM) (d : DevM) (n : Nat) : DevM := if needB L n then beginD L d else d
/-- a record's head -/
def hdrB (n : Nat) (next : Int) : List Int := [uw .u8 (uw .u64 (n : Int) / 256), uw .u8 (uw .u64 (n : Int) / 1), uw .u8 (uw .u64 next / 1099511627776), uw .u8 (uw .u64 next / 4294967296), uw .u8 (uw .u64 next / 16777216), uw .u8 (uw .u64 next / 65536), uw .u8 (uw .u64 next / 256), uw .u8 (uw .u64 next / 1)]
def bufApp (g : SegM) (next : Int) (body : List Int) : List Int := g.buf ++ hdrB body.length next ++ body
def segW (g : SegM) (next : Int) (body : List Int) : SegM := { g with buf := bufApp g next body }
def segApp (g : SegM) (next : Int) (body : List Int) : SegM := { g with buf := bufApp g next body, recs := g.recs ++ [⟨next, body⟩] }
/-- which sectors are written -/
def condS (was now i : Nat) : Bool := decide (was < startS (i + 1)) && decide (startS i < now)
def writesTo (L : LogM) (g : SegM) (was : Nat) (d : DevM) : Nat → DevM
 | 0 => d
 | i + 1 => if condS was g.buf.length i then devWr (writesTo L g was d i) (secNo L g i) 64 (secB g i L.run) else writesTo L g was d i
def putLast (L : LogM) (g : SegM) : LogM := { L with l := L.l.set (L.l.length - 1) g }
def appL2 (L : LogM) (body : List Int) : LogM := { putLast L (segApp (lastG L) L.next body) with next := L.next + 1, fresh := false }
def appD2 (L : LogM) (d : DevM) (body : List Int) : DevM := writesTo L (segW (lastG L) L.next body) (lastG L).buf.length d 8
def appL (L : LogM) (body : List Int) : LogM := appL2 (appL1 L body.length) body
def appD (L : LogM) (d : DevM) (body : List Int) : DevM := if (appL1 L body.length).fresh then devFl (appD2 (appL1 L body.length) (appD1 L d body.length) body) else appD2 (appL1 L body.length) (appD1 L d body.length) body
/-! ### steps in the pool -/

/-- a slice's value becomes another one; all else stays -/
def Step (H : PH) (v : Value) (H' : PH) (v' : Value) : Prop := ∀ x, H x ≠ none → x ∉ fpV v → H' x = H x ∧ x ∉ fpV v'
theorem Step.trans {H H' H'' : PH} {v v' v'' : Value} (h : Step H v H' v') (k : Step H' v' H'' v'') : Step H v H'' v'' := fun x hx hv => by
 obtain ⟨h1, h2⟩ := h x hx hv
 obtain ⟨k1, k2⟩ := k x (by rw [h1]; exact hx) h2
 exact ⟨k1.trans h1, k2⟩
theorem app_step {H : PH} {v : Value} {b lo l c : Nat} {cs : List Value} (h : pminusV H v b = none) : Step H v (pupd (pminusV H v) b lo cs) (slv b lo l c) := fun x hx hv => by
 have hxb : x ≠ b := fun e => by rw [← e, pminusV_ne hv] at h; exact hx h
 exact ⟨by rw [pupd_ne hxb, pminusV_ne hv], by simp [fpV, slv, hxb]⟩
theorem new_step {H : PH} {b lo l c : Nat} {cs : List Value} (h : H b = none) : Step H (.slice none 0 0) (pupd H b lo cs) (slv b lo l c) := app_step (H := H) (v := .slice none 0 0) h
theorem slAt_new {H : PH} {b lo l c : Nat} {ks : List CK} {cs : List Value} {rows rows' : Nat → Nat → Value} (hl : cs.length = c * ks.length) (h1 : l ≤ c) (h2 : c ≤ lenMax) (hp : PRows cs 0 ks l rows) (he : ∀ i, i < l → ∀ j, j < ks.length → rows i j = rows' i j) : slAt (pupd H b lo cs) (slv b lo l c) ks l c rows' :=
 .inr ⟨b, lo, 0, cs, by rw [Nat.add_zero], ⟨h1, h2⟩, pupd_self .., by omega, ⟨fun i hi j k hj => by
  have := hp.at_ i hi j k hj
  rw [he i hi j (List.getElem?_eq_some_iff.1 hj).1] at this
  exact this⟩⟩
theorem fpV_nodup (v : Value) : (fpV v).Nodup := by
 unfold fpV
 split <;> simp
/-- a segment in memory, its blocks all different -/
structure SegNd (H : PH) (y : SegL) (g : SegM) : Prop where
 at_ : SegAt H y g
 nd : (fpSeg y).Nodup
def Fr (H : PH) (y : SegL) (H' : PH) (y' : SegL) : Prop := ∀ x, H x ≠ none → x ∉ fpSeg y → H' x = H x ∧ x ∉ fpSeg y'
theorem Fr.trans {H H' H'' : PH} {y y' y'' : SegL} (h : Fr H y H' y') (k : Fr H' y' H'' y'') : Fr H y H'' y'' := fun x hx hv => by
 obtain ⟨h1, h2⟩ := h x hx hv
 obtain ⟨k1, k2⟩ := k x (by rw [h1]; exact hx) h2
 exact ⟨k1.trans h1, k2⟩
theorem nd_seg {y : SegL} : (fpSeg y).Nodup ↔ (y.b ∉ fpV y.bv ∧ y.b ∉ fpV y.rv ∧ y.b ∉ y.vs.flatMap fpV) ∧ (∀ x ∈ fpV y.bv, x ∉ fpV y.rv ∧ x ∉ y.vs.flatMap fpV) ∧ (∀ x ∈ fpV y.rv, x ∉ y.vs.flatMap fpV) ∧ (y.vs.flatMap fpV).Nodup := by
 unfold fpSeg
 rw [List.nodup_cons, List.nodup_append, List.nodup_append]
 have a1 := fpV_nodup y.bv
 have a2 := fpV_nodup y.rv
 simp only [List.mem_append, not_or, a1, a2, true_and]
 constructor
 ·rintro ⟨h1, ⟨h3, h4⟩, h2⟩
  exact ⟨h1, fun x hx => ⟨fun e => h2 x hx x (.inl e) rfl, fun e => h2 x hx x (.inr e) rfl⟩, fun x hx e => h4 x hx x e rfl, h3⟩
 ·rintro ⟨h1, h2, h3, h4⟩
  refine ⟨h1, ⟨h4, fun a ha b hb e => h3 a ha (by rw [e]; exact hb)⟩, fun a ha b hb e => ?_⟩
  subst e
  rcases hb with hb | hb
  ·exact (h2 a ha).1 hb
  ·exact (h2 a ha).2 hb
theorem seg_setbuf {X0 X2 : PH} {y : SegL} {g : SegM} {v2 : Value} {buf : List Int} (h : SegNd X0 y g) (hs : Step X0 y.bv X2 v2) (hb : BytesAt X2 v2 buf) :
 X2 y.b = some (0, segC g y.bv y.rv) ∧ SegNd (pupd X2 y.b 0 (segC { g with buf := buf } v2 y.rv)) { y with bv := v2 } { g with buf := buf } ∧ Fr X0 y (pupd X2 y.b 0 (segC { g with buf := buf } v2 y.rv)) { y with bv := v2 } := by
 have hd := h.at_.dom
 obtain ⟨⟨n1, n2, n3⟩, n4, n5, n6⟩ := nd_seg.1 h.nd
 have s1 : ∀ x ∈ fpSeg y, x ∉ fpV y.bv → X2 x = X0 x ∧ x ∉ fpV v2 := fun x hx hv => hs x (hd x hx) hv
 have hbm : y.b ∈ fpSeg y := List.mem_cons_self
 obtain ⟨c1, c2⟩ := s1 y.b hbm n1
 have hrv : ∀ x ∈ fpV y.rv, x ∈ fpSeg y ∧ x ∉ fpV y.bv := fun x hx => ⟨by simp [fpSeg, hx], fun e => (n4 x e).1 hx⟩
 have hvs : ∀ x ∈ y.vs.flatMap fpV, x ∈ fpSeg y ∧ x ∉ fpV y.bv := fun x hx => ⟨List.mem_cons_of_mem _ (List.mem_append_right _ (List.mem_append_right _ hx)), fun e => (n4 x e).2 hx⟩
 have same : ∀ x, x ≠ y.b → (x ∈ fpV y.rv ∨ x ∈ y.vs.flatMap fpV) → pupd X2 y.b 0 (segC { g with buf := buf } v2 y.rv) x = X0 x := fun x hx h => by
  rw [pupd_ne hx]
  rcases h with h | h
  ·exact (s1 x (hrv x h).1 (hrv x h).2).1
  ·exact (s1 x (hvs x h).1 (hvs x h).2).1
 refine ⟨c1.trans h.at_.cell, ⟨⟨pupd_self .., h.at_.rng, hb.frame fun x hx => pupd_ne fun e => c2 (by rw [← e]; exact hx), ?_, h.at_.len, fun i hi => (h.at_.body i hi).frame fun x hx => ?_⟩, ?_⟩, ?_⟩
 ·obtain ⟨c, hr⟩ := h.at_.recs
  exact ⟨c, slAt_frame hr fun x hx => same x (fun e => n2 (by rw [← e]; exact hx)) (.inl hx)⟩
 ·have hm : x ∈ y.vs.flatMap fpV := by
   refine List.mem_flatMap.2 ⟨_, ?_, hx⟩
   have hl := h.at_.len
   have hi' : i < g.recs.length := hi
   rw [List.getD_eq_getElem?_getD, List.getElem?_eq_getElem (by omega)]
   exact List.getElem_mem _
  exact same x (fun e => n3 (by rw [← e]; exact hm)) (.inr hm)
 ·refine nd_seg.2 ⟨⟨c2, n2, n3⟩, fun x hx => ⟨fun e => ?_, fun e => ?_⟩, n5, n6⟩
  ·exact (s1 x (hrv x e).1 (hrv x e).2).2 hx
  ·exact (s1 x (hvs x e).1 (hvs x e).2).2 hx
 ·intro x hx hn
  simp only [fpSeg, List.mem_cons, List.mem_append, not_or] at hn ⊢
  obtain ⟨a1, a2⟩ := hs x hx hn.2.1
  exact ⟨by rw [pupd_ne hn.1, a1], hn.1, a2, hn.2.2⟩
theorem seg_setrecs {X3 X4 X5 : PH} {y : SegL} {g : SegM} {v3 v4 : Value} {r : RecM} (h : SegNd X3 y g) (hs : Step X3 (.slice none 0 0) X4 v3) (hb : BytesAt X4 v3 r.body) (hs2 : Step X4 y.rv X5 v4)
 (hd4 : ∀ x ∈ fpV v3, X4 x ≠ none) (hr : ∃ c, slAt X5 v4 ksRec (g.recs.length + 1) c (recR (g.recs ++ [r]) (y.vs ++ [v3]))) :
 X4 y.b = some (0, segC g y.bv y.rv) ∧ X5 y.b = some (0, segC g y.bv y.rv) ∧ SegNd (pupd X5 y.b 0 (segC { g with recs := g.recs ++ [r] } y.bv v4)) ⟨y.b, y.bv, v4, y.vs ++ [v3]⟩ { g with recs := g.recs ++ [r] } ∧
 Fr X3 y (pupd X5 y.b 0 (segC { g with recs := g.recs ++ [r] } y.bv v4)) ⟨y.b, y.bv, v4, y.vs ++ [v3]⟩ := by
 have hd := h.at_.dom
 obtain ⟨⟨n1, n2, n3⟩, n4, n5, n6⟩ := nd_seg.1 h.nd
 have s1 : ∀ x, X3 x ≠ none → X4 x = X3 x ∧ x ∉ fpV v3 := fun x hx => hs x hx (by simp [fpV])
 have s2 : ∀ x, X3 x ≠ none → x ∉ fpV y.rv → X5 x = X3 x ∧ x ∉ fpV v3 ∧ x ∉ fpV v4 := fun x hx hv => by
  obtain ⟨a1, a2⟩ := s1 x hx
  obtain ⟨b1, b2⟩ := hs2 x (by rw [a1]; exact hx) hv
  exact ⟨b1.trans a1, a2, b2⟩
 have hbm : y.b ∈ fpSeg y := List.mem_cons_self
 have hbv : ∀ x ∈ fpV y.bv, x ∈ fpSeg y ∧ x ∉ fpV y.rv := fun x hx => ⟨by simp [fpSeg, hx], (n4 x hx).1⟩
 have hvs : ∀ x ∈ y.vs.flatMap fpV, x ∈ fpSeg y ∧ x ∉ fpV y.rv := fun x hx => ⟨List.mem_cons_of_mem _ (List.mem_append_right _ (List.mem_append_right _ hx)), fun e => n5 x e hx⟩
 have hrv : ∀ x ∈ fpV y.rv, x ∈ fpSeg y := fun x hx => by simp [fpSeg, hx]
 obtain ⟨c1, c2, c3⟩ := s2 y.b (hd _ hbm) n2
 have hv3rv : ∀ x ∈ fpV v3, x ∉ fpV y.rv := fun x hx e => (s1 x (hd x (hrv x e))).2 hx
 have hv3 : ∀ x ∈ fpV v3, X5 x = X4 x ∧ x ∉ fpV v4 := fun x hx => hs2 x (hd4 x hx) (hv3rv x hx)
 have same : ∀ x ∈ fpSeg y, x ≠ y.b → x ∉ fpV y.rv → pupd X5 y.b 0 (segC { g with recs := g.recs ++ [r] } y.bv v4) x = X3 x := fun x hx h1 h2 => by
  rw [pupd_ne h1]; exact (s2 x (hd x hx) h2).1
 have hl := h.at_.len
 refine ⟨(s1 _ (hd _ hbm)).1.trans h.at_.cell, c1.trans h.at_.cell, ⟨⟨pupd_self .., h.at_.rng, h.at_.buf.frame fun x hx => same x (hbv x hx).1 (fun e => n1 (by rw [← e]; exact hx)) (hbv x hx).2, ?_, ?_, ?_⟩, ?_⟩, ?_⟩
 ·obtain ⟨c, hr⟩ := hr
  refine ⟨c, ?_⟩
  simp only [List.length_append, List.length_singleton]
  exact slAt_frame hr fun x hx => pupd_ne fun e => c3 (by rw [← e]; exact hx)
 ·simp [hl]
 ·intro i hi
  simp only [List.length_append, List.length_singleton] at hi
  show BytesAt _ ((y.vs ++ [v3]).getD i undef) (gl (g.recs ++ [r]) i).body
  rw [gl_app hi]
  by_cases hin : i < g.recs.length
  ·rw [if_pos hin]
   have e1 : (y.vs ++ [v3]).getD i undef = y.vs.getD i undef := by
    rw [List.getD_eq_getElem?_getD, List.getElem?_append_left (by omega), List.getD_eq_getElem?_getD]
   rw [e1]
   refine (h.at_.body i hin).frame fun x hx => ?_
   have hm : x ∈ y.vs.flatMap fpV := by
    refine List.mem_flatMap.2 ⟨_, ?_, hx⟩
    rw [List.getD_eq_getElem?_getD, List.getElem?_eq_getElem (by omega)]
    exact List.getElem_mem _
   exact same x (hvs x hm).1 (fun e => n3 (by rw [← e]; exact hm)) (hvs x hm).2
  ·rw [if_neg hin]
   have e1 : (y.vs ++ [v3]).getD i undef = v3 := by
    rw [List.getD_eq_getElem?_getD, List.getElem?_append_right (by omega), show i - y.vs.length = 0 by omega]; rfl
   rw [e1]
   refine hb.frame fun x hx => ?_
   rw [pupd_ne (fun e => c2 (by rw [← e]; exact hx)), (hv3 x hx).1]
 ·refine nd_seg.2 ⟨⟨n1, c3, ?_⟩, fun x hx => ⟨?_, ?_⟩, fun x hx => ?_, ?_⟩
  ·simp only [List.flatMap_append, List.mem_append, not_or]
   exact ⟨n3, by simpa using c2⟩
  ·exact (s2 x (hd x (hbv x hx).1) (hbv x hx).2).2.2
  ·simp only [List.flatMap_append, List.mem_append, not_or]
   exact ⟨(n4 x hx).2, by simpa using (s2 x (hd x (hbv x hx).1) (hbv x hx).2).2.1⟩
  ·simp only [List.flatMap_append, List.mem_append, not_or]
   exact ⟨fun e => (s2 x (hd x (hvs x e).1) (hvs x e).2).2.2 hx, fun e => (hv3 x (by simpa using e)).2 hx⟩
  ·simp only [List.flatMap_append, List.nodup_append]
   refine ⟨n6, by simpa using fpV_nodup v3, fun a ha b hb e => ?_⟩
   subst e
   exact (s1 a (hd a (hvs a ha).1)).2 (by simpa using hb)
 ·intro x hx hn
  simp only [fpSeg, List.mem_cons, List.mem_append, not_or] at hn
  obtain ⟨a1, a2, a3⟩ := s2 x hx hn.2.2.1
  refine ⟨by rw [pupd_ne hn.1, a1], ?_⟩
  simp only [fpSeg, List.mem_cons, List.mem_append, not_or, List.flatMap_append]
  exact ⟨hn.1, hn.2.1, a3, hn.2.2.2, by simpa using a2⟩
theorem sub_flatMap {α β : Type} {f : α → List β} : ∀ {l : List α} {a : α}, a ∈ l → (f a).Sublist (l.flatMap f)
 | [], _, h => by cases h
 | x :: r, a, h => by
  rw [List.flatMap_cons]
  rcases List.mem_cons.1 h with rfl | h
  ·exact List.sublist_append_left _ _
  ·exact (sub_flatMap h).trans (List.sublist_append_right _ _)
theorem LogAt.segNd {H : PH} {y : LogL} {L : LogM} (h : LogAt H y L) {k : Nat} (hk : k < L.l.length) : SegNd H (gl y.ys k) (gl L.l k) := by
 refine ⟨h.seg k hk, ?_⟩
 have hk' : k < y.ys.length := by rw [h.len]; exact hk
 refine (List.nodup_append.1 h.nd).2.1.sublist (sub_flatMap ?_)
 rw [gl_eq hk']; exact List.getElem_mem _
theorem gl_set {α : Type} [Inhabited α] {l : List α} {k i : Nat} {x : α} (hi : i < l.length) : gl (l.set k x) i = if i = k then x else gl l i := by
 unfold gl
 rw [List.getD_eq_getElem?_getD, List.getElem?_set]
 by_cases h : i = k
 ·subst h; simp [hi]
 ·rw [if_neg (fun e => h e.symm), if_neg h, List.getD_eq_getElem?_getD]
/-- one segment of a log becomes another one -/
theorem LogAt.set {H H' : PH} {y : LogL} {L : LogM} {k : Nat} {sl : SegL} {g : SegM} (h : LogAt H y L) (hk : k < L.l.length) (hb : sl.b = (gl y.ys k).b) (hg : SegNd H' sl g) (hf : Fr H (gl y.ys k) H' sl) :
 LogAt H' ⟨y.lv, y.ys.set k sl⟩ { L with l := L.l.set k g } ∧ ∀ x, H x ≠ none → x ∉ fpLog y → H' x = H x ∧ x ∉ fpLog ⟨y.lv, y.ys.set k sl⟩ := by
 have hk' : k < y.ys.length := by rw [h.len]; exact hk
 have hd := h.dom
 obtain ⟨A, B, e1, e2, hA⟩ : ∃ A B, y.ys = A ++ gl y.ys k :: B ∧ y.ys.set k sl = A ++ sl :: B ∧ A.length = k := by
  refine ⟨y.ys.take k, y.ys.drop (k + 1), ?_, ?_, by simp; omega⟩
  ·rw [gl_eq hk']; simp
  ·rw [List.set_eq_take_append_cons_drop, if_pos hk']
 obtain ⟨s, hs⟩ : ∃ s, s = gl y.ys k := ⟨_, rfl⟩
 rw [← hs] at e1 hb hf
 have F1 : y.ys.flatMap fpSeg = A.flatMap fpSeg ++ (fpSeg s ++ B.flatMap fpSeg) := by rw [e1]; simp
 have F2 : (y.ys.set k sl).flatMap fpSeg = A.flatMap fpSeg ++ (fpSeg sl ++ B.flatMap fpSeg) := by rw [e2]; simp
 have hnd := h.nd
 rw [F1] at hnd
 simp only [List.nodup_append, List.mem_append] at hnd
 obtain ⟨n1, ⟨n2, ⟨n3, n4, n5⟩, n6⟩, n7⟩ := hnd
 have oV : ∀ x ∈ fpV y.lv, H' x = H x ∧ x ∉ fpSeg sl := fun x hx => hf x (hd x (List.mem_append_left _ hx)) fun e => n7 x hx x (.inr (.inl e)) rfl
 have oA : ∀ x ∈ A.flatMap fpSeg, H' x = H x ∧ x ∉ fpSeg sl := fun x hx => hf x (hd x (List.mem_append_right _ (by rw [F1]; exact List.mem_append_left _ hx))) fun e => n6 x hx x (.inl e) rfl
 have oB : ∀ x ∈ B.flatMap fpSeg, H' x = H x ∧ x ∉ fpSeg sl := fun x hx => hf x (hd x (List.mem_append_right _ (by rw [F1]; exact List.mem_append_right _ (List.mem_append_right _ hx)))) fun e => n5 x e x hx rfl
 refine ⟨⟨?_, by simp [h.len], ?_, ?_⟩, ?_⟩
 ·obtain ⟨c, hl⟩ := h.lst
  refine ⟨c, ?_⟩
  simp only [List.length_set]
  have hl2 := slAt_frame (H' := H') hl fun x hx => (oV x hx).1
  have he : ∀ i, i < L.l.length → ptrR y.ys i 0 = ptrR (y.ys.set k sl) i 0 := fun i hi => by
   simp only [ptrR]
   rw [gl_set (by rw [h.len]; exact hi)]
   by_cases hik : i = k
   ·subst hik; rw [if_pos rfl, hb, hs]
   ·rw [if_neg hik]
  rcases hl2 with hz | ⟨b, lo, o, cs, g1, g2, g3, g4, g5⟩
  ·exact .inl hz
  ·refine .inr ⟨b, lo, o, cs, g1, g2, g3, g4, ⟨fun i hi j q hj => ?_⟩⟩
   have hj0 : j = 0 := by have := (List.getElem?_eq_some_iff.1 hj).1; simpa using this
   subst hj0
   have := g5.at_ i hi 0 q hj
   rw [he i hi] at this
   exact this
 ·intro i hi
  simp only [List.length_set] at hi
  show SegAt H' (gl (y.ys.set k sl) i) (gl (L.l.set k g) i)
  rw [gl_set (by rw [h.len]; exact hi), gl_set hi]
  by_cases hik : i = k
  ·rw [if_pos hik, if_pos hik]; exact hg.at_
  ·rw [if_neg hik, if_neg hik]
   refine (h.seg i hi).frame fun x hx => ?_
   have hm : gl y.ys i ∈ A ∨ gl y.ys i ∈ B := by
    have hi' : i < y.ys.length := by rw [h.len]; exact hi
    have e3 : gl y.ys i = gl (A ++ s :: B) i := by rw [← e1]
    rcases Nat.lt_or_ge i k with hlt | hge
    ·left; rw [e3, gl_append_left (by omega), gl_eq (by omega)]; exact List.getElem_mem _
    ·right
     have hlen : y.ys.length = A.length + (B.length + 1) := by rw [e1]; simp
     rw [e3, show i = A.length + ((i - k - 1) + 1) by omega, gl_append_right]
     have : gl (s :: B) (i - k - 1 + 1) = gl B (i - k - 1) := by simp [gl]
     rw [this, gl_eq (by omega)]; exact List.getElem_mem _
   rcases hm with hm | hm
   ·exact (oA x (List.mem_flatMap.2 ⟨_, hm, hx⟩)).1
   ·exact (oB x (List.mem_flatMap.2 ⟨_, hm, hx⟩)).1
 ·show (fpV y.lv ++ (y.ys.set k sl).flatMap fpSeg).Nodup
  rw [F2]
  simp only [List.nodup_append, List.mem_append]
  refine ⟨n1, ⟨n2, ⟨hg.nd, n4, fun a ha b hb e => ?_⟩, fun a ha b hb e => ?_⟩, fun a ha b hb e => ?_⟩
  ·subst e; exact (oB a hb).2 ha
  ·subst e
   rcases hb with hb | hb
   ·exact (oA a ha).2 hb
   ·exact n6 a ha a (.inr hb) rfl
  ·subst e
   rcases hb with hb | hb | hb
   ·exact n7 a ha a (.inl hb) rfl
   ·exact (oV a ha).2 hb
   ·exact n7 a ha a (.inr (.inr hb)) rfl
 ·intro x hx hn
  have hn1 : x ∉ fpV y.lv := fun e => hn (List.mem_append_left _ e)
  have hn2 : x ∉ A.flatMap fpSeg ∧ x ∉ fpSeg s ∧ x ∉ B.flatMap fpSeg := by
   have : x ∉ y.ys.flatMap fpSeg := fun e => hn (List.mem_append_right _ e)
   rw [F1] at this
   simpa only [List.mem_append, not_or] using this
  obtain ⟨a1, a2⟩ := hf x hx hn2.2.1
  refine ⟨a1, ?_⟩
  show x ∉ fpV y.lv ++ (y.ys.set k sl).flatMap fpSeg
  rw [F2]
  simp only [List.mem_append, not_or]
  exact ⟨hn1, hn2.1, a2, hn2.2.2⟩
def plTag (s : S) : Nat := match findPl s.hp with | some t => t | none => 0
def S.log (s : S) (slot : Nat) (L : LogM) (lv : Value) (d : DevM) (H : PH) : S :=
 (fun (q : S) => (q.put (q.hp.del (plTag q))).new (.pool H))
  (((s.at_ (s.tg slot) (logObj (s.in_ (s.tg slot) 0) L lv)).at_ (s.in_ (s.tg slot) 0) (.obj 81 [.slc (s.in_ (s.in_ (s.tg slot) 0) 0) 0 129 d.n d.n, .int .i64 d.calls])).at_ (s.in_ (s.in_ (s.tg slot) 0) 0) (.arr 93 ksSec d.n (rowsD d)))
def S.dev (s : S) (td : Nat) (d : DevM) : S := (s.at_ td (.obj 81 [.slc (s.in_ td 0) 0 129 d.n d.n, .int .i64 d.calls])).at_ (s.in_ td 0) (.arr 93 ksSec d.n (rowsD d))
structure LogOk (L : LogM) (d : DevM) : Prop where
 few : L.l.length < 800
 segs : 3 ≤ L.segs ∧ L.segs ≤ 200
 room : L.from_ + L.segs * 8 ≤ d.n
 size : d.n < 100000
 calls : d.calls < 900000000000
 next : 0 ≤ L.next ∧ L.next < 100000000000
 gen : ∀ i, i < L.l.length → 1 ≤ (gl L.l i).gen ∧ (gl L.l i).gen < 100000000000
 buf : ∀ i, i < L.l.length → (gl L.l i).buf.length ≤ 378
 recs : ∀ i, i < L.l.length → (gl L.l i).recs.length * 9 ≤ (gl L.l i).buf.length
structure Log1 (L L1 : LogM) (d d1 : DevM) (n : Nat) : Prop where
 pos : 1 ≤ L1.l.length
 few : L1.l.length ≤ 801
 from_ : L1.from_ = L.from_
 segs : L1.segs = L.segs
 next : L1.next = L.next
 run : L1.run = L.run
 fresh : L1.fresh = L.fresh
 dn : d1.n = d.n
 calls : d1.calls ≤ d.calls + 2
 gen : ∀ i, i < L1.l.length → 1 ≤ (gl L1.l i).gen ∧ (gl L1.l i).gen ≤ 100000000000
 buf : ∀ i, i < L1.l.length → (gl L1.l i).buf.length ≤ 378
 recs : ∀ i, i < L1.l.length → (gl L1.l i).recs.length * 9 ≤ (gl L1.l i).buf.length
 last : (lastG L1).buf.length + n ≤ 370
theorem newSeg_gen {L : LogM} {d : DevM} (ok : LogOk L d) : 1 ≤ (newSeg L).gen ∧ (newSeg L).gen ≤ 100000000000 := by
 by_cases h : L.l.length = 0
 ·have : L.l = [] := List.eq_nil_of_length_eq_zero h
  simp only [newSeg, this, List.getLast?_nil]; omega
 ·have hk : L.l.length - 1 < L.l.length := by omega
  have e : L.l.getLast? = some (gl L.l (L.l.length - 1)) := by rw [gl_eq hk, List.getLast?_eq_getElem?, List.getElem?_eq_getElem hk]
  have := ok.gen _ hk
  simp only [newSeg, e]; omega
theorem appL1_ok {L : LogM} {d : DevM} {n : Nat} (ok : LogOk L d) (hn : n ≤ 300) : Log1 L (appL1 L n) d (appD1 L d n) n := by
 have hf := ok.few
 cases hB : needB L n with
 | false =>
  rw [show appL1 L n = L from if_neg (by rw [hB]; decide), show appD1 L d n = d from if_neg (by rw [hB]; decide)]
  simp only [needB, Bool.or_eq_false_iff, decide_eq_false_iff_not] at hB
  exact ⟨by omega, by omega, rfl, rfl, rfl, rfl, rfl, rfl, by omega, fun i hi => by have := ok.gen i hi; omega, ok.buf, ok.recs, by omega⟩
 | true =>
  rw [show appL1 L n = beginL L from if_pos hB, show appD1 L d n = beginD L d from if_pos hB]
  have hln : (beginL L).l.length = L.l.length + 1 := by simp [beginL]
  have hg := newSeg_gen ok
  have hgl : ∀ i, i < L.l.length + 1 → gl (beginL L).l i = if i < L.l.length then gl L.l i else newSeg L := fun i hi => by simp only [beginL]; exact gl_app hi
  refine ⟨by omega, by omega, rfl, rfl, rfl, rfl, rfl, rfl, by simp [beginD, devFl, devWr], fun i hi => ?_, fun i hi => ?_, fun i hi => ?_, ?_⟩
  ·rw [hgl i (by omega)]; split
   ·have := ok.gen i (by assumption); omega
   ·exact hg
  ·rw [hgl i (by omega)]; split
   ·exact ok.buf i (by assumption)
   ·simp [newSeg]
  ·rw [hgl i (by omega)]; split
   ·exact ok.recs i (by assumption)
   ·simp [newSeg]
  ·have : lastG (beginL L) = newSeg L := by
    show gl (beginL L).l ((beginL L).l.length - 1) = _
    rw [hgl _ (by omega), if_neg (by omega)]
   rw [this]; simp [newSeg]; omega
theorem LogAt.congr {H : PH} {y : LogL} {L L' : LogM} (h : LogAt H y L) (e : L'.l = L.l) : LogAt H y L' := ⟨by rw [e]; exact h.lst, by rw [e]; exact h.len, by rw [e]; exact h.seg, h.nd⟩
theorem writesTo_n (L : LogM) (g : SegM) (was : Nat) (d : DevM) : ∀ i, (writesTo L g was d i).n = d.n ∧ (writesTo L g was d i).calls ≤ d.calls + i
 | 0 => ⟨rfl, Nat.le_refl _⟩
 | i + 1 => by
  have := writesTo_n L g was d i
  unfold writesTo
  split
  ·simp only [devWr]; omega
  ·omega
structure AppA where
 H : PH
 y : LogL
 L : LogM
 d : DevM
 body : List Int
 cap : Nat
noncomputable def cAppend : Con where
 α := AppA
 β := BegB
 m := 5
 m' := 6
 pre := fun a => LogAt a.H a.y a.L ∧ LogOk a.L a.d ∧ 1 ≤ a.body.length ∧ a.body.length ≤ 300 ∧ (needB a.L a.body.length = true → ∀ i, i < a.L.l.length → (newSeg a.L).gen - a.L.segs < (gl a.L.l i).gen)
 args := fun a => [.a (.ptr 0 0 0 0), .a (.slc 4 0 1 a.body.length a.cap)]
 hp := fun a => [(0, logObj 1 a.L a.y.lv)] ++ devHp 1 2 a.d ++ [(3, .pool a.H)]
 ro := fun a => byteHp 4 a.body
 post := fun a b => LogAt b.H b.y (appL a.L a.body) ∧ ∀ x, a.H x ≠ none → x ∉ fpLog a.y → b.H x = a.H x ∧ x ∉ fpLog b.y
 res := fun a _ => .tup [.a (.int .i64 a.L.next), .a (.int .i64 0)]
 hp' := fun a b => [(0, logObj 1 (appL a.L a.body) b.y.lv)] ++ devHp 1 2 (appD a.L a.d a.body) ++ [(5, .pool b.H)]
def iAppW (a : AppA) : An := .flat 17 Nat (fun s i => S.dev (s.int 95 i) (s.in_ (s.tg 0) 0) (writesTo (appL1 a.L a.body.length) (segW (lastG (appL1 a.L a.body.length)) a.L.next a.body) (lastG (appL1 a.L a.body.length)).buf.length (appD1 a.L a.d a.body.length) i)) (fun _ i => i ≤ 8) (fun _ i => 8 - i)
def iAppC (a : AppA) : An := .mk 10 (PH × LogL) (fun s x => S.log s 0 (appL1 a.L a.body.length) x.2.lv (appD1 a.L a.d a.body.length) x.1) (fun _ x => LogAt x.1 x.2 (appL1 a.L a.body.length) ∧ ∀ z, a.H z ≠ none → z ∉ fpLog a.y → x.1 z = a.H z ∧ z ∉ fpLog x.2) (fun _ _ => 0) fun _ => .mk 1000 [iAppW a] []
set_option maxHeartbeats 4000000 in
theorem bodyAppend : fnBody (Y Tryz.prog) [(79, cBegin), (82, cWrite), (64, cDevFlush)] 59 cAppend fun a => [(59, [iAppW a], [iAppC a])] := fnBody.of (p :=
 ∀ a : AppA, LogAt a.H a.y a.L ∧ LogOk a.L a.d ∧ 1 ≤ a.body.length ∧ a.body.length ≤ 300 ∧ (needB a.L a.body.length = true → ∀ i : Nat, i < a.L.l.length → (newSeg a.L).gen - (↑a.L.segs : Int) < (gl a.L.l i).gen) → (decide ((↑a.body.length : Int) < 1) = true → ∃ b : BegB, (0 : Int) = a.L.next ∧ (1 : Int) = 0 ∧ a.H = b.H ∧ 0 = 0 ∧ logQ a.L (appL a.L a.body) a.y.lv b.y.lv (devQ a.d (appD a.L a.d a.body) ((LogAt b.H b.y (appL a.L a.body) ∧ ∀ x : Nat, a.H x ≠ none → ¬x ∈ fpLog a.y → b.H x = a.H x ∧ ¬x ∈ fpLog b.y) ∧ True))) ∧ (decide ((↑a.body.length : Int) < 1) = false → (decide (300 < (↑a.body.length : Int)) = true → ∃ b : BegB, (0 : Int) = a.L.next ∧ (1 : Int) = 0 ∧ a.H = b.H ∧ 0 = 0 ∧ logQ a.L (appL a.L a.body) a.y.lv b.y.lv (devQ a.d (appD a.L a.d a.body) ((LogAt b.H b.y (appL a.L a.body) ∧ ∀ x : Nat, a.H x ≠ none → ¬x ∈ fpLog a.y → b.H x = a.H x ∧ ¬x ∈ fpLog b.y) ∧ True))) ∧ (decide (300 < (↑a.body.length : Int)) = false → ((∃ a_4 : Option Go.Addr, ∃ l c : Nat, a.y.lv = Value.slice a_4 l c ∧ l ≤ lenMax) ∧ (((↑(slLen a.y.lv) : Int) == 0) = true → ∃ a_5 : BegA, 0 = 0 ∧ 0 = 0 ∧ logQ a.L a_5.L a.y.lv a_5.y.lv (devQ a.d a_5.d (a.H = a_5.H ∧ (LogAt a_5.H a_5.y a_5.L ∧ a_5.L.l.length < 900 ∧ 3 ≤ a_5.L.segs ∧ a_5.L.segs ≤ 200 ∧ a_5.L.from_ + a_5.L.segs * 8 ≤ a_5.d.n ∧ a_5.d.n < 100000 ∧ a_5.d.calls < 999999999999 ∧ InR .i64 a_5.L.next ∧ (newSeg a_5.L).gen < (1000000000000 : Int) ∧ (1 : Int) ≤ (newSeg a_5.L).gen ∧ ∀ i : Nat, i < a_5.L.l.length → (newSeg a_5.L).gen - (↑a_5.L.segs : Int) < (gl a_5.L.l i).gen) ∧ 
 ∀ b : BegB, (LogAt b.H b.y (beginL a_5.L) ∧ ∀ x : Nat, a_5.H x ≠ none → ¬x ∈ fpLog a_5.y → b.H x = a_5.H x ∧ ¬x ∈ fpLog b.y) → (false = true → ∃ b_1 : BegB, (0 : Int) = a.L.next ∧ (0 : Int) = 0 ∧ b.H = b_1.H ∧ 0 = 0 ∧ logQ (beginL a_5.L) (appL a.L a.body) b.y.lv b_1.y.lv (devQ (beginD a_5.L a_5.d) (appD a.L a.d a.body) ((LogAt b_1.H b_1.y (appL a.L a.body) ∧ ∀ x : Nat, a.H x ≠ none → ¬x ∈ fpLog a.y → b_1.H x = a.H x ∧ ¬x ∈ fpLog b_1.y) ∧ True))) ∧ (false = false → ∃ a_8 : PH × LogL, decide (300 < (↑a.body.length : Int)) = decide (300 < (↑a.body.length : Int)) ∧ false = false ∧ (0 : Int) = 0 ∧ (0 : Int) = 0 ∧ 0 = 0 ∧ (0 = 0 ∧ a.body.length = a.body.length ∧ a.cap = a.cap) ∧ b.H = a_8.fst ∧ 0 = 0 ∧ logQ (beginL a_5.L) (appL1 a.L a.body.length) b.y.lv a_8.snd.lv (devQ (beginD a_5.L a_5.d) (appD1 a.L a.d a.body.length) ((a.body.length ≤ a.body.length ∧ RowsEq a.body.length 1 (encRows encB a.body) (encRows encB a.body)) ∧ (LogAt a_8.fst a_8.snd (appL1 a.L a.body.length) ∧ ∀ z : Nat, a.H z ≠ none → ¬z ∈ fpLog a.y → a_8.fst z = a.H z ∧ ¬z ∈ fpLog a_8.snd) ∧ True)))))) ∧ (((↑(slLen a.y.lv) : Int) == 0) = false → InR .i64 ((↑(slLen a.y.lv) : Int) - 1) ∧ ∃ b o : Nat, ∃ l c : Nat, a.y.lv = slv b o l c ∧ (0 ≤ (↑(slLen a.y.lv) : Int) - 1 ∧ (↑(slLen a.y.lv) : Int) - 1 < (↑l : Int)) ∧ ∃ b_1 lo o_1 : Nat, ∃ cs : List Value, pv b (o + ((↑(slLen a.y.lv) : Int) - 1).toNat * 1) = pv b_1 (lo + o_1) ∧ a.H b_1 = some (lo, cs) ∧ ((∃ v : Value, cs[o_1]? = some v ∧ v.oneCell' = true) ∧ True) ∧ ∃ b o : Nat, cs.getD o_1 (Value.tuple #[]) = pv b o ∧ 
 ∃ b_2 o_2 : Nat, pv b o = pv b_2 o_2 ∧ ∃ b lo o : Nat, ∃ cs : List Value, pv b_2 (o_2 + 3) = pv b (lo + o) ∧ a.H b = some (lo, cs) ∧ ((∃ v : Value, cs[o]? = some v ∧ v.oneCell' = true) ∧ True) ∧ (∃ a : Option Go.Addr, ∃ l c : Nat, cs.getD o (Value.tuple #[]) = Value.slice a l c ∧ l ≤ lenMax) ∧ InR .i64 ((370 : Int) - (↑a.body.length : Int)) ∧ (decide ((370 : Int) - (↑a.body.length : Int) < (↑(slLen (cs.getD o (Value.tuple #[]))) : Int)) = true → ∃ a_6 : BegA, 0 = 0 ∧ 0 = 0 ∧ logQ a.L a_6.L a.y.lv a_6.y.lv (devQ a.d a_6.d (a.H = a_6.H ∧ (LogAt a_6.H a_6.y a_6.L ∧ a_6.L.l.length < 900 ∧ 3 ≤ a_6.L.segs ∧ a_6.L.segs ≤ 200 ∧ a_6.L.from_ + a_6.L.segs * 8 ≤ a_6.d.n ∧ a_6.d.n < 100000 ∧ a_6.d.calls < 999999999999 ∧ InR .i64 a_6.L.next ∧ (newSeg a_6.L).gen < (1000000000000 : Int) ∧ (1 : Int) ≤ (newSeg a_6.L).gen ∧ ∀ i : Nat, i < a_6.L.l.length → (newSeg a_6.L).gen - (↑a_6.L.segs : Int) < (gl a_6.L.l i).gen) ∧ ∀ b : BegB, (LogAt b.H b.y (beginL a_6.L) ∧ ∀ x : Nat, a_6.H x ≠ none → ¬x ∈ fpLog a_6.y → b.H x = a_6.H x ∧ ¬x ∈ fpLog b.y) → (false = true → ∃ b_3 : BegB, (0 : Int) = a.L.next ∧ (0 : Int) = 0 ∧ b.H = b_3.H ∧ 0 = 0 ∧ logQ (beginL a_6.L) (appL a.L a.body) b.y.lv b_3.y.lv (devQ (beginD a_6.L a_6.d) (appD a.L a.d a.body) ((LogAt b_3.H b_3.y (appL a.L a.body) ∧ ∀ x : Nat, a.H x ≠ none → ¬x ∈ fpLog a.y → b_3.H x = a.H x ∧ ¬x ∈ fpLog b_3.y) ∧ True))) ∧ (false = false → ∃ a_9 : PH × LogL, decide (300 < (↑a.body.length : Int)) = decide (300 < (↑a.body.length : Int)) ∧ false = false ∧ (0 : Int) = 0 ∧ 
 (0 : Int) = 0 ∧ 0 = 0 ∧ (0 = 0 ∧ a.body.length = a.body.length ∧ a.cap = a.cap) ∧ b.H = a_9.fst ∧ 0 = 0 ∧ logQ (beginL a_6.L) (appL1 a.L a.body.length) b.y.lv a_9.snd.lv (devQ (beginD a_6.L a_6.d) (appD1 a.L a.d a.body.length) ((a.body.length ≤ a.body.length ∧ RowsEq a.body.length 1 (encRows encB a.body) (encRows encB a.body)) ∧ (LogAt a_9.fst a_9.snd (appL1 a.L a.body.length) ∧ ∀ z : Nat, a.H z ≠ none → ¬z ∈ fpLog a.y → a_9.fst z = a.H z ∧ ¬z ∈ fpLog a_9.snd) ∧ True)))))) ∧ (decide ((370 : Int) - (↑a.body.length : Int) < (↑(slLen (cs.getD o (Value.tuple #[]))) : Int)) = false → ∃ a_6 : PH × LogL, decide (300 < (↑a.body.length : Int)) = decide (300 < (↑a.body.length : Int)) ∧ false = false ∧ (0 : Int) = 0 ∧ (0 : Int) = 0 ∧ 0 = 0 ∧ (0 = 0 ∧ a.body.length = a.body.length ∧ a.cap = a.cap) ∧ a.H = a_6.fst ∧ 0 = 0 ∧ logQ a.L (appL1 a.L a.body.length) a.y.lv a_6.snd.lv (devQ a.d (appD1 a.L a.d a.body.length) ((a.body.length ≤ a.body.length ∧ RowsEq a.body.length 1 (encRows encB a.body) (encRows encB a.body)) ∧ (LogAt a_6.fst a_6.snd (appL1 a.L a.body.length) ∧ ∀ z : Nat, a.H z ≠ none → ¬z ∈ fpLog a.y → a_6.fst z = a.H z ∧ ¬z ∈ fpLog a_6.snd) ∧ True))))) ∧ ∀ a_4 : PH × LogL, (LogAt a_4.fst a_4.snd (appL1 a.L a.body.length) ∧ ∀ z : Nat, a.H z ≠ none → ¬z ∈ fpLog a.y → a_4.fst z = a.H z ∧ ¬z ∈ fpLog a_4.snd) → (∃ a : Option Go.Addr, ∃ l c : Nat, a_4.snd.lv = Value.slice a l c ∧ l ≤ lenMax) ∧ InR .i64 ((↑(slLen a_4.snd.lv) : Int) - 1) ∧ ∃ b o : Nat, ∃ l c : Nat, a_4.snd.lv = slv b o l c ∧ 
 (0 ≤ (↑(slLen a_4.snd.lv) : Int) - 1 ∧ (↑(slLen a_4.snd.lv) : Int) - 1 < (↑l : Int)) ∧ ∃ b_1 lo o_1 : Nat, ∃ cs : List Value, pv b (o + ((↑(slLen a_4.snd.lv) : Int) - 1).toNat * 1) = pv b_1 (lo + o_1) ∧ a_4.fst b_1 = some (lo, cs) ∧ ((∃ v : Value, cs[o_1]? = some v ∧ v.oneCell' = true) ∧ True) ∧ ((0 : Int) ≤ 2 ∧ (2 : Int) ≤ 8) ∧ 0 < 8 ∧ (0 : Int) ≤ 0 ∧ ((0 : Int) ≤ 1 ∧ (1 : Int) < 2) ∧ (0 : Int) ≤ 8 ∧ ((0 : Int) ≤ 0 ∧ (0 : Int) < 2) ∧ ((0 : Int) ≤ 2 ∧ (2 : Int) ≤ 8) ∧ 2 < 8 ∧ (InR .i64 (appL1 a.L a.body.length).next → (0 : Int) ≤ 0 ∧ ((0 : Int) ≤ 5 ∧ (5 : Int) < 6) ∧ (0 : Int) ≤ 8 ∧ ((0 : Int) ≤ 4 ∧ (4 : Int) < 6) ∧ (0 : Int) ≤ 16 ∧ ((0 : Int) ≤ 3 ∧ (3 : Int) < 6) ∧ (0 : Int) ≤ 24 ∧ ((0 : Int) ≤ 2 ∧ (2 : Int) < 6) ∧ (0 : Int) ≤ 32 ∧ ((0 : Int) ≤ 1 ∧ (1 : Int) < 6) ∧ (0 : Int) ≤ 40 ∧ ((0 : Int) ≤ 0 ∧ (0 : Int) < 6) ∧ ∃ b o : Nat, cs.getD o_1 (Value.tuple #[]) = pv b o ∧ ∃ b_2 o_2 : Nat, pv b o = pv b_2 o_2 ∧ ∃ b lo o : Nat, ∃ cs_1 : List Value, pv b_2 (o_2 + 3) = pv b (lo + o) ∧ a_4.fst b = some (lo, cs_1) ∧ ((∃ v : Value, cs_1[o]? = some v ∧ v.oneCell' = true) ∧ True) ∧ (∃ a : Option Go.Addr, ∃ l c : Nat, cs_1.getD o (Value.tuple #[]) = Value.slice a l c ∧ l ≤ lenMax) ∧ ∃ b o_3 : Nat, cs.getD o_1 (Value.tuple #[]) = pv b o_3 ∧ ∃ b_3 o_4 : Nat, pv b o_3 = pv b_3 o_4 ∧ ∃ b lo o_5 : Nat, ∃ cs_2 : List Value, pv b_3 (o_4 + 3) = pv b (lo + o_5) ∧ a_4.fst b = some (lo, cs_2) ∧ ((∃ v : Value, cs_2[o_5]? = some v ∧ v.oneCell' = true) ∧ True) ∧ 0 < 8 ∧ ∃ l c : Nat, ∃ rows : Nat → Nat → 
 Value, slAt a_4.fst (cs_2.getD o_5 (Value.tuple #[])) [CK.int IntKind.u8] l c rows ∧ 0 + l ≤ l ∧ (l + 8) * 1 ≤ 140737488355328 ∧ ∀ cap : Nat, l + 8 ≤ cap → cap ≤ lenMax → (l + 8 ≤ c → cap = c) → (cap ≠ 0 ∧ 0 + (l + 8) ≤ l + 8) ∧ ∀ (b lo : Nat) (cs_3 : List Value), pminusV a_4.fst (cs_2.getD o_5 (Value.tuple #[])) b = none → cs_3.length = cap * 1 → (PRows cs_3 0 [CK.int IntKind.u8] (l + 8) fun (i j : Nat) => appRows rows 0 l (rowsOfA [A.int IntKind.u8 (uw .u8 (uw .u64 (↑a.body.length : Int) / (256 : Int))), A.int IntKind.u8 (uw .u8 (uw .u64 (↑a.body.length : Int) / (1 : Int))), A.int IntKind.u8 (uw .u8 (uw .u64 (appL1 a.L a.body.length).next / (1099511627776 : Int))), A.int IntKind.u8 (uw .u8 (uw .u64 (appL1 a.L a.body.length).next / (4294967296 : Int))), A.int IntKind.u8 (uw .u8 (uw .u64 (appL1 a.L a.body.length).next / (16777216 : Int))), A.int IntKind.u8 (uw .u8 (uw .u64 (appL1 a.L a.body.length).next / (65536 : Int))), A.int IntKind.u8 (uw .u8 (uw .u64 (appL1 a.L a.body.length).next / (256 : Int))), A.int IntKind.u8 (uw .u8 (uw .u64 (appL1 a.L a.body.length).next / (1 : Int)))] 1) (0 + i) j) → ∃ l_1 c : Nat, ∃ rows : Nat → Nat → Value, slAt (pupd (pminusV a_4.fst (cs_2.getD o_5 (Value.tuple #[]))) b lo cs_3) (slv b lo (l + 8) cap) [CK.int IntKind.u8] l_1 c rows ∧ 0 + l_1 ≤ l_1 ∧ 0 + a.body.length ≤ a.body.length ∧ (l_1 + a.body.length) * 1 ≤ 140737488355328 ∧ ∀ cap_1 : Nat, l_1 + a.body.length ≤ cap_1 → cap_1 ≤ lenMax → (l_1 + a.body.length ≤ c → cap_1 = c) → (cap_1 ≠ 0 ∧ 0 + (l_1 + a.body.length) ≤ l_1 + a.body.length) ∧ 
 ∀ (b_4 lo_1 : Nat) (cs_4 : List Value), pminusV (pupd (pminusV a_4.fst (cs_2.getD o_5 (Value.tuple #[]))) b lo cs_3) (slv b lo (l + 8) cap) b_4 = none → cs_4.length = cap_1 * 1 → (PRows cs_4 0 [CK.int IntKind.u8] (l_1 + a.body.length) fun (i j : Nat) => appRows rows 0 l_1 (fun (i j : Nat) => encRows encB a.body (0 + i) j) (0 + i) j) → ∃ b_5 o_6 : Nat, cs.getD o_1 (Value.tuple #[]) = pv b_5 o_6 ∧ ∃ b_6 o_7 : Nat, pv b_5 o_6 = pv b_6 o_7 ∧ ∃ b_7 lo_2 o_8 : Nat, ∃ cs_5 : List Value, pv b_6 (o_7 + 3) = pv b_7 (lo_2 + o_8) ∧ pupd (pminusV (pupd (pminusV a_4.fst (cs_2.getD o_5 (Value.tuple #[]))) b lo cs_3) (slv b lo (l + 8) cap)) b_4 lo_1 cs_4 b_7 = some (lo_2, cs_5) ∧ o_8 + [A.val (slv b_4 lo_1 (l_1 + a.body.length) cap_1)].length ≤ cs_5.length ∧ (∃ a_19 : Nat, 0 = (↑a_19 : Int) ∧ (↑(slLen (cs_1.getD o (Value.tuple #[]))) : Int) = (↑(slLen (cs_1.getD o (Value.tuple #[]))) : Int) ∧ 0 = 0 ∧ cs.getD o_1 (Value.tuple #[]) = cs.getD o_1 (Value.tuple #[]) ∧ decide (300 < (↑a.body.length : Int)) = decide (300 < (↑a.body.length : Int)) ∧ false = false ∧ (0 : Int) = 0 ∧ (0 : Int) = 0 ∧ 0 = 0 ∧ (0 = 0 ∧ a.body.length = a.body.length ∧ a.cap = a.cap) ∧ pupd (pupd (pminusV (pupd (pminusV a_4.fst (cs_2.getD o_5 (Value.tuple #[]))) b lo cs_3) (slv b lo (l + 8) cap)) b_4 lo_1 cs_4) b_7 lo_2 (List.take o_8 cs_5 ++ [Value.slice (some { block := b_4, off := lo_1 }) (l_1 + a.body.length) cap_1] ++ List.drop (o_8 + [Value.slice (some { block := b_4, off := lo_1 }) (l_1 + a.body.length) cap_1].length) cs_5) = pupd (pupd (pminusV (pupd (pminusV a_4.fst (cs_2.getD o_5 (Value.tuple #[]))) b lo cs_3) (slv b lo (l + 8) cap)) b_4 lo_1 cs_4) b_7 lo_2 (List.take o_8 cs_5 ++ [Value.slice (some { block := b_4, off := lo_1 }) (l_1 + a.body.length) cap_1] ++ List.drop (o_8 + [Value.slice (some { block := b_4, off := lo_1 }) (l_1 + a.body.length) cap_1].length) cs_5) ∧ 
 uw .u8 (uw .u64 (↑a.body.length : Int) / (256 : Int)) = uw .u8 (uw .u64 (↑a.body.length : Int) / (256 : Int)) ∧ uw .u8 (uw .u64 (↑a.body.length : Int) / (1 : Int)) = uw .u8 (uw .u64 (↑a.body.length : Int) / (1 : Int)) ∧ uw .u8 (uw .u64 (appL1 a.L a.body.length).next / (1099511627776 : Int)) = uw .u8 (uw .u64 (appL1 a.L a.body.length).next / (1099511627776 : Int)) ∧ uw .u8 (uw .u64 (appL1 a.L a.body.length).next / (4294967296 : Int)) = uw .u8 (uw .u64 (appL1 a.L a.body.length).next / (4294967296 : Int)) ∧ uw .u8 (uw .u64 (appL1 a.L a.body.length).next / (16777216 : Int)) = uw .u8 (uw .u64 (appL1 a.L a.body.length).next / (16777216 : Int)) ∧ uw .u8 (uw .u64 (appL1 a.L a.body.length).next / (65536 : Int)) = uw .u8 (uw .u64 (appL1 a.L a.body.length).next / (65536 : Int)) ∧ uw .u8 (uw .u64 (appL1 a.L a.body.length).next / (256 : Int)) = uw .u8 (uw .u64 (appL1 a.L a.body.length).next / (256 : Int)) ∧ uw .u8 (uw .u64 (appL1 a.L a.body.length).next / (1 : Int)) = uw .u8 (uw .u64 (appL1 a.L a.body.length).next / (1 : Int)) ∧ 0 = 0 ∧ logQ (appL1 a.L a.body.length) (appL1 a.L a.body.length) a_4.snd.lv a_4.snd.lv (devQ (appD1 a.L a.d a.body.length) (writesTo (appL1 a.L a.body.length) (segW (lastG (appL1 a.L a.body.length)) a.L.next a.body) (lastG (appL1 a.L a.body.length)).buf.length (appD1 a.L a.d a.body.length) a_19) ((a.body.length ≤ a.body.length ∧ RowsEq a.body.length 1 (encRows encB a.body) (encRows encB a.body)) ∧ a_19 ≤ 8 ∧ True))) ∧ ∀ a_19 : Nat, a_19 ≤ 8 → (decide ((↑a_19 : Int) < 8) = true → 
 InR .i64 ((↑a_19 : Int) + 1) ∧ InR .i64 (((↑a_19 : Int) + 1) * (48 : Int)) ∧ InR .i64 (((↑a_19 : Int) + 1) * (48 : Int) - 6) ∧ (decide ((↑(slLen (cs_1.getD o (Value.tuple #[]))) : Int) < bif true then max (0 : Int) (((↑a_19 : Int) + 1) * (48 : Int) - 6) else min (0 : Int) (((↑a_19 : Int) + 1) * (48 : Int) - 6)) = true → ∃ b_8 o_9 : Nat, cs.getD o_1 (Value.tuple #[]) = pv b_8 o_9 ∧ ∃ b_9 o_10 : Nat, pv b_8 o_9 = pv b_9 o_10 ∧ ∃ b_10 lo_3 o_11 : Nat, ∃ cs_6 : List Value, pv b_9 (o_10 + 3) = pv b_10 (lo_3 + o_11) ∧ pupd (pupd (pminusV (pupd (pminusV a_4.fst (cs_2.getD o_5 (Value.tuple #[]))) b lo cs_3) (slv b lo (l + 8) cap)) b_4 lo_1 cs_4) b_7 lo_2 (List.take o_8 cs_5 ++ [Value.slice (some { block := b_4, off := lo_1 }) (l_1 + a.body.length) cap_1] ++ List.drop (o_8 + [Value.slice (some { block := b_4, off := lo_1 }) (l_1 + a.body.length) cap_1].length) cs_5) b_10 = some (lo_3, cs_6) ∧ ((∃ v : Value, cs_6[o_11]? = some v ∧ v.oneCell' = true) ∧ True) ∧ (∃ a : Option Go.Addr, ∃ l c : Nat, cs_6.getD o_11 (Value.tuple #[]) = Value.slice a l c ∧ l ≤ lenMax) ∧ InR .i64 ((↑a_19 : Int) * 48) ∧ InR .i64 ((↑a_19 : Int) * 48 - (6 : Int)) ∧ (decide ((bif true then max (0 : Int) ((↑a_19 : Int) * 48 - (6 : Int)) else min (0 : Int) ((↑a_19 : Int) * 48 - (6 : Int))) < (↑(slLen (cs_6.getD o_11 (Value.tuple #[]))) : Int)) = true → ∃ a_24 : WriteA, 0 = 0 ∧ cs.getD o_1 (Value.tuple #[]) = pv a_24.y.b 0 ∧ (↑a_19 : Int) = (↑a_24.i : Int) ∧ devQ (writesTo (appL1 a.L a.body.length) (segW (lastG (appL1 a.L a.body.length)) a.L.next a.body) (lastG (appL1 a.L a.body.length)).buf.length (appD1 a.L a.d a.body.length) a_19) a_24.d (0 = 0 ∧ 
 logQ (appL1 a.L a.body.length) a_24.L a_4.snd.lv a_24.lv (pupd (pupd (pminusV (pupd (pminusV a_4.fst (cs_2.getD o_5 (Value.tuple #[]))) b lo cs_3) (slv b lo (l + 8) cap)) b_4 lo_1 cs_4) b_7 lo_2 (List.take o_8 cs_5 ++ [Value.slice (some { block := b_4, off := lo_1 }) (l_1 + a.body.length) cap_1] ++ List.drop (o_8 + [Value.slice (some { block := b_4, off := lo_1 }) (l_1 + a.body.length) cap_1].length) cs_5) = a_24.H ∧ (SegAt a_24.H a_24.y a_24.g ∧ a_24.i < 8 ∧ a_24.g.buf.length ≤ 378 ∧ (1 : Int) ≤ a_24.g.gen ∧ 3 ≤ a_24.L.segs ∧ a_24.L.segs ≤ 200 ∧ a_24.L.from_ + a_24.L.segs * 8 ≤ a_24.d.n ∧ a_24.d.n < 100000 ∧ a_24.d.calls < 1000000000000) ∧ ∀ b_11 : Unit, True → (false = true → ∃ b_12 : BegB, (0 : Int) = a.L.next ∧ (0 : Int) = 0 ∧ pupd (pupd (pminusV (pupd (pminusV a_4.fst (cs_2.getD o_5 (Value.tuple #[]))) b lo cs_3) (slv b lo (l + 8) cap)) b_4 lo_1 cs_4) b_7 lo_2 (List.take o_8 cs_5 ++ [Value.slice (some { block := b_4, off := lo_1 }) (l_1 + a.body.length) cap_1] ++ List.drop (o_8 + [Value.slice (some { block := b_4, off := lo_1 }) (l_1 + a.body.length) cap_1].length) cs_5) = b_12.H ∧ 0 = 0 ∧ logQ (appL1 a.L a.body.length) (appL a.L a.body) a_4.snd.lv b_12.y.lv (devQ (devWr a_24.d (secNo a_24.L a_24.g a_24.i) 64 (secB a_24.g a_24.i a_24.L.run)) (appD a.L a.d a.body) ((LogAt b_12.H b_12.y (appL a.L a.body) ∧ ∀ x : Nat, a.H x ≠ none → ¬x ∈ fpLog a.y → b_12.H x = a.H x ∧ ¬x ∈ fpLog b_12.y) ∧ True))) ∧ (false = false → InR .i64 ((↑a_19 : Int) + 1) ∧ ∃ (a' : Nat), (↑a_19 : Int) + 1 = (↑a' : Int) ∧ 
 (↑(slLen (cs_1.getD o (Value.tuple #[]))) : Int) = (↑(slLen (cs_1.getD o (Value.tuple #[]))) : Int) ∧ 0 = 0 ∧ cs.getD o_1 (Value.tuple #[]) = cs.getD o_1 (Value.tuple #[]) ∧ decide (300 < (↑a.body.length : Int)) = decide (300 < (↑a.body.length : Int)) ∧ false = false ∧ (0 : Int) = 0 ∧ (0 : Int) = 0 ∧ 0 = 0 ∧ (0 = 0 ∧ a.body.length = a.body.length ∧ a.cap = a.cap) ∧ pupd (pupd (pminusV (pupd (pminusV a_4.fst (cs_2.getD o_5 (Value.tuple #[]))) b lo cs_3) (slv b lo (l + 8) cap)) b_4 lo_1 cs_4) b_7 lo_2 (List.take o_8 cs_5 ++ [Value.slice (some { block := b_4, off := lo_1 }) (l_1 + a.body.length) cap_1] ++ List.drop (o_8 + [Value.slice (some { block := b_4, off := lo_1 }) (l_1 + a.body.length) cap_1].length) cs_5) = pupd (pupd (pminusV (pupd (pminusV a_4.fst (cs_2.getD o_5 (Value.tuple #[]))) b lo cs_3) (slv b lo (l + 8) cap)) b_4 lo_1 cs_4) b_7 lo_2 (List.take o_8 cs_5 ++ [Value.slice (some { block := b_4, off := lo_1 }) (l_1 + a.body.length) cap_1] ++ List.drop (o_8 + [Value.slice (some { block := b_4, off := lo_1 }) (l_1 + a.body.length) cap_1].length) cs_5) ∧ uw .u8 (uw .u64 (↑a.body.length : Int) / (256 : Int)) = uw .u8 (uw .u64 (↑a.body.length : Int) / (256 : Int)) ∧ uw .u8 (uw .u64 (↑a.body.length : Int) / (1 : Int)) = uw .u8 (uw .u64 (↑a.body.length : Int) / (1 : Int)) ∧ uw .u8 (uw .u64 (appL1 a.L a.body.length).next / (1099511627776 : Int)) = uw .u8 (uw .u64 (appL1 a.L a.body.length).next / (1099511627776 : Int)) ∧ uw .u8 (uw .u64 (appL1 a.L a.body.length).next / (4294967296 : Int)) = uw .u8 (uw .u64 (appL1 a.L a.body.length).next / (4294967296 : Int)) ∧ 
 uw .u8 (uw .u64 (appL1 a.L a.body.length).next / (16777216 : Int)) = uw .u8 (uw .u64 (appL1 a.L a.body.length).next / (16777216 : Int)) ∧ uw .u8 (uw .u64 (appL1 a.L a.body.length).next / (65536 : Int)) = uw .u8 (uw .u64 (appL1 a.L a.body.length).next / (65536 : Int)) ∧ uw .u8 (uw .u64 (appL1 a.L a.body.length).next / (256 : Int)) = uw .u8 (uw .u64 (appL1 a.L a.body.length).next / (256 : Int)) ∧ uw .u8 (uw .u64 (appL1 a.L a.body.length).next / (1 : Int)) = uw .u8 (uw .u64 (appL1 a.L a.body.length).next / (1 : Int)) ∧ 0 = 0 ∧ logQ (appL1 a.L a.body.length) (appL1 a.L a.body.length) a_4.snd.lv a_4.snd.lv (devQ (devWr a_24.d (secNo a_24.L a_24.g a_24.i) 64 (secB a_24.g a_24.i a_24.L.run)) (writesTo (appL1 a.L a.body.length) (segW (lastG (appL1 a.L a.body.length)) a.L.next a.body) (lastG (appL1 a.L a.body.length)).buf.length (appD1 a.L a.d a.body.length) a') ((a.body.length ≤ a.body.length ∧ RowsEq a.body.length 1 (encRows encB a.body) (encRows encB a.body)) ∧ a' ≤ 8 ∧ 8 - a' < 8 - a_19)))))) ∧ (decide ((bif true then max (0 : Int) ((↑a_19 : Int) * 48 - (6 : Int)) else min (0 : Int) ((↑a_19 : Int) * 48 - (6 : Int))) < (↑(slLen (cs_6.getD o_11 (Value.tuple #[]))) : Int)) = false → InR .i64 ((↑a_19 : Int) + 1) ∧ ∃ (a' : Nat), (↑a_19 : Int) + 1 = (↑a' : Int) ∧ (↑(slLen (cs_1.getD o (Value.tuple #[]))) : Int) = (↑(slLen (cs_1.getD o (Value.tuple #[]))) : Int) ∧ 0 = 0 ∧ cs.getD o_1 (Value.tuple #[]) = cs.getD o_1 (Value.tuple #[]) ∧ decide (300 < (↑a.body.length : Int)) = decide (300 < (↑a.body.length : Int)) ∧ 
 false = false ∧ (0 : Int) = 0 ∧ (0 : Int) = 0 ∧ 0 = 0 ∧ (0 = 0 ∧ a.body.length = a.body.length ∧ a.cap = a.cap) ∧ pupd (pupd (pminusV (pupd (pminusV a_4.fst (cs_2.getD o_5 (Value.tuple #[]))) b lo cs_3) (slv b lo (l + 8) cap)) b_4 lo_1 cs_4) b_7 lo_2 (List.take o_8 cs_5 ++ [Value.slice (some { block := b_4, off := lo_1 }) (l_1 + a.body.length) cap_1] ++ List.drop (o_8 + [Value.slice (some { block := b_4, off := lo_1 }) (l_1 + a.body.length) cap_1].length) cs_5) = pupd (pupd (pminusV (pupd (pminusV a_4.fst (cs_2.getD o_5 (Value.tuple #[]))) b lo cs_3) (slv b lo (l + 8) cap)) b_4 lo_1 cs_4) b_7 lo_2 (List.take o_8 cs_5 ++ [Value.slice (some { block := b_4, off := lo_1 }) (l_1 + a.body.length) cap_1] ++ List.drop (o_8 + [Value.slice (some { block := b_4, off := lo_1 }) (l_1 + a.body.length) cap_1].length) cs_5) ∧ uw .u8 (uw .u64 (↑a.body.length : Int) / (256 : Int)) = uw .u8 (uw .u64 (↑a.body.length : Int) / (256 : Int)) ∧ uw .u8 (uw .u64 (↑a.body.length : Int) / (1 : Int)) = uw .u8 (uw .u64 (↑a.body.length : Int) / (1 : Int)) ∧ uw .u8 (uw .u64 (appL1 a.L a.body.length).next / (1099511627776 : Int)) = uw .u8 (uw .u64 (appL1 a.L a.body.length).next / (1099511627776 : Int)) ∧ uw .u8 (uw .u64 (appL1 a.L a.body.length).next / (4294967296 : Int)) = uw .u8 (uw .u64 (appL1 a.L a.body.length).next / (4294967296 : Int)) ∧ uw .u8 (uw .u64 (appL1 a.L a.body.length).next / (16777216 : Int)) = uw .u8 (uw .u64 (appL1 a.L a.body.length).next / (16777216 : Int)) ∧ uw .u8 (uw .u64 (appL1 a.L a.body.length).next / (65536 : Int)) = uw .u8 (uw .u64 (appL1 a.L a.body.length).next / (65536 : Int)) ∧ 
 uw .u8 (uw .u64 (appL1 a.L a.body.length).next / (256 : Int)) = uw .u8 (uw .u64 (appL1 a.L a.body.length).next / (256 : Int)) ∧ uw .u8 (uw .u64 (appL1 a.L a.body.length).next / (1 : Int)) = uw .u8 (uw .u64 (appL1 a.L a.body.length).next / (1 : Int)) ∧ 0 = 0 ∧ logQ (appL1 a.L a.body.length) (appL1 a.L a.body.length) a_4.snd.lv a_4.snd.lv (devQ (writesTo (appL1 a.L a.body.length) (segW (lastG (appL1 a.L a.body.length)) a.L.next a.body) (lastG (appL1 a.L a.body.length)).buf.length (appD1 a.L a.d a.body.length) a_19) (writesTo (appL1 a.L a.body.length) (segW (lastG (appL1 a.L a.body.length)) a.L.next a.body) (lastG (appL1 a.L a.body.length)).buf.length (appD1 a.L a.d a.body.length) a') ((a.body.length ≤ a.body.length ∧ RowsEq a.body.length 1 (encRows encB a.body) (encRows encB a.body)) ∧ a' ≤ 8 ∧ 8 - a' < 8 - a_19)))) ∧ (decide ((↑(slLen (cs_1.getD o (Value.tuple #[]))) : Int) < bif true then max (0 : Int) (((↑a_19 : Int) + 1) * (48 : Int) - 6) else min (0 : Int) (((↑a_19 : Int) + 1) * (48 : Int) - 6)) = false → InR .i64 ((↑a_19 : Int) + 1) ∧ ∃ (a' : Nat), (↑a_19 : Int) + 1 = (↑a' : Int) ∧ (↑(slLen (cs_1.getD o (Value.tuple #[]))) : Int) = (↑(slLen (cs_1.getD o (Value.tuple #[]))) : Int) ∧ 0 = 0 ∧ cs.getD o_1 (Value.tuple #[]) = cs.getD o_1 (Value.tuple #[]) ∧ decide (300 < (↑a.body.length : Int)) = decide (300 < (↑a.body.length : Int)) ∧ false = false ∧ (0 : Int) = 0 ∧ (0 : Int) = 0 ∧ 0 = 0 ∧ (0 = 0 ∧ a.body.length = a.body.length ∧ a.cap = a.cap) ∧ pupd (pupd (pminusV (pupd (pminusV a_4.fst (cs_2.getD o_5 (Value.tuple #[]))) b lo cs_3) (slv b lo (l + 8) cap)) b_4 lo_1 cs_4) b_7 lo_2 (List.take o_8 cs_5 ++ [Value.slice (some { block := b_4, off := lo_1 }) (l_1 + a.body.length) cap_1] ++ List.drop (o_8 + [Value.slice (some { block := b_4, off := lo_1 }) (l_1 + a.body.length) cap_1].length) cs_5) = pupd (pupd (pminusV (pupd (pminusV a_4.fst (cs_2.getD o_5 (Value.tuple #[]))) b lo cs_3) (slv b lo (l + 8) cap)) b_4 lo_1 cs_4) b_7 lo_2 (List.take o_8 cs_5 ++ [Value.slice (some { block := b_4, off := lo_1 }) (l_1 + a.body.length) cap_1] ++ List.drop (o_8 + [Value.slice (some { block := b_4, off := lo_1 }) (l_1 + a.body.length) cap_1].length) cs_5) ∧ 
 uw .u8 (uw .u64 (↑a.body.length : Int) / (256 : Int)) = uw .u8 (uw .u64 (↑a.body.length : Int) / (256 : Int)) ∧ uw .u8 (uw .u64 (↑a.body.length : Int) / (1 : Int)) = uw .u8 (uw .u64 (↑a.body.length : Int) / (1 : Int)) ∧ uw .u8 (uw .u64 (appL1 a.L a.body.length).next / (1099511627776 : Int)) = uw .u8 (uw .u64 (appL1 a.L a.body.length).next / (1099511627776 : Int)) ∧ uw .u8 (uw .u64 (appL1 a.L a.body.length).next / (4294967296 : Int)) = uw .u8 (uw .u64 (appL1 a.L a.body.length).next / (4294967296 : Int)) ∧ uw .u8 (uw .u64 (appL1 a.L a.body.length).next / (16777216 : Int)) = uw .u8 (uw .u64 (appL1 a.L a.body.length).next / (16777216 : Int)) ∧ uw .u8 (uw .u64 (appL1 a.L a.body.length).next / (65536 : Int)) = uw .u8 (uw .u64 (appL1 a.L a.body.length).next / (65536 : Int)) ∧ uw .u8 (uw .u64 (appL1 a.L a.body.length).next / (256 : Int)) = uw .u8 (uw .u64 (appL1 a.L a.body.length).next / (256 : Int)) ∧ uw .u8 (uw .u64 (appL1 a.L a.body.length).next / (1 : Int)) = uw .u8 (uw .u64 (appL1 a.L a.body.length).next / (1 : Int)) ∧ 0 = 0 ∧ logQ (appL1 a.L a.body.length) (appL1 a.L a.body.length) a_4.snd.lv a_4.snd.lv (devQ (writesTo (appL1 a.L a.body.length) (segW (lastG (appL1 a.L a.body.length)) a.L.next a.body) (lastG (appL1 a.L a.body.length)).buf.length (appD1 a.L a.d a.body.length) a_19) (writesTo (appL1 a.L a.body.length) (segW (lastG (appL1 a.L a.body.length)) a.L.next a.body) (lastG (appL1 a.L a.body.length)).buf.length (appD1 a.L a.d a.body.length) a') ((a.body.length ≤ a.body.length ∧ 
 RowsEq a.body.length 1 (encRows encB a.body) (encRows encB a.body)) ∧ a' ≤ 8 ∧ 8 - a' < 8 - a_19)))) ∧ (decide ((↑a_19 : Int) < 8) = false → ∃ b_8 o : Nat, cs.getD o_1 (Value.tuple #[]) = pv b_8 o ∧ ∃ b_9 o_9 : Nat, pv b_8 o = pv b_9 o_9 ∧ ∃ b_10 lo_3 o : Nat, ∃ cs_6 : List Value, pv b_9 (o_9 + 4) = pv b_10 (lo_3 + o) ∧ pupd (pupd (pminusV (pupd (pminusV a_4.fst (cs_2.getD o_5 (Value.tuple #[]))) b lo cs_3) (slv b lo (l + 8) cap)) b_4 lo_1 cs_4) b_7 lo_2 (List.take o_8 cs_5 ++ [Value.slice (some { block := b_4, off := lo_1 }) (l_1 + a.body.length) cap_1] ++ List.drop (o_8 + [Value.slice (some { block := b_4, off := lo_1 }) (l_1 + a.body.length) cap_1].length) cs_5) b_10 = some (lo_3, cs_6) ∧ ((∃ v : Value, cs_6[o]? = some v ∧ v.oneCell' = true) ∧ True) ∧ (InR .i64 (appL1 a.L a.body.length).next → ∀ b_11 : Bool, (b_11 = true → a.body.length = 0) → (b_11 = true → ∃ l_2 c : Nat, ∃ rows : Nat → Nat → Value, slAt (pupd (pupd (pminusV (pupd (pminusV a_4.fst (cs_2.getD o_5 (Value.tuple #[]))) b lo cs_3) (slv b lo (l + 8) cap)) b_4 lo_1 cs_4) b_7 lo_2 (List.take o_8 cs_5 ++ [Value.slice (some { block := b_4, off := lo_1 }) (l_1 + a.body.length) cap_1] ++ List.drop (o_8 + [Value.slice (some { block := b_4, off := lo_1 }) (l_1 + a.body.length) cap_1].length) cs_5)) (cs_6.getD o (Value.tuple #[])) [CK.int IntKind.i64, CK.deep] l_2 c rows ∧ 0 + l_2 ≤ l_2 ∧ 1 ≤ 1 ∧ (l_2 + 1) * 32 ≤ 140737488355328 ∧ ∀ cap_2 : Nat, l_2 + 1 ≤ cap_2 → cap_2 ≤ lenMax → (l_2 + 1 ≤ c → cap_2 = c) → (cap_2 ≠ 0 ∧ 
 0 + (l_2 + 1) ≤ l_2 + 1) ∧ ∀ (b_12 lo_4 : Nat) (cs_7 : List Value), pminusV (pupd (pupd (pminusV (pupd (pminusV a_4.fst (cs_2.getD o_5 (Value.tuple #[]))) b lo cs_3) (slv b lo (l + 8) cap)) b_4 lo_1 cs_4) b_7 lo_2 (List.take o_8 cs_5 ++ [Value.slice (some { block := b_4, off := lo_1 }) (l_1 + a.body.length) cap_1] ++ List.drop (o_8 + [Value.slice (some { block := b_4, off := lo_1 }) (l_1 + a.body.length) cap_1].length) cs_5)) (cs_6.getD o (Value.tuple #[])) b_12 = none → cs_7.length = cap_2 * 2 → (PRows cs_7 0 [CK.int IntKind.i64, CK.deep] (l_2 + 1) fun (i j : Nat) => appRows rows 0 l_2 (fun (i j : Nat) => flatRows 2 [Value.int IntKind.i64 (appL1 a.L a.body.length).next, Value.slice none 0 0] (0 + i) j) (0 + i) j) → ∃ b_13 o_10 : Nat, cs.getD o_1 (Value.tuple #[]) = pv b_13 o_10 ∧ ∃ b_14 o_11 : Nat, pv b_13 o_10 = pv b_14 o_11 ∧ ∃ b_15 lo_5 o_12 : Nat, ∃ cs : List Value, pv b_14 (o_11 + 4) = pv b_15 (lo_5 + o_12) ∧ pupd (pminusV (pupd (pupd (pminusV (pupd (pminusV a_4.fst (cs_2.getD o_5 (Value.tuple #[]))) b lo cs_3) (slv b lo (l + 8) cap)) b_4 lo_1 cs_4) b_7 lo_2 (List.take o_8 cs_5 ++ [Value.slice (some { block := b_4, off := lo_1 }) (l_1 + a.body.length) cap_1] ++ List.drop (o_8 + [Value.slice (some { block := b_4, off := lo_1 }) (l_1 + a.body.length) cap_1].length) cs_5)) (cs_6.getD o (Value.tuple #[]))) b_12 lo_4 cs_7 b_15 = some (lo_5, cs) ∧ o_12 + [A.val (slv b_12 lo_4 (l_2 + 1) cap_2)].length ≤ cs.length ∧ (InR .i64 (appL1 a.L a.body.length).next → InR .i64 ((appL1 a.L a.body.length).next + (1 : Int)) ∧ 
 ((appL1 a.L a.body.length).fresh = true → InR .i64 ((appL1 a.L a.body.length).next + (1 : Int)) → InR .i64 ((appL1 a.L a.body.length).next + (1 : Int) - 1) ∧ ∃ a_34 : DevM, 0 = 0 ∧ devQ (writesTo (appL1 a.L a.body.length) (segW (lastG (appL1 a.L a.body.length)) a.L.next a.body) (lastG (appL1 a.L a.body.length)).buf.length (appD1 a.L a.d a.body.length) a_19) a_34 ((a_34.n < 100000 ∧ a_34.calls < 1000000000000) ∧ ∀ b_16 : Unit, True → ∃ b_17 : BegB, (appL1 a.L a.body.length).next + (1 : Int) - 1 = a.L.next ∧ (0 : Int) = 0 ∧ pupd (pupd (pminusV (pupd (pupd (pminusV (pupd (pminusV a_4.fst (cs_2.getD o_5 (Value.tuple #[]))) b lo cs_3) (slv b lo (l + 8) cap)) b_4 lo_1 cs_4) b_7 lo_2 (List.take o_8 cs_5 ++ [Value.slice (some { block := b_4, off := lo_1 }) (l_1 + a.body.length) cap_1] ++ List.drop (o_8 + [Value.slice (some { block := b_4, off := lo_1 }) (l_1 + a.body.length) cap_1].length) cs_5)) (cs_6.getD o (Value.tuple #[]))) b_12 lo_4 cs_7) b_15 lo_5 (List.take o_12 cs ++ [Value.slice (some { block := b_12, off := lo_4 }) (l_2 + 1) cap_2] ++ List.drop (o_12 + [Value.slice (some { block := b_12, off := lo_4 }) (l_2 + 1) cap_2].length) cs) = b_17.H ∧ 0 = 0 ∧ (↑(appL1 a.L a.body.length).from_ : Int) = (↑(appL a.L a.body).from_ : Int) ∧ (↑(appL1 a.L a.body.length).segs : Int) = (↑(appL a.L a.body).segs : Int) ∧ a_4.snd.lv = b_17.y.lv ∧ (appL1 a.L a.body.length).next + (1 : Int) = (appL a.L a.body).next ∧ (appL1 a.L a.body.length).run = (appL a.L a.body).run ∧ false = (appL a.L a.body).fresh ∧ 
 devQ (devFl a_34) (appD a.L a.d a.body) ((LogAt b_17.H b_17.y (appL a.L a.body) ∧ ∀ x : Nat, a.H x ≠ none → ¬x ∈ fpLog a.y → b_17.H x = a.H x ∧ ¬x ∈ fpLog b_17.y) ∧ True))) ∧ ((appL1 a.L a.body.length).fresh = false → InR .i64 ((appL1 a.L a.body.length).next + (1 : Int)) → InR .i64 ((appL1 a.L a.body.length).next + (1 : Int) - 1) ∧ ∃ b_16 : BegB, (appL1 a.L a.body.length).next + (1 : Int) - 1 = a.L.next ∧ (0 : Int) = 0 ∧ pupd (pupd (pminusV (pupd (pupd (pminusV (pupd (pminusV a_4.fst (cs_2.getD o_5 (Value.tuple #[]))) b lo cs_3) (slv b lo (l + 8) cap)) b_4 lo_1 cs_4) b_7 lo_2 (List.take o_8 cs_5 ++ [Value.slice (some { block := b_4, off := lo_1 }) (l_1 + a.body.length) cap_1] ++ List.drop (o_8 + [Value.slice (some { block := b_4, off := lo_1 }) (l_1 + a.body.length) cap_1].length) cs_5)) (cs_6.getD o (Value.tuple #[]))) b_12 lo_4 cs_7) b_15 lo_5 (List.take o_12 cs ++ [Value.slice (some { block := b_12, off := lo_4 }) (l_2 + 1) cap_2] ++ List.drop (o_12 + [Value.slice (some { block := b_12, off := lo_4 }) (l_2 + 1) cap_2].length) cs) = b_16.H ∧ 0 = 0 ∧ (↑(appL1 a.L a.body.length).from_ : Int) = (↑(appL a.L a.body).from_ : Int) ∧ (↑(appL1 a.L a.body.length).segs : Int) = (↑(appL a.L a.body).segs : Int) ∧ a_4.snd.lv = b_16.y.lv ∧ (appL1 a.L a.body.length).next + (1 : Int) = (appL a.L a.body).next ∧ (appL1 a.L a.body.length).run = (appL a.L a.body).run ∧ (appL1 a.L a.body.length).fresh = (appL a.L a.body).fresh ∧ devQ (writesTo (appL1 a.L a.body.length) (segW (lastG (appL1 a.L a.body.length)) a.L.next a.body) (lastG (appL1 a.L a.body.length)).buf.length (appD1 a.L a.d a.body.length) a_19) (appD a.L a.d a.body) ((LogAt b_16.H b_16.y (appL a.L a.body) ∧ 
 ∀ x : Nat, a.H x ≠ none → ¬x ∈ fpLog a.y → b_16.H x = a.H x ∧ ¬x ∈ fpLog b_16.y) ∧ True)))) ∧ (b_11 = false → 0 ≤ 0 ∧ 0 + a.body.length ≤ a.body.length ∧ (0 + a.body.length) * 1 ≤ 140737488355328 ∧ ∀ cap_2 : Nat, 0 + a.body.length ≤ cap_2 → cap_2 ≤ lenMax → (0 + a.body.length ≤ 0 → cap_2 = 0) → (cap_2 ≠ 0 ∧ 0 + (0 + a.body.length) ≤ 0 + a.body.length) ∧ ∀ (b_12 lo_4 : Nat) (cs_7 : List Value), pupd (pupd (pminusV (pupd (pminusV a_4.fst (cs_2.getD o_5 (Value.tuple #[]))) b lo cs_3) (slv b lo (l + 8) cap)) b_4 lo_1 cs_4) b_7 lo_2 (List.take o_8 cs_5 ++ [Value.slice (some { block := b_4, off := lo_1 }) (l_1 + a.body.length) cap_1] ++ List.drop (o_8 + [Value.slice (some { block := b_4, off := lo_1 }) (l_1 + a.body.length) cap_1].length) cs_5) b_12 = none → cs_7.length = cap_2 * 1 → (PRows cs_7 0 [CK.int IntKind.u8] (0 + a.body.length) fun (i j : Nat) => appRows (flatRows 1 []) 0 0 (fun (i j : Nat) => encRows encB a.body (0 + i) j) (0 + i) j) → ∃ l_2 c : Nat, ∃ rows : Nat → Nat → Value, slAt (pupd (pupd (pupd (pminusV (pupd (pminusV a_4.fst (cs_2.getD o_5 (Value.tuple #[]))) b lo cs_3) (slv b lo (l + 8) cap)) b_4 lo_1 cs_4) b_7 lo_2 (List.take o_8 cs_5 ++ [Value.slice (some { block := b_4, off := lo_1 }) (l_1 + a.body.length) cap_1] ++ List.drop (o_8 + [Value.slice (some { block := b_4, off := lo_1 }) (l_1 + a.body.length) cap_1].length) cs_5)) b_12 lo_4 cs_7) (cs_6.getD o (Value.tuple #[])) [CK.int IntKind.i64, CK.deep] l_2 c rows ∧ 0 + l_2 ≤ l_2 ∧ (l_2 + 1) * 32 ≤ 140737488355328 ∧ 
 ∀ cap_3 : Nat, l_2 + 1 ≤ cap_3 → cap_3 ≤ lenMax → (l_2 + 1 ≤ c → cap_3 = c) → (cap_3 ≠ 0 ∧ 0 + (l_2 + 1) ≤ l_2 + 1) ∧ ∀ (b_13 lo_5 : Nat) (cs_8 : List Value), pminusV (pupd (pupd (pupd (pminusV (pupd (pminusV a_4.fst (cs_2.getD o_5 (Value.tuple #[]))) b lo cs_3) (slv b lo (l + 8) cap)) b_4 lo_1 cs_4) b_7 lo_2 (List.take o_8 cs_5 ++ [Value.slice (some { block := b_4, off := lo_1 }) (l_1 + a.body.length) cap_1] ++ List.drop (o_8 + [Value.slice (some { block := b_4, off := lo_1 }) (l_1 + a.body.length) cap_1].length) cs_5)) b_12 lo_4 cs_7) (cs_6.getD o (Value.tuple #[])) b_13 = none → cs_8.length = cap_3 * 2 → (PRows cs_8 0 [CK.int IntKind.i64, CK.deep] (l_2 + 1) fun (i j : Nat) => appRows rows 0 l_2 (rowsOfA [A.int IntKind.i64 (appL1 a.L a.body.length).next, A.val (slv b_12 lo_4 (0 + a.body.length) cap_2)] 2) (0 + i) j) → ∃ b_14 o_10 : Nat, cs.getD o_1 (Value.tuple #[]) = pv b_14 o_10 ∧ ∃ b_15 o_11 : Nat, pv b_14 o_10 = pv b_15 o_11 ∧ ∃ b_16 lo_6 o_12 : Nat, ∃ cs : List Value, pv b_15 (o_11 + 4) = pv b_16 (lo_6 + o_12) ∧ pupd (pminusV (pupd (pupd (pupd (pminusV (pupd (pminusV a_4.fst (cs_2.getD o_5 (Value.tuple #[]))) b lo cs_3) (slv b lo (l + 8) cap)) b_4 lo_1 cs_4) b_7 lo_2 (List.take o_8 cs_5 ++ [Value.slice (some { block := b_4, off := lo_1 }) (l_1 + a.body.length) cap_1] ++ List.drop (o_8 + [Value.slice (some { block := b_4, off := lo_1 }) (l_1 + a.body.length) cap_1].length) cs_5)) b_12 lo_4 cs_7) (cs_6.getD o (Value.tuple #[]))) b_13 lo_5 cs_8 b_16 = some (lo_6, cs) ∧ o_12 + [A.val (slv b_13 lo_5 (l_2 + 1) cap_3)].length ≤ cs.length ∧ 
 (InR .i64 (appL1 a.L a.body.length).next → InR .i64 ((appL1 a.L a.body.length).next + (1 : Int)) ∧ ((appL1 a.L a.body.length).fresh = true → InR .i64 ((appL1 a.L a.body.length).next + (1 : Int)) → InR .i64 ((appL1 a.L a.body.length).next + (1 : Int) - 1) ∧ ∃ a_40 : DevM, 0 = 0 ∧ devQ (writesTo (appL1 a.L a.body.length) (segW (lastG (appL1 a.L a.body.length)) a.L.next a.body) (lastG (appL1 a.L a.body.length)).buf.length (appD1 a.L a.d a.body.length) a_19) a_40 ((a_40.n < 100000 ∧ a_40.calls < 1000000000000) ∧ ∀ b_17 : Unit, True → ∃ b_18 : BegB, (appL1 a.L a.body.length).next + (1 : Int) - 1 = a.L.next ∧ (0 : Int) = 0 ∧ pupd (pupd (pminusV (pupd (pupd (pupd (pminusV (pupd (pminusV a_4.fst (cs_2.getD o_5 (Value.tuple #[]))) b lo cs_3) (slv b lo (l + 8) cap)) b_4 lo_1 cs_4) b_7 lo_2 (List.take o_8 cs_5 ++ [Value.slice (some { block := b_4, off := lo_1 }) (l_1 + a.body.length) cap_1] ++ List.drop (o_8 + [Value.slice (some { block := b_4, off := lo_1 }) (l_1 + a.body.length) cap_1].length) cs_5)) b_12 lo_4 cs_7) (cs_6.getD o (Value.tuple #[]))) b_13 lo_5 cs_8) b_16 lo_6 (List.take o_12 cs ++ [Value.slice (some { block := b_13, off := lo_5 }) (l_2 + 1) cap_3] ++ List.drop (o_12 + [Value.slice (some { block := b_13, off := lo_5 }) (l_2 + 1) cap_3].length) cs) = b_18.H ∧ 0 = 0 ∧ (↑(appL1 a.L a.body.length).from_ : Int) = (↑(appL a.L a.body).from_ : Int) ∧ (↑(appL1 a.L a.body.length).segs : Int) = (↑(appL a.L a.body).segs : Int) ∧ a_4.snd.lv = b_18.y.lv ∧ (appL1 a.L a.body.length).next + (1 : Int) = (appL a.L a.body).next ∧ 
 (appL1 a.L a.body.length).run = (appL a.L a.body).run ∧ false = (appL a.L a.body).fresh ∧ devQ (devFl a_40) (appD a.L a.d a.body) ((LogAt b_18.H b_18.y (appL a.L a.body) ∧ ∀ x : Nat, a.H x ≠ none → ¬x ∈ fpLog a.y → b_18.H x = a.H x ∧ ¬x ∈ fpLog b_18.y) ∧ True))) ∧ ((appL1 a.L a.body.length).fresh = false → InR .i64 ((appL1 a.L a.body.length).next + (1 : Int)) → InR .i64 ((appL1 a.L a.body.length).next + (1 : Int) - 1) ∧ ∃ b_17 : BegB, (appL1 a.L a.body.length).next + (1 : Int) - 1 = a.L.next ∧ (0 : Int) = 0 ∧ pupd (pupd (pminusV (pupd (pupd (pupd (pminusV (pupd (pminusV a_4.fst (cs_2.getD o_5 (Value.tuple #[]))) b lo cs_3) (slv b lo (l + 8) cap)) b_4 lo_1 cs_4) b_7 lo_2 (List.take o_8 cs_5 ++ [Value.slice (some { block := b_4, off := lo_1 }) (l_1 + a.body.length) cap_1] ++ List.drop (o_8 + [Value.slice (some { block := b_4, off := lo_1 }) (l_1 + a.body.length) cap_1].length) cs_5)) b_12 lo_4 cs_7) (cs_6.getD o (Value.tuple #[]))) b_13 lo_5 cs_8) b_16 lo_6 (List.take o_12 cs ++ [Value.slice (some { block := b_13, off := lo_5 }) (l_2 + 1) cap_3] ++ List.drop (o_12 + [Value.slice (some { block := b_13, off := lo_5 }) (l_2 + 1) cap_3].length) cs) = b_17.H ∧ 0 = 0 ∧ (↑(appL1 a.L a.body.length).from_ : Int) = (↑(appL a.L a.body).from_ : Int) ∧ (↑(appL1 a.L a.body.length).segs : Int) = (↑(appL a.L a.body).segs : Int) ∧ a_4.snd.lv = b_17.y.lv ∧ (appL1 a.L a.body.length).next + (1 : Int) = (appL a.L a.body).next ∧ (appL1 a.L a.body.length).run = (appL a.L a.body).run ∧ (appL1 a.L a.body.length).fresh = (appL a.L a.body).fresh ∧ 
 devQ (writesTo (appL1 a.L a.body.length) (segW (lastG (appL1 a.L a.body.length)) a.L.next a.body) (lastG (appL1 a.L a.body.length)).buf.length (appD1 a.L a.d a.body.length) a_19) (appD a.L a.d a.body) ((LogAt b_17.H b_17.y (appL a.L a.body) ∧ ∀ x : Nat, a.H x ≠ none → ¬x ∈ fpLog a.y → b_17.H x = a.H x ∧ ¬x ∈ fpLog b_17.y) ∧ True)))))))))) (by kernel_rfl) (by
 rintro ⟨H, y, L, d, body, cap⟩ ⟨hl, ok, hb1, hb2, hdel⟩
 dsimp only at *
 have hf := ok.few
 have hcl := ok.calls
 have hnx := ok.next
 have hng := newSeg_gen ok
 obtain ⟨e1, _, ⟨ea, ec, e2⟩, e3, _⟩ := hl.lv_len
 refine ⟨fun c1 => ?_, fun _ => ⟨fun c2 => ?_, fun _ => ⟨⟨⟨ea, _, ec, e2, e3⟩, fun c3 => ?_, fun c3 => ?_⟩, ?_⟩⟩⟩
 ·simp at c1; omega
 ·simp at c2; omega
 ·rw [e1] at c3
  have hn0 : L.l.length = 0 := by simpa using c3
  have hneed : needB L body.length = true := by simp only [needB, hn0]; rfl
  have e1 : appL1 L body.length = beginL L := if_pos hneed
  have e2 : appD1 L d body.length = beginD L d := if_pos hneed
  refine ⟨BegA.mk H y L d, ?_⟩
  (repeat' apply And.intro) <;> first | with_reducible (first | rfl | trivial | assumption) | omega | with_reducible (first | exact RowsEq.refl _ _ _ | exact Nat.le_refl _) | (dsimp only [List.length_cons, List.length_nil] <;> omega) | exact ok.segs.1 | exact ok.segs.2 | exact ok.room | exact ok.size | (simp only [InR]; omega) | exact hdel hneed | skip
  intro b hpost
  refine ⟨fun e => (by cases e), fun _ => ⟨(b.H, b.y), ?_⟩⟩
  simp only [e1, e2]
  (repeat' apply And.intro) <;> first | with_reducible (first | rfl | trivial | assumption) | omega | with_reducible (first | exact RowsEq.refl _ _ _ | exact Nat.le_refl _) | (dsimp only [List.length_cons, List.length_nil] <;> omega) | exact hpost.1 | exact hpost.2 | rfl
 ·rw [e1] at c3 ⊢
  have hn0 : 0 < L.l.length := by have := (beq_eq_false_iff_ne.1 c3); omega
  have hk : L.l.length - 1 < L.l.length := by omega
  obtain ⟨b, lo, o, c, cs, g1, g2, g3, g4⟩ := hl.at_ hk
  have hs := hl.seg _ hk
  obtain ⟨b1, b2, b3, b4, ⟨ba, bc, b5⟩, b6⟩ := hs.buf.len
  have e5 : ((L.l.length : Int) - 1).toNat = L.l.length - 1 := by omega
  refine ⟨by simp only [InR]; omega, _, _, _, _, g1, by omega, b, lo, o + (L.l.length - 1) * 1, cs, by rw [e5, Nat.add_assoc], g2, ⟨⟨_, g3, rfl⟩, trivial⟩, ?_⟩
  refine ⟨_, _, g4, ?_⟩
  refine ⟨_, _, rfl, ?_⟩
  refine ⟨_, 0, _, _, rfl, hs.cell, ?_⟩
  refine ⟨⟨⟨_, rfl, b6⟩, trivial⟩, ⟨ba, _, bc, b5, b3⟩, by simp only [InR]; omega, fun c4 => ?_, fun c4 => ?_⟩
  ·simp only [segC, List.getD_cons_succ, List.getD_cons_zero, b1] at c4
   have hneed : needB L body.length = true := by
    have := of_decide_eq_true c4
    rw [needB, Bool.or_eq_true]; exact .inr (decide_eq_true (show 370 < (lastG L).buf.length + body.length by unfold lastG; omega))
   have e1 : appL1 L body.length = beginL L := if_pos hneed
   have e2 : appD1 L d body.length = beginD L d := if_pos hneed
   refine ⟨BegA.mk H y L d, ?_⟩
   (repeat' apply And.intro) <;> first | with_reducible (first | rfl | trivial | assumption) | omega | with_reducible (first | exact RowsEq.refl _ _ _ | exact Nat.le_refl _) | (dsimp only [List.length_cons, List.length_nil] <;> omega) | exact ok.segs.1 | exact ok.segs.2 | exact ok.room | exact ok.size | (simp only [InR]; omega) | exact hdel hneed | skip
   intro b hpost
   refine ⟨fun e => (by cases e), fun _ => ⟨(b.H, b.y), ?_⟩⟩
   simp only [e1, e2]
   (repeat' apply And.intro) <;> first | with_reducible (first | rfl | trivial | assumption) | omega | with_reducible (first | exact RowsEq.refl _ _ _ | exact Nat.le_refl _) | (dsimp only [List.length_cons, List.length_nil] <;> omega) | exact hpost.1 | exact hpost.2 | rfl
  ·simp only [segC, List.getD_cons_succ, List.getD_cons_zero, b1] at c4
   have hneed : needB L body.length = false := by
    have := of_decide_eq_false c4
    rw [needB, Bool.or_eq_false_iff]; exact ⟨decide_eq_false (by omega), decide_eq_false (show ¬ 370 < (lastG L).buf.length + body.length by unfold lastG; omega)⟩
   have e1 : appL1 L body.length = L := if_neg (by rw [hneed]; decide)
   have e2 : appD1 L d body.length = d := if_neg (by rw [hneed]; decide)
   refine ⟨(H, y), ?_⟩
   simp only [e1, e2]
   (repeat' apply And.intro) <;> first | with_reducible (first | rfl | trivial | assumption) | omega | with_reducible (first | exact RowsEq.refl _ _ _ | exact Nat.le_refl _) | (dsimp only [List.length_cons, List.length_nil] <;> omega) | exact hl | exact fun _ _ h => ⟨rfl, h⟩ | exact fun _ _ h => ⟨trivial, h⟩ | rfl
 ·rintro ⟨X, Y⟩ ⟨hX, hfr⟩
  dsimp only at hX hfr ⊢
  have h1 := appL1_ok (n := body.length) ok hb2
  have eA : appL L body = appL2 (appL1 L body.length) body := rfl
  have eD : appD L d body = if (appL1 L body.length).fresh then devFl (appD2 (appL1 L body.length) (appD1 L d body.length) body) else appD2 (appL1 L body.length) (appD1 L d body.length) body := rfl
  rw [eA, eD]
  obtain ⟨L1, hL1⟩ : ∃ L1, L1 = appL1 L body.length := ⟨_, rfl⟩
  obtain ⟨d1, hd1⟩ : ∃ d1, d1 = appD1 L d body.length := ⟨_, rfl⟩
  rw [← hL1] at hX
  rw [← hL1, ← hd1] at h1 ⊢
  have hp := h1.pos
  have hk : L1.l.length - 1 < L1.l.length := by omega
  obtain ⟨k1, _, ⟨ka, kc, k2⟩, k3, _⟩ := hX.lv_len
  obtain ⟨b, lo, o, c, cs, g1, g2, g3, g4⟩ := hX.at_ hk
  have hs := hX.segNd hk
  obtain ⟨sl, hsl⟩ : ∃ sl, sl = gl Y.ys (L1.l.length - 1) := ⟨_, rfl⟩
  have hlg : lastG L1 = gl L1.l (L1.l.length - 1) := rfl
  obtain ⟨g, hg⟩ : ∃ g, g = lastG L1 := ⟨_, rfl⟩
  rw [← hlg, ← hg, ← hsl] at hs
  rw [← hsl] at g3 g4
  rw [← hg]
  have hlast := h1.last
  rw [← hg] at hlast
  have hgen := h1.gen _ hk
  rw [← hlg, ← hg] at hgen
  obtain ⟨b1, b2, b3, b4, ⟨ba, bc, b5⟩, b6⟩ := hs.at_.buf.len
  have e5 : ((L1.l.length : Int) - 1).toNat = L1.l.length - 1 := by omega
  rw [k1]
  have hfew := h1.few
  refine ⟨⟨ka, _, kc, k2, k3⟩, by simp only [InR]; omega, _, _, _, _, g1, by omega, b, lo, o + (L1.l.length - 1) * 1, cs, by rw [e5, Nat.add_assoc], g2, ⟨⟨_, g3, rfl⟩, trivial⟩, ?_⟩
  repeat (first | refine And.intro (by omega) ?_ | refine And.intro (by dsimp only; omega) ?_ | refine And.intro (by simp only [InR]; omega) ?_)
  intro _
  repeat (first | refine And.intro (by omega) ?_ | refine And.intro (by dsimp only; omega) ?_ | refine And.intro (by simp only [InR]; omega) ?_)
  refine ⟨_, _, g4, ?_⟩
  refine ⟨_, _, rfl, ?_⟩
  refine ⟨_, 0, _, _, rfl, hs.at_.cell, ?_⟩
  refine ⟨⟨⟨_, rfl, b6⟩, trivial⟩, ⟨ba, _, bc, b5, b3⟩, ?_⟩
  refine ⟨_, _, g4, ?_⟩
  refine ⟨_, _, rfl, ?_⟩
  refine ⟨_, 0, _, _, rfl, hs.at_.cell, ?_⟩
  refine ⟨⟨⟨_, rfl, b6⟩, trivial⟩, ?_⟩
  repeat (first | refine And.intro (by omega) ?_ | refine And.intro (by dsimp only; omega) ?_ | refine And.intro (by simp only [InR]; omega) ?_)
  obtain ⟨c0, hbuf⟩ := hs.at_.buf
  simp only [show (segC g sl.bv sl.rv).getD 3 (Value.tuple #[]) = sl.bv from rfl]
  refine ⟨_, c0, _, hbuf, ?_⟩
  repeat (first | refine And.intro (by omega) ?_ | refine And.intro (by dsimp only; omega) ?_ | refine And.intro (by simp only [InR]; omega) ?_)
  intro cap1 q1 q2 q3
  repeat (first | refine And.intro (by omega) ?_ | refine And.intro (by dsimp only; omega) ?_ | refine And.intro (by simp only [InR]; omega) ?_)
  intro p1 lo1 cs1 hp1 hl1 hr1
  have hA : Step X sl.bv (pupd (pminusV X sl.bv) p1 lo1 cs1) (slv p1 lo1 (g.buf.length + 8) cap1) := app_step hp1
  have hsA : slAt (pupd (pminusV X sl.bv) p1 lo1 cs1) (slv p1 lo1 (g.buf.length + 8) cap1) [.int .u8] (g.buf.length + 8) cap1 (encRows encB (g.buf ++ hdrB body.length L1.next)) := by
   refine slAt_new hl1 q1 q2 hr1 fun i hi j hj => ?_
   have hj0 : j = 0 := by simpa using hj
   subst hj0
   simp only [Nat.zero_add, appRows, encRows, encB, List.getD_cons_zero]
   by_cases hin : i < g.buf.length
   ·rw [if_pos hin, gl_append_left hin]
   ·rw [if_neg hin]
    obtain ⟨m, rfl⟩ : ∃ m, i = g.buf.length + m := ⟨i - g.buf.length, by omega⟩
    rw [gl_append_right, Nat.add_sub_cancel_left]
    have hm : m < 8 := by omega
    match m, hm with
    | 0, _ => rfl
    | 1, _ => rfl
    | 2, _ => rfl
    | 3, _ => rfl
    | 4, _ => rfl
    | 5, _ => rfl
    | 6, _ => rfl
    | 7, _ => rfl
  refine ⟨_, cap1, _, hsA, ?_⟩
  repeat (first | refine And.intro (by omega) ?_ | refine And.intro (by dsimp only; omega) ?_ | refine And.intro (by simp only [InR]; omega) ?_)
  intro cap2 q4 q5 q6
  repeat (first | refine And.intro (by omega) ?_ | refine And.intro (by dsimp only; omega) ?_ | refine And.intro (by simp only [InR]; omega) ?_)
  intro p2 lo2 cs2 hp2 hl2 hr2
  have hB : Step X sl.bv (pupd (pminusV (pupd (pminusV X sl.bv) p1 lo1 cs1) (slv p1 lo1 (g.buf.length + 8) cap1)) p2 lo2 cs2) (slv p2 lo2 (g.buf.length + 8 + body.length) cap2) := hA.trans (app_step hp2)
  have hlb : (bufApp g L1.next body).length = g.buf.length + 8 + body.length := by simp only [bufApp, List.length_append]; rfl
  have hBy : BytesAt (pupd (pminusV (pupd (pminusV X sl.bv) p1 lo1 cs1) (slv p1 lo1 (g.buf.length + 8) cap1)) p2 lo2 cs2) (slv p2 lo2 (g.buf.length + 8 + body.length) cap2) (bufApp g L1.next body) := by
   refine ⟨cap2, ?_⟩
   rw [hlb]
   refine slAt_new hl2 q4 q5 hr2 fun i hi j hj => ?_
   have hj0 : j = 0 := by simpa using hj
   subst hj0
   simp only [Nat.zero_add, appRows, encRows, encB, List.getD_cons_zero, bufApp]
   have hl8 : (g.buf ++ hdrB body.length L1.next).length = g.buf.length + 8 := by rw [List.length_append]; rfl
   by_cases hin : i < g.buf.length + 8
   ·rw [if_pos hin, show gl (g.buf ++ hdrB body.length L1.next ++ body) i = gl (g.buf ++ hdrB body.length L1.next) i from gl_append_left (by rw [hl8]; exact hin)]
   ·rw [if_neg hin]
    obtain ⟨m, rfl⟩ : ∃ m, i = g.buf.length + 8 + m := ⟨i - (g.buf.length + 8), by omega⟩
    rw [← hl8, gl_append_right, Nat.add_sub_cancel_left]
  obtain ⟨hc2, hs3, hf3⟩ := seg_setbuf hs hB hBy
  obtain ⟨X2, hX2⟩ : ∃ X2, X2 = pupd (pminusV (pupd (pminusV X sl.bv) p1 lo1 cs1) (slv p1 lo1 (g.buf.length + 8) cap1)) p2 lo2 cs2 := ⟨_, rfl⟩
  rw [← hX2] at hc2 hs3 hf3 ⊢
  refine ⟨_, _, g4, ?_⟩
  refine ⟨_, _, rfl, ?_⟩
  refine ⟨_, 0, _, _, rfl, hc2, by simp [segC], ?_⟩
  obtain ⟨X3, hX3⟩ : ∃ X3, X3 = pupd X2 sl.b 0 (segC { g with buf := bufApp g L1.next body } (slv p2 lo2 (g.buf.length + 8 + body.length) cap2) sl.rv) := ⟨_, rfl⟩
  have eX3 : pupd X2 sl.b 0 (List.take 3 (segC g sl.bv sl.rv) ++ [Value.slice (some ⟨p2, lo2, none⟩) (g.buf.length + 8 + body.length) cap2] ++ List.drop (3 + [Value.slice (some ⟨p2, lo2, none⟩) (g.buf.length + 8 + body.length) cap2].length) (segC g sl.bv sl.rv)) = X3 := hX3.symm
  rw [← hX3] at hs3 hf3
  simp only [eX3]
  obtain ⟨sl3, hsl3⟩ : ∃ s, s = { sl with bv := slv p2 lo2 (g.buf.length + 8 + body.length) cap2 } := ⟨_, rfl⟩
  obtain ⟨g3', hg3⟩ : ∃ s : SegM, s = { g with buf := bufApp g L1.next body } := ⟨_, rfl⟩
  have hsw : segW g L.next body = g3' := by rw [hg3, ← h1.next]; rfl
  have hb3 : g3'.buf.length = g.buf.length + 8 + body.length := by rw [hg3]; exact hlb
  have hgen3 : g3'.gen = g.gen := by rw [hg3]
  have hv2 : sl3.bv = slv p2 lo2 (g.buf.length + 8 + body.length) cap2 := by rw [hsl3]
  have hb3s : sl3.b = sl.b := by rw [hsl3]
  rw [← hsl3, ← hg3] at hs3
  rw [← hsl3] at hf3
  have hcell3 := hs3.at_.cell
  have hwn := writesTo_n L1 g3' g.buf.length d1
  have hsegs := ok.segs
  have hroom := ok.room
  have hsize := ok.size
  have q1n := h1.dn
  have q1c := h1.calls
  have q1f := h1.from_
  have q1s := h1.segs
  rw [hsw]
  refine ⟨⟨0, ?_⟩, fun i hi => ⟨fun c5 => ?_, fun c5 => ?_⟩⟩
  ·(repeat' apply And.intro) <;> first | with_reducible (first | rfl | trivial | assumption) | omega | with_reducible (first | exact RowsEq.refl _ _ _ | exact Nat.le_refl _) | (dsimp only [List.length_cons, List.length_nil] <;> omega) | rfl | exact Nat.le_refl _ | exact RowsEq.refl _ _ _
  ·have hi8 : i < 8 := by have := of_decide_eq_true c5; omega
   have em : (bif true then max 0 (((i : Int) + 1) * 48 - 6) else min 0 (((i : Int) + 1) * 48 - 6)) = (startS (i + 1) : Nat) := by simp only [cond_true, startS]; omega
   have em2 : (bif true then max 0 ((i : Int) * 48 - 6) else min 0 ((i : Int) * 48 - 6)) = (startS i : Nat) := by simp only [cond_true, startS]; omega
   simp only [show (segC g sl.bv sl.rv).getD 3 (Value.tuple #[]) = sl.bv from rfl, b1, em, em2]
   have hw1 := hwn i
   repeat (first | refine And.intro (by omega) ?_ | refine And.intro (by dsimp only; omega) ?_ | refine And.intro (by simp only [InR]; omega) ?_)
   refine ⟨fun c6 => ?_, fun c6 => ?_⟩
   ·have c6 : g.buf.length < startS (i + 1) := by have := of_decide_eq_true c6; omega
    refine ⟨_, _, g4, ?_⟩
    refine ⟨_, _, rfl, ?_⟩
    refine ⟨_, 0, _, _, rfl, by rw [← hb3s]; exact hcell3, ?_⟩
    refine ⟨⟨⟨_, rfl, by rw [hv2]; rfl⟩, trivial⟩, ⟨_, _, _, hv2, Nat.le_trans q4 q5⟩, ?_⟩
    simp only [hv2, segC, List.getD_cons_succ, List.getD_cons_zero, slLen_slv]
    repeat (first | refine And.intro (by omega) ?_ | refine And.intro (by dsimp only; omega) ?_ | refine And.intro (by simp only [InR]; omega) ?_)
    refine ⟨fun c7 => ?_, fun c7 => ?_⟩
    ·have c7 : startS i < g.buf.length + 8 + body.length := by have := of_decide_eq_true c7; omega
     have hcond : writesTo L1 g3' g.buf.length d1 (i + 1) = devWr (writesTo L1 g3' g.buf.length d1 i) (secNo L1 g3' i) 64 (secB g3' i L1.run) := by
      have : condS g.buf.length g3'.buf.length i = true := by simp only [condS, Bool.and_eq_true, decide_eq_true_eq]; omega
      simp only [writesTo, this, if_true]
     refine ⟨WriteA.mk X3 sl3 g3' i L1 Y.lv (writesTo L1 g3' g.buf.length d1 i), ?_⟩
     (repeat' apply And.intro) <;> first | with_reducible (first | rfl | trivial | assumption) | omega | with_reducible (first | exact RowsEq.refl _ _ _ | exact Nat.le_refl _) | (dsimp only [List.length_cons, List.length_nil] <;> omega) | exact hs3.at_ | (rw [hb3s]; exact g4) | exact RowsEq.refl _ _ _ | (dsimp only; omega) | skip
     intro _ _
     refine ⟨fun e => (by cases e), fun _ => ⟨by simp only [InR]; omega, i + 1, ?_⟩⟩
     rw [hcond]
     (repeat' apply And.intro) <;> first | with_reducible (first | rfl | trivial | assumption) | omega | with_reducible (first | exact RowsEq.refl _ _ _ | exact Nat.le_refl _) | (dsimp only [List.length_cons, List.length_nil] <;> omega) | exact RowsEq.refl _ _ _ | (simp only [devWr]; omega) | skip
    ·have c7 : ¬ startS i < g.buf.length + 8 + body.length := by have := of_decide_eq_false c7; omega
     have hcond : writesTo L1 g3' g.buf.length d1 (i + 1) = writesTo L1 g3' g.buf.length d1 i := by
      have : condS g.buf.length g3'.buf.length i = false := by simp only [condS, Bool.and_eq_false_iff, decide_eq_false_iff_not]; omega
      simp only [writesTo, this]; rfl
     refine ⟨by simp only [InR]; omega, i + 1, ?_⟩
     rw [hcond]
     (repeat' apply And.intro) <;> first | with_reducible (first | rfl | trivial | assumption) | omega | with_reducible (first | exact RowsEq.refl _ _ _ | exact Nat.le_refl _) | (dsimp only [List.length_cons, List.length_nil] <;> omega) | exact RowsEq.refl _ _ _ | skip
   ·have c6 : ¬ g.buf.length < startS (i + 1) := by have := of_decide_eq_false c6; omega
    have hcond : writesTo L1 g3' g.buf.length d1 (i + 1) = writesTo L1 g3' g.buf.length d1 i := by
     have : condS g.buf.length g3'.buf.length i = false := by simp only [condS, Bool.and_eq_false_iff, decide_eq_false_iff_not]; omega
     simp only [writesTo, this]; rfl
    refine ⟨by simp only [InR]; omega, i + 1, ?_⟩
    rw [hcond]
    (repeat' apply And.intro) <;> first | with_reducible (first | rfl | trivial | assumption) | omega | with_reducible (first | exact RowsEq.refl _ _ _ | exact Nat.le_refl _) | (dsimp only [List.length_cons, List.length_nil] <;> omega) | exact RowsEq.refl _ _ _ | skip
  ·have hi8 : i = 8 := by have := of_decide_eq_false c5; omega
   subst hi8
   have eD2 : appD2 L1 d1 body = writesTo L1 g3' g.buf.length d1 8 := by
    have : segW (lastG L1) L1.next body = g3' := by rw [h1.next, ← hg]; exact hsw
    unfold appD2
    rw [this, ← hg]
   refine ⟨_, _, g4, ?_⟩
   refine ⟨_, _, rfl, ?_⟩
   refine ⟨_, 0, _, _, rfl, by rw [← hb3s]; exact hcell3, ?_⟩
   obtain ⟨c9, hrec⟩ := hs3.at_.recs
   obtain ⟨m1, m2, m3, m4, m5, _, m6⟩ := slAt_len hrec
   refine ⟨⟨⟨_, rfl, m6⟩, trivial⟩, fun _ b11 hb11 => ⟨fun e => absurd (hb11 e) (by omega), fun _ => ?_⟩⟩
   simp only [show (segC g3' sl3.bv sl3.rv).getD 4 (Value.tuple #[]) = sl3.rv from rfl, Nat.zero_add]
   repeat (first | refine And.intro (by omega) ?_ | refine And.intro (by dsimp only; omega) ?_ | refine And.intro (by simp only [InR]; omega) ?_)
   intro cap3 u1 u2 u3
   repeat (first | refine And.intro (by omega) ?_ | refine And.intro (by dsimp only; omega) ?_ | refine And.intro (by simp only [InR]; omega) ?_)
   intro p3 lo3 cs3 hp3 hl3 hr3
   have hC : Step X3 (.slice none 0 0) (pupd X3 p3 lo3 cs3) (slv p3 lo3 body.length cap3) := new_step hp3
   have hCb : BytesAt (pupd X3 p3 lo3 cs3) (slv p3 lo3 body.length cap3) body := by
    refine ⟨cap3, slAt_new hl3 u1 u2 hr3 fun i hi j hj => ?_⟩
    have hj0 : j = 0 := by simpa using hj
    subst hj0
    simp only [appRows, Nat.not_lt_zero, if_false, Nat.sub_zero]
   have hx3 : ∀ x, X3 x ≠ none → x ≠ p3 := fun x hx e => hx (by rw [e]; exact hp3)
   have hrec4 : slAt (pupd X3 p3 lo3 cs3) sl3.rv ksRec g3'.recs.length c9 (recR g3'.recs sl3.vs) := slAt_frame hrec fun x hx => pupd_ne (hx3 x (slAt_dom hrec x hx))
   refine ⟨_, c9, _, hrec4, ?_⟩
   have hrc := h1.recs _ hk
   have hbc := h1.buf _ hk
   rw [← hlg, ← hg] at hrc hbc
   have hmr : g3'.recs.length = g.recs.length := by rw [hg3]
   repeat (first | refine And.intro (by omega) ?_ | refine And.intro (by dsimp only; omega) ?_ | refine And.intro (by simp only [InR]; omega) ?_)
   intro cap4 w1 w2 w3
   repeat (first | refine And.intro (by omega) ?_ | refine And.intro (by dsimp only; omega) ?_ | refine And.intro (by simp only [InR]; omega) ?_)
   intro p4 lo4 cs4 hp4 hl4 hr4
   have hD : Step (pupd X3 p3 lo3 cs3) sl3.rv (pupd (pminusV (pupd X3 p3 lo3 cs3) sl3.rv) p4 lo4 cs4) (slv p4 lo4 (g3'.recs.length + 1) cap4) := app_step hp4
   have hr5 : slAt (pupd (pminusV (pupd X3 p3 lo3 cs3) sl3.rv) p4 lo4 cs4) (slv p4 lo4 (g3'.recs.length + 1) cap4) ksRec (g3'.recs.length + 1) cap4 (recR (g3'.recs ++ [⟨L1.next, body⟩]) (sl3.vs ++ [slv p3 lo3 body.length cap3])) := by
    refine slAt_new hl4 w1 w2 hr4 fun i hi j hj => ?_
    have hvl := hs3.at_.len
    simp only [appRows, recR, Nat.zero_add]
    by_cases hin : i < g3'.recs.length
    ·rw [if_pos hin, gl_append_left hin]
     by_cases hj0 : j = 0
     ·rw [if_pos hj0, if_pos hj0]
     ·rw [if_neg hj0, if_neg hj0, List.getD_eq_getElem?_getD, List.getD_eq_getElem?_getD, List.getElem?_append_left (by omega)]
    ·rw [if_neg hin]
     obtain rfl : i = g3'.recs.length := by omega
     rw [Nat.sub_self]
     have hj2 : j < 2 := hj
     match j, hj2 with
     | 0, _ => rw [if_pos rfl, show g3'.recs.length = g3'.recs.length + 0 from rfl, gl_append_right]; rfl
     | 1, _ => rw [if_neg (by decide), List.getD_eq_getElem?_getD, List.getElem?_append_right (by omega), hvl, Nat.sub_self]; rfl
   obtain ⟨hcell4, hcell5, hnd6, hfr6⟩ := seg_setrecs (r := ⟨L1.next, body⟩) hs3 hC hCb hD (fun x hx => by
    simp only [fpV, slv, List.mem_singleton] at hx
    rw [hx, pupd_self]; simp) ⟨cap4, hr5⟩
   have hset := hX.set hk (sl := ⟨sl3.b, sl3.bv, slv p4 lo4 (g3'.recs.length + 1) cap4, sl3.vs ++ [slv p3 lo3 body.length cap3]⟩) (g := { g3' with recs := g3'.recs ++ [⟨L1.next, body⟩] }) (by rw [← hsl]; exact hb3s) hnd6 (by rw [← hsl]; exact hf3.trans hfr6)
   have hAll := hset.1.congr (L' := appL2 L1 body) (by
    simp only [appL2, putLast]
    rw [← hg, hg3]; rfl)
   have hFr : ∀ z, H z ≠ none → z ∉ fpLog y → pupd (pupd (pminusV (pupd X3 p3 lo3 cs3) sl3.rv) p4 lo4 cs4) sl3.b 0 (segC { g3' with recs := g3'.recs ++ [⟨L1.next, body⟩] } sl3.bv (slv p4 lo4 (g3'.recs.length + 1) cap4)) z = H z ∧ z ∉ fpLog ⟨Y.lv, Y.ys.set (L1.l.length - 1) ⟨sl3.b, sl3.bv, slv p4 lo4 (g3'.recs.length + 1) cap4, sl3.vs ++ [slv p3 lo3 body.length cap3]⟩⟩ := fun z hz hn => by
    obtain ⟨f1, f2⟩ := hfr z hz hn
    obtain ⟨f3, f4⟩ := hset.2 z (by rw [f1]; exact hz) f2
    exact ⟨f3.trans f1, f4⟩
   obtain ⟨X6, hX6⟩ : ∃ X6, X6 = pupd (pupd (pminusV (pupd X3 p3 lo3 cs3) sl3.rv) p4 lo4 cs4) sl3.b 0 (segC { g3' with recs := g3'.recs ++ [⟨L1.next, body⟩] } sl3.bv (slv p4 lo4 (g3'.recs.length + 1) cap4)) := ⟨_, rfl⟩
   rw [← hX6] at hAll
   simp only [← hX6] at hFr
   refine ⟨_, _, g4, ?_⟩
   refine ⟨_, _, rfl, ?_⟩
   refine ⟨_, 0, _, _, rfl, by rw [← hb3s]; exact hcell5, by simp [segC], fun _ => ?_⟩
   have q1x := h1.next
   have eDn : (appD2 L1 d1 body).n = d.n ∧ (appD2 L1 d1 body).calls ≤ d.calls + 10 := by rw [eD2]; have := hwn 8; omega
   rw [eD2] at eDn
   refine ⟨by simp only [InR]; omega, fun hfre _ => ⟨by simp only [InR]; omega, writesTo L1 g3' g.buf.length d1 8, ?_⟩, fun hfre _ => ⟨by simp only [InR]; omega, ?_⟩⟩
   ·(repeat' apply And.intro) <;> first | with_reducible (first | rfl | trivial | assumption) | omega | with_reducible (first | exact RowsEq.refl _ _ _ | exact Nat.le_refl _) | (dsimp only [List.length_cons, List.length_nil] <;> omega) | exact RowsEq.refl _ _ _ | skip
    intro _ _
    rw [hfre, if_pos rfl, eD2]
    refine ⟨⟨X6, ⟨Y.lv, Y.ys.set (L1.l.length - 1) ⟨sl3.b, sl3.bv, slv p4 lo4 (g3'.recs.length + 1) cap4, sl3.vs ++ [slv p3 lo3 body.length cap3]⟩⟩⟩, ?_⟩
    (repeat' apply And.intro) <;> first | with_reducible (first | rfl | trivial | assumption) | omega | with_reducible (first | exact RowsEq.refl _ _ _ | exact Nat.le_refl _) | (dsimp only [List.length_cons, List.length_nil] <;> omega) | exact hAll | exact hFr | (rw [hX6, hb3s]; rfl) | exact Nat.le_refl _ | exact RowsEq.refl _ _ _ | rfl | skip
   ·rw [hfre, if_neg (by decide), eD2]
    refine ⟨⟨X6, ⟨Y.lv, Y.ys.set (L1.l.length - 1) ⟨sl3.b, sl3.bv, slv p4 lo4 (g3'.recs.length + 1) cap4, sl3.vs ++ [slv p3 lo3 body.length cap3]⟩⟩⟩, ?_⟩
    (repeat' apply And.intro) <;> first | with_reducible (first | rfl | trivial | assumption) | omega | with_reducible (first | exact RowsEq.refl _ _ _ | exact Nat.le_refl _) | (dsimp only [List.length_cons, List.length_nil] <;> omega) | exact hAll | exact hFr | (rw [hX6, hb3s]; rfl) | exact Nat.le_refl _ | exact RowsEq.refl _ _ _ | rfl | skip)
theorem callAppend : CallsBy (Y Tryz.prog).G.X 59 cAppend := fn_ok okY (tab := [(79, cBegin), (82, cWrite), (64, cDevFlush)]) ⟨callBegin, callWrite, callDevFlush, trivial⟩ bodyAppend

end Go.Proofs.YtfobhkibkdmglaaGreat

namespace Go.Proofs.YtfobhkibkdmglaaGreat
open Go.Sx
set_option maxRecDepth 100000
set_option linter.unusedVariables false
set_option linter.unusedSimpArgs false

structure SortedR (rs : List RecM) : Prop where
 lt : ∀ i j, i < j → j < rs.length → (gl rs i).pos < (gl rs j).pos
 rng : ∀ i, i < rs.length → 0 ≤ (gl rs i).pos ∧ (gl rs i).pos < 1000000000000
theorem rec_at {H : PH} {v : Value} {rs : List RecM} {vs : List Value} {n c : Nat} (h : slAt H v ksRec n c (recR rs vs)) {k : Nat} (hk : k < n) : ∃ b lo o cs, v = slv b (lo + o) n c ∧ H b = some (lo, cs) ∧ cs[o + k * 2]? = some (.int .i64 (gl rs k).pos) ∧ cs[o + k * 2 + 1]? = some (vs.getD k undef) ∧
 (vs.getD k undef).oneCell' = true ∧ InR .i64 (gl rs k).pos ∧ cs.getD (o + k * 2) (Value.tuple #[]) = .int .i64 (gl rs k).pos ∧ cs.getD (o + k * 2 + 1) (Value.tuple #[]) = vs.getD k undef := by
 rcases h with ⟨_, h0, _⟩ | ⟨b, lo, o, cs, h1, h2, h3, h4, h5⟩
 ·omega
 ·obtain ⟨g1, g2⟩ := h5.at_ k hk 0 (.int .i64) rfl
  obtain ⟨g3, g4⟩ := h5.at_ k hk 1 .deep rfl
  have g1 : cs[o + k * 2]? = some (.int .i64 (gl rs k).pos) := g1
  have g3 : cs[o + k * 2 + 1]? = some (vs.getD k undef) := g3
  obtain ⟨m, hm, hr⟩ := g2
  have hr : InR .i64 (gl rs k).pos := by
   have : (Value.int .i64 (gl rs k).pos) = .int .i64 m := hm
   injection this with _ e
   rw [e]; exact hr
  exact ⟨b, lo, o, cs, h1, h3, g1, g3, g4, hr, by rw [List.getD_eq_getElem?_getD, g1]; rfl, by rw [List.getD_eq_getElem?_getD, g3]; rfl⟩
structure BinA where
 H : PH
 rv : Value
 rs : List RecM
 vs : List Value
 p : Int
noncomputable def cBin : Con where
 α := BinA
 β := Nat
 m := 1
 m' := 1
 pre := fun a => (∃ c, slAt a.H a.rv ksRec a.rs.length c (recR a.rs a.vs)) ∧ a.rs.length ≤ 400 ∧ SortedR a.rs ∧ 0 ≤ a.p ∧ a.p < 1000000000000
 args := fun a => [.a (.val a.rv), .a (.int .i64 a.p), .a (.fn 86)]
 hp := fun _ => []
 ro := fun a => [(0, .pool a.H)]
 post := fun a n => n ≤ a.rs.length ∧ (∀ k, k < n → (gl a.rs k).pos < a.p) ∧ ∀ k, n ≤ k → k < a.rs.length → a.p ≤ (gl a.rs k).pos
 res := fun a n => .tup [.a (.int .i64 n), .a (.bool (decide (n < a.rs.length) && decide ((gl a.rs n).pos = a.p)))]
 hp' := fun _ _ => []
def iBin (a : BinA) : An := .flat 3 (Nat × Nat) (fun s x => (s.int 9 x.1).int 10 x.2) (fun _ x => x.1 ≤ x.2 ∧ x.2 ≤ a.rs.length ∧ (∀ k, k < x.1 → (gl a.rs k).pos < a.p) ∧ ∀ k, x.2 ≤ k → k < a.rs.length → a.p ≤ (gl a.rs k).pos) (fun _ x => x.2 - x.1)
set_option maxHeartbeats 4000000 in
theorem bodyBin : fnBody (Y Tryz.prog) [] 85 cBin fun a => [(85, [iBin a], [])] := fnBody.of (p :=
 ∀ a : BinA, (∃ c : Nat, slAt a.H a.rv [CK.int IntKind.i64, CK.deep] a.rs.length c (recR a.rs a.vs)) ∧ a.rs.length ≤ 400 ∧ SortedR a.rs ∧ (0 : Int) ≤ a.p ∧ a.p < (1000000000000 : Int) → (∃ a_2 : Option Go.Addr, ∃ l c : Nat, a.rv = Value.slice a_2 l c ∧ l ≤ lenMax) ∧ (∃ a_2 : Nat × Nat, (↑(slLen a.rv) : Int) = (↑a_2.snd : Int) ∧ 0 = (↑a_2.fst : Int) ∧ (↑(slLen a.rv) : Int) = (↑(slLen a.rv) : Int) ∧ false = false ∧ (0 : Int) = 0 ∧ a.rv = a.rv ∧ a.p = a.p ∧ a.H = a.H ∧ (a_2.fst ≤ a_2.snd ∧ a_2.snd ≤ a.rs.length ∧ (∀ k : Nat, k < a_2.fst → (gl a.rs k).pos < a.p) ∧ ∀ k : Nat, a_2.snd ≤ k → k < a.rs.length → a.p ≤ (gl a.rs k).pos) ∧ True) ∧ ∀ a_2 : Nat × Nat, (a_2.fst ≤ a_2.snd ∧ a_2.snd ≤ a.rs.length ∧ (∀ k : Nat, k < a_2.fst → (gl a.rs k).pos < a.p) ∧ ∀ k : Nat, a_2.snd ≤ k → k < a.rs.length → a.p ≤ (gl a.rs k).pos) → (decide ((↑a_2.fst : Int) < (↑a_2.snd : Int)) = true → InR .i64 ((↑a_2.fst : Int) + (↑a_2.snd : Int)) ∧ (0 : Int) ≤ 1 ∧ ∃ b o : Nat, ∃ l c : Nat, a.rv = slv b o l c ∧ ((0 : Int) ≤ uw .i64 (uw .u64 ((↑a_2.fst : Int) + (↑a_2.snd : Int)) / (2 : Int)) ∧ uw .i64 (uw .u64 ((↑a_2.fst : Int) + (↑a_2.snd : Int)) / (2 : Int)) < (↑l : Int)) ∧ ∃ b_1 lo o_1 : Nat, ∃ cs : List Value, pv b (o + (uw .i64 (uw .u64 ((↑a_2.fst : Int) + (↑a_2.snd : Int)) / (2 : Int))).toNat * 2) = pv b_1 (lo + o_1) ∧ a.H b_1 = some (lo, cs) ∧ ((∃ v : Value, cs[o_1]? = some v ∧ ∃ n : Int, v = Value.int IntKind.i64 n ∧ InR .i64 n) ∧ (∃ v : Value, cs[o_1 + 1]? = some v ∧ v.oneCell' = true) ∧ True) ∧ (InR .i64 (toI (cs.getD o_1 (Value.tuple #[]))) → 
 InR .i64 (toI (cs.getD o_1 (Value.tuple #[])) - a.p) ∧ (decide ((bif false then max (bif true then max (toI (cs.getD o_1 (Value.tuple #[])) - a.p) (-1 : Int) else min (toI (cs.getD o_1 (Value.tuple #[])) - a.p) (-1 : Int)) (1 : Int) else min (bif true then max (toI (cs.getD o_1 (Value.tuple #[])) - a.p) (-1 : Int) else min (toI (cs.getD o_1 (Value.tuple #[])) - a.p) (-1 : Int)) (1 : Int)) < (0 : Int)) = true → InR .i64 (uw .i64 (uw .u64 ((↑a_2.fst : Int) + (↑a_2.snd : Int)) / (2 : Int)) + (1 : Int)) ∧ ∃ (a' : Nat × Nat), (↑a_2.snd : Int) = (↑a'.snd : Int) ∧ uw .i64 (uw .u64 ((↑a_2.fst : Int) + (↑a_2.snd : Int)) / (2 : Int)) + 1 = (↑a'.fst : Int) ∧ (↑(slLen a.rv) : Int) = (↑(slLen a.rv) : Int) ∧ false = false ∧ (0 : Int) = 0 ∧ a.rv = a.rv ∧ a.p = a.p ∧ a.H = a.H ∧ (a'.fst ≤ a'.snd ∧ a'.snd ≤ a.rs.length ∧ (∀ k : Nat, k < a'.fst → (gl a.rs k).pos < a.p) ∧ ∀ k : Nat, a'.snd ≤ k → k < a.rs.length → a.p ≤ (gl a.rs k).pos) ∧ a'.snd - a'.fst < a_2.snd - a_2.fst) ∧ (decide ((bif false then max (bif true then max (toI (cs.getD o_1 (Value.tuple #[])) - a.p) (-1 : Int) else min (toI (cs.getD o_1 (Value.tuple #[])) - a.p) (-1 : Int)) (1 : Int) else min (bif true then max (toI (cs.getD o_1 (Value.tuple #[])) - a.p) (-1 : Int) else min (toI (cs.getD o_1 (Value.tuple #[])) - a.p) (-1 : Int)) (1 : Int)) < (0 : Int)) = false → ∃ (a' : Nat × Nat), uw .i64 (uw .u64 ((↑a_2.fst : Int) + (↑a_2.snd : Int)) / (2 : Int)) = (↑a'.snd : Int) ∧ (↑a_2.fst : Int) = (↑a'.fst : Int) ∧ (↑(slLen a.rv) : Int) = (↑(slLen a.rv) : Int) ∧ 
 false = false ∧ (0 : Int) = 0 ∧ a.rv = a.rv ∧ a.p = a.p ∧ a.H = a.H ∧ (a'.fst ≤ a'.snd ∧ a'.snd ≤ a.rs.length ∧ (∀ k : Nat, k < a'.fst → (gl a.rs k).pos < a.p) ∧ ∀ k : Nat, a'.snd ≤ k → k < a.rs.length → a.p ≤ (gl a.rs k).pos) ∧ a'.snd - a'.fst < a_2.snd - a_2.fst))) ∧ (decide ((↑a_2.fst : Int) < (↑a_2.snd : Int)) = false → (decide ((↑a_2.fst : Int) < (↑(slLen a.rv) : Int)) = true → ∃ b o : Nat, ∃ l c : Nat, a.rv = slv b o l c ∧ (0 ≤ (↑a_2.fst : Int) ∧ (↑a_2.fst : Int) < (↑l : Int)) ∧ ∃ b_1 lo o_1 : Nat, ∃ cs : List Value, pv b (o + (↑a_2.fst : Int).toNat * 2) = pv b_1 (lo + o_1) ∧ a.H b_1 = some (lo, cs) ∧ ((∃ v : Value, cs[o_1]? = some v ∧ ∃ n : Int, v = Value.int IntKind.i64 n ∧ InR .i64 n) ∧ (∃ v : Value, cs[o_1 + 1]? = some v ∧ v.oneCell' = true) ∧ True) ∧ (InR .i64 (toI (cs.getD o_1 (Value.tuple #[]))) → InR .i64 (toI (cs.getD o_1 (Value.tuple #[])) - a.p) ∧ ∃ b : Nat, (↑a_2.fst : Int) = (↑b : Int) ∧ ((bif false then max (bif true then max (toI (cs.getD o_1 (Value.tuple #[])) - a.p) (-1 : Int) else min (toI (cs.getD o_1 (Value.tuple #[])) - a.p) (-1 : Int)) (1 : Int) else min (bif true then max (toI (cs.getD o_1 (Value.tuple #[])) - a.p) (-1 : Int) else min (toI (cs.getD o_1 (Value.tuple #[])) - a.p) (-1 : Int)) (1 : Int)) == (0 : Int)) = (decide (b < a.rs.length) && decide ((gl a.rs b).pos = a.p)) ∧ (b ≤ a.rs.length ∧ (∀ k : Nat, k < b → (gl a.rs k).pos < a.p) ∧ ∀ k : Nat, b ≤ k → k < a.rs.length → a.p ≤ (gl a.rs k).pos) ∧ True)) ∧ (decide ((↑a_2.fst : Int) < (↑(slLen a.rv) : Int)) = false → 
 ∃ b : Nat, (↑a_2.fst : Int) = (↑b : Int) ∧ false = (decide (b < a.rs.length) && decide ((gl a.rs b).pos = a.p)) ∧ (b ≤ a.rs.length ∧ (∀ k : Nat, k < b → (gl a.rs k).pos < a.p) ∧ ∀ k : Nat, b ≤ k → k < a.rs.length → a.p ≤ (gl a.rs k).pos) ∧ True))) (by kernel_rfl) (by
 rintro ⟨H, rv, rs, vs, p⟩ ⟨⟨c, hs⟩, h1, ⟨h2, h2'⟩, h3, h4⟩
 dsimp only at *
 obtain ⟨e1, _, _, e4, _, ⟨ea, e2⟩, _⟩ := slAt_len hs
 refine ⟨⟨ea, _, _, e2, by omega⟩, ⟨(0, rs.length), ?_⟩, fun x hx => ?_⟩
 ·rw [e1]
  (repeat' (first | apply And.intro | (intro _))) <;> first | with_reducible (first | rfl | trivial | assumption) | omega | with_reducible (first | exact RowsEq.refl _ _ _ | exact Nat.le_refl _) | (dsimp only [List.length_cons, List.length_nil] <;> omega) | (exfalso; dsimp only at *; omega)
 ·obtain ⟨i, j⟩ := x
  obtain ⟨x1, x2, x3, x4⟩ := hx
  dsimp only at *
  have hmid : uw .i64 (uw .u64 ((i : Int) + j) / 2) = (((i + j) / 2 : Nat) : Int) := by
   have e1 : uw .u64 ((i : Int) + j) = (i : Int) + j := by simp only [uw]; omega
   rw [e1]
   have e2 : ((i : Int) + j) / 2 = (((i + j) / 2 : Nat) : Int) := by omega
   rw [e2]
   exact wrap_of_InR (k := .i64) (by simp only [InR]; omega)
  refine ⟨fun c1 => ?_, fun c1 => ?_⟩
  ·have c1 : i < j := by have := of_decide_eq_true c1; omega
   obtain ⟨m, hm⟩ : ∃ m, m = (i + j) / 2 := ⟨_, rfl⟩
   rw [hmid, ← hm]
   have hmi : i ≤ m ∧ m < j := by omega
   obtain ⟨b, lo, o, cs, g1, g2, g3, g4, g5, g6, g7, g8⟩ := rec_at hs (k := m) (by omega)
   have hr := h2' m (by omega)
   refine ⟨by simp only [InR]; omega, by omega, _, _, _, _, g1, by omega, b, lo, o + m * 2, cs, by rw [Int.toNat_natCast, Nat.add_assoc], g2, ⟨⟨_, g3, _, rfl, g6⟩, ⟨_, g4, g5⟩, trivial⟩, fun _ => ?_⟩
   rw [g7]
   simp only [toI, cond_true, cond_false]
   refine ⟨by simp only [InR]; omega, fun c2 => ⟨by simp only [InR]; omega, (m + 1, j), ?_⟩, fun c2 => ⟨(i, m), ?_⟩⟩
   ·have c2 := of_decide_eq_true c2
    have hlt : (gl rs m).pos < p := by omega
    (repeat' (first | apply And.intro | (intro _))) <;> first | with_reducible (first | rfl | trivial | assumption) | omega | with_reducible (first | exact RowsEq.refl _ _ _ | exact Nat.le_refl _) | (dsimp only [List.length_cons, List.length_nil] <;> omega) | skip
    ·rename_i k hk
     by_cases hkm : k = m
     ·rw [hkm]; exact hlt
     ·have := h2 k m (by dsimp only at hk; omega) (by omega); omega
    ·rename_i k hk1 hk2; exact x4 k hk1 hk2
   ·have c2 := of_decide_eq_false c2
    have hge : p ≤ (gl rs m).pos := by omega
    (repeat' (first | apply And.intro | (intro _))) <;> first | with_reducible (first | rfl | trivial | assumption) | omega | with_reducible (first | exact RowsEq.refl _ _ _ | exact Nat.le_refl _) | (dsimp only [List.length_cons, List.length_nil] <;> omega) | skip
    ·rename_i k hk; exact x3 k hk
    ·rename_i k hk1 hk2
     by_cases hkm : k = m
     ·rw [hkm]; exact hge
     ·have := h2 m k (by dsimp only at hk1; omega) hk2; omega
  ·have c1 : i = j := by have := of_decide_eq_false c1; omega
   subst c1
   rw [e1]
   refine ⟨fun c2 => ?_, fun c2 => ⟨i, ?_⟩⟩
   ·have c2 : i < rs.length := by have := of_decide_eq_true c2; omega
    obtain ⟨b, lo, o, cs, g1, g2, g3, g4, g5, g6, g7, g8⟩ := rec_at hs (k := i) c2
    have hr := h2' i c2
    refine ⟨_, _, _, _, g1, by omega, b, lo, o + i * 2, cs, by rw [Int.toNat_natCast, Nat.add_assoc], g2, ⟨⟨_, g3, _, rfl, g6⟩, ⟨_, g4, g5⟩, trivial⟩, fun _ => ?_⟩
    rw [g7]
    simp only [toI, cond_true, cond_false]
    refine ⟨by simp only [InR]; omega, i, ?_⟩
    have hb : (min (max ((gl rs i).pos - p) (-1)) 1 == 0) = (decide (i < rs.length) && decide ((gl rs i).pos = p)) := by
     rw [Bool.eq_iff_iff]
     simp only [beq_iff_eq, Bool.and_eq_true, decide_eq_true_eq]
     omega
    (repeat' (first | apply And.intro | (intro _))) <;> first | with_reducible (first | rfl | trivial | assumption) | omega | with_reducible (first | exact RowsEq.refl _ _ _ | exact Nat.le_refl _) | (dsimp only [List.length_cons, List.length_nil] <;> omega) | exact hb | (rename_i k hk; exact x3 k hk) | (rename_i k hk1 hk2; exact x4 k hk1 hk2)
   ·have c2 : ¬ i < rs.length := by have := of_decide_eq_false c2; omega
    have hb : false = (decide (i < rs.length) && decide ((gl rs i).pos = p)) := by simp [c2]
    (repeat' (first | apply And.intro | (intro _))) <;> first | with_reducible (first | rfl | trivial | assumption) | omega | with_reducible (first | exact RowsEq.refl _ _ _ | exact Nat.le_refl _) | (dsimp only [List.length_cons, List.length_nil] <;> omega) | exact hb | (rename_i k hk; exact x3 k hk) | (rename_i k hk1 hk2; exact x4 k hk1 hk2))
theorem callBin : CallsBy (Y Tryz.prog).G.X 85 cBin := fn_ok okY (tab := []) trivial bodyBin

/-! ### a record is read -/

def findR (rs : List RecM) (p : Int) : Option (List Int) := (rs.find? fun r => decide (r.pos = p)).map (·.body)
def readTo (l : List SegM) (p : Int) : Option (List Int) := l.findSome? fun g => findR g.recs p
def errOf (o : Option (List Int)) : Int := match o with | some _ => 0 | none => 9
theorem drop_gl {α : Type} [Inhabited α] {l : List α} {k : Nat} (h : k < l.length) : l.drop k = gl l k :: l.drop (k + 1) := by
 rw [gl_eq h]; exact List.drop_eq_getElem_cons h
theorem find_at {α : Type} [Inhabited α] {q : α → Bool} : ∀ {l : List α} {n : Nat}, n < l.length → q (gl l n) = true → (∀ k, k < n → q (gl l k) = false) → l.find? q = some (gl l n)
 | [], n, h, _, _ => by simp at h
 | x :: l, 0, _, h, _ => by
  have h : q x = true := h
  simp [List.find?_cons, h, gl]
 | x :: l, n + 1, hn, h, hk => by
  have h0 : q x = false := hk 0 (by omega)
  have e : ∀ m, gl (x :: l) (m + 1) = gl l m := fun m => by simp [gl]
  rw [e] at h ⊢
  rw [List.find?_cons, h0]
  exact find_at (by simpa using hn) h fun k hkn => by have := hk (k + 1) (by omega); rwa [e] at this
theorem find_no {α : Type} [Inhabited α] {q : α → Bool} {l : List α} (h : ∀ k, k < l.length → q (gl l k) = false) : l.find? q = none := by
 rw [List.find?_eq_none]
 intro x hx
 obtain ⟨i, hi, rfl⟩ := List.getElem_of_mem hx
 have := h i hi
 rw [gl_eq hi] at this
 simp [this]
structure LRdA where
 H : PH
 y : LogL
 L : LogM
 p : Int
noncomputable def cLRead : Con where
 α := LRdA
 β := Nat
 m := 3
 m' := 4
 pre := fun a => LogAt a.H a.y a.L ∧ a.L.l.length < 1000 ∧ 0 ≤ a.p ∧ a.p < 1000000000000 ∧ ∀ i, i < a.L.l.length → SortedR (gl a.L.l i).recs ∧ (gl a.L.l i).recs.length ≤ 400 ∧ ∀ k, k < (gl a.L.l i).recs.length → 1 ≤ (gl (gl a.L.l i).recs k).body.length ∧ (gl (gl a.L.l i).recs k).body.length ≤ 1000
 args := fun a => [.a (.ptr 0 0 0 0), .a (.int .i64 a.p)]
 hp := fun _ => []
 ro := fun a => [(0, logObj 2 a.L a.y.lv), (1, .pool a.H)]
 post := fun a c => ((readTo a.L.l a.p).getD []).length ≤ c
 res := fun a c => .tup [.a (.slc 3 0 1 ((readTo a.L.l a.p).getD []).length c), .a (.int .i64 (errOf (readTo a.L.l a.p)))]
 hp' := fun a c => byteHp 3 ((readTo a.L.l a.p).getD [])
def iLRead (a : LRdA) : An := .flat 4 Nat (fun s k => s.int 17 k) (fun _ k => k ≤ a.L.l.length ∧ readTo (a.L.l.drop k) a.p = readTo a.L.l a.p) (fun _ k => a.L.l.length - k)
set_option maxHeartbeats 4000000 in
theorem bodyLRead : fnBody (Y Tryz.prog) [(85, cBin)] 68 cLRead fun a => [(68, [iLRead a], [])] := fnBody.of (p :=
 ∀ a : LRdA, (LogAt a.H a.y a.L ∧ a.L.l.length < 1000 ∧ (0 : Int) ≤ a.p ∧ a.p < (1000000000000 : Int) ∧ ∀ i : Nat, i < a.L.l.length → SortedR (gl a.L.l i).recs ∧ (gl a.L.l i).recs.length ≤ 400 ∧ ∀ k : Nat, k < (gl a.L.l i).recs.length → 1 ≤ (gl (gl a.L.l i).recs k).body.length ∧ (gl (gl a.L.l i).recs k).body.length ≤ 1000) → (∃ a_2 : Option Go.Addr, ∃ l c : Nat, a.y.lv = Value.slice a_2 l c ∧ l ≤ lenMax) ∧ (∃ a_2 : Nat, 0 = (↑a_2 : Int) ∧ (↑(slLen a.y.lv) : Int) = (↑(slLen a.y.lv) : Int) ∧ a.y.lv = a.y.lv ∧ false = false ∧ (0 : Int) = 0 ∧ 0 = 0 ∧ a.p = a.p ∧ 0 = 0 ∧ logQ a.L a.L a.y.lv a.y.lv (a.H = a.H ∧ (a_2 ≤ a.L.l.length ∧ readTo (List.drop a_2 a.L.l) a.p = readTo a.L.l a.p) ∧ True)) ∧ ∀ a_2 : Nat, a_2 ≤ a.L.l.length ∧ readTo (List.drop a_2 a.L.l) a.p = readTo a.L.l a.p → (decide ((↑a_2 : Int) < (↑(slLen a.y.lv) : Int)) = true → ∃ b o : Nat, ∃ l c : Nat, a.y.lv = slv b o l c ∧ (0 ≤ (↑a_2 : Int) ∧ (↑a_2 : Int) < (↑l : Int)) ∧ ∃ b_1 lo o_1 : Nat, ∃ cs : List Value, pv b (o + (↑a_2 : Int).toNat * 1) = pv b_1 (lo + o_1) ∧ a.H b_1 = some (lo, cs) ∧ ((∃ v : Value, cs[o_1]? = some v ∧ v.oneCell' = true) ∧ True) ∧ ∃ b o : Nat, cs.getD o_1 (Value.tuple #[]) = pv b o ∧ ∃ b_2 o_2 : Nat, pv b o = pv b_2 o_2 ∧ ∃ b lo o : Nat, ∃ cs_1 : List Value, pv b_2 (o_2 + 4) = pv b (lo + o) ∧ a.H b = some (lo, cs_1) ∧ ((∃ v : Value, cs_1[o]? = some v ∧ v.oneCell' = true) ∧ True) ∧ ∃ a_5 : BinA, cs_1.getD o (Value.tuple #[]) = a_5.rv ∧ a.p = a_5.p ∧ a.H = a_5.H ∧ ((∃ c : Nat, slAt a_5.H a_5.rv [CK.int IntKind.i64, CK.deep] a_5.rs.length c (recR a_5.rs a_5.vs)) ∧ 
 a_5.rs.length ≤ 400 ∧ SortedR a_5.rs ∧ (0 : Int) ≤ a_5.p ∧ a_5.p < (1000000000000 : Int)) ∧ ∀ b : Nat, (b ≤ a_5.rs.length ∧ (∀ k : Nat, k < b → (gl a_5.rs k).pos < a_5.p) ∧ ∀ k : Nat, b ≤ k → k < a_5.rs.length → a_5.p ≤ (gl a_5.rs k).pos) → ((decide (b < a_5.rs.length) && decide ((gl a_5.rs b).pos = a_5.p)) = true → ∃ b_3 o : Nat, cs.getD o_1 (Value.tuple #[]) = pv b_3 o ∧ ∃ b_4 o_3 : Nat, pv b_3 o = pv b_4 o_3 ∧ ∃ b_5 lo o : Nat, ∃ cs : List Value, pv b_4 (o_3 + 4) = pv b_5 (lo + o) ∧ a.H b_5 = some (lo, cs) ∧ ((∃ v : Value, cs[o]? = some v ∧ v.oneCell' = true) ∧ True) ∧ ∃ b_6 o_4 : Nat, ∃ l c : Nat, cs.getD o (Value.tuple #[]) = slv b_6 o_4 l c ∧ (0 ≤ (↑b : Int) ∧ (↑b : Int) < (↑l : Int)) ∧ ∃ b_7 o : Nat, pv b_6 (o_4 + (↑b : Int).toNat * 2) = pv b_7 o ∧ ∃ b lo o_5 : Nat, ∃ cs : List Value, pv b_7 (o + 1) = pv b (lo + o_5) ∧ a.H b = some (lo, cs) ∧ ((∃ v : Value, cs[o_5]? = some v ∧ v.oneCell' = true) ∧ True) ∧ (∃ a : Option Go.Addr, ∃ l c : Nat, cs.getD o_5 (Value.tuple #[]) = Value.slice a l c) ∧ (nilS (cs.getD o_5 (Value.tuple #[])) = true → ∃ b : Nat, (0 = ((readTo a.L.l a.p).getD []).length ∧ 0 = b) ∧ (0 : Int) = errOf (readTo a.L.l a.p) ∧ ((readTo a.L.l a.p).getD []).length = 0 ∧ ((readTo a.L.l a.p).getD []).length ≤ b ∧ True) ∧ (nilS (cs.getD o_5 (Value.tuple #[])) = false → 0 ≤ 0 ∧ ∃ l c : Nat, ∃ rows : Nat → Nat → Value, slAt a.H (cs.getD o_5 (Value.tuple #[])) [CK.int IntKind.u8] l c rows ∧ (0 + l) * 1 ≤ 140737488355328 ∧ ∀ cap : Nat, 0 + l ≤ cap → cap ≤ lenMax → (0 + l ≤ 0 → 
 cap = 0) → ∃ b : Nat, (0 = 0 ∧ 0 + l = ((readTo a.L.l a.p).getD []).length ∧ cap = b) ∧ (0 : Int) = errOf (readTo a.L.l a.p) ∧ (((readTo a.L.l a.p).getD []).length ≤ 0 + l ∧ RowsEq ((readTo a.L.l a.p).getD []).length 1 (appRows (flatRows 1 []) 0 0 rows) (encRows encB ((readTo a.L.l a.p).getD []))) ∧ ((readTo a.L.l a.p).getD []).length ≤ b ∧ True)) ∧ ((decide (b < a_5.rs.length) && decide ((gl a_5.rs b).pos = a_5.p)) = false → InR .i64 ((↑a_2 : Int) + 1) ∧ ∃ (a' : Nat), (↑a_2 : Int) + 1 = (↑a' : Int) ∧ (↑(slLen a.y.lv) : Int) = (↑(slLen a.y.lv) : Int) ∧ a.y.lv = a.y.lv ∧ false = false ∧ (0 : Int) = 0 ∧ 0 = 0 ∧ a.p = a.p ∧ 0 = 0 ∧ logQ a.L a.L a.y.lv a.y.lv (a.H = a.H ∧ (a' ≤ a.L.l.length ∧ readTo (List.drop a' a.L.l) a.p = readTo a.L.l a.p) ∧ a.L.l.length - a' < a.L.l.length - a_2))) ∧ (decide ((↑a_2 : Int) < (↑(slLen a.y.lv) : Int)) = false → ∃ b : Nat, (0 = ((readTo a.L.l a.p).getD []).length ∧ 0 = b) ∧ (9 : Int) = errOf (readTo a.L.l a.p) ∧ ((readTo a.L.l a.p).getD []).length = 0 ∧ ((readTo a.L.l a.p).getD []).length ≤ b ∧ True)) (by kernel_rfl) (by
 rintro ⟨H, y, L, p⟩ ⟨hl, h1, h2, h3, h4⟩
 dsimp only at *
 obtain ⟨e1, _, ⟨ea, ec, e2⟩, e3, _⟩ := hl.lv_len
 refine ⟨⟨ea, _, ec, e2, e3⟩, ⟨0, ?_⟩, fun k hk => ?_⟩
 ·(repeat' apply And.intro) <;> first | with_reducible (first | rfl | trivial | assumption) | omega | with_reducible (first | exact RowsEq.refl _ _ _ | exact Nat.le_refl _) | (dsimp only [List.length_cons, List.length_nil] <;> omega) | rfl
 ·obtain ⟨hk1, hk2⟩ := hk
  rw [e1]
  refine ⟨fun c1 => ?_, fun c1 => ⟨0, ?_⟩⟩
  ·have hk : k < L.l.length := by have := of_decide_eq_true c1; omega
   obtain ⟨b, lo, o, c, cs, g1, g2, g3, g4⟩ := hl.at_ hk
   have hs := hl.seg k hk
   obtain ⟨hso, hrl, hbl⟩ := h4 k hk
   obtain ⟨c9, hrec⟩ := hs.recs
   obtain ⟨m1, m2, m3, m4, m5, ⟨ma, m7⟩, m6⟩ := slAt_len hrec
   rw [drop_gl hk] at hk2
   simp only [readTo, List.findSome?_cons] at hk2
   refine ⟨_, _, _, _, g1, by omega, b, lo, o + k * 1, cs, by rw [Int.toNat_natCast, Nat.add_assoc], g2, ⟨⟨_, g3, rfl⟩, trivial⟩, ?_⟩
   refine ⟨_, _, g4, ?_⟩
   refine ⟨_, _, rfl, ?_⟩
   refine ⟨_, 0, _, _, rfl, hs.cell, ?_⟩
   refine ⟨⟨⟨_, rfl, m6⟩, trivial⟩, BinA.mk H (gl y.ys k).rv (gl L.l k).recs (gl y.ys k).vs p, ?_⟩
   (repeat' apply And.intro) <;> first | with_reducible (first | rfl | trivial | assumption) | omega | with_reducible (first | exact RowsEq.refl _ _ _ | exact Nat.le_refl _) | (dsimp only [List.length_cons, List.length_nil] <;> omega) | rfl | exact ⟨c9, hrec⟩ | exact hso | skip
   rintro n ⟨n1, n2, n3⟩
   dsimp only at n1 n2 n3 ⊢
   refine ⟨fun c2 => ?_, fun c2 => ⟨by simp only [InR]; omega, k + 1, ?_⟩⟩
   ·simp only [Bool.and_eq_true, decide_eq_true_eq] at c2
    obtain ⟨c2, c3⟩ := c2
    have hfind : findR (gl L.l k).recs p = some (gl (gl L.l k).recs n).body := by
     unfold findR
     rw [find_at (q := fun (r : RecM) => decide (r.pos = p)) c2 (by simp [c3]) fun q hq => by have := n2 q hq; simp; omega]
     rfl
    have hread : readTo L.l p = some (gl (gl L.l k).recs n).body := by
     rw [hfind] at hk2; simp only [readTo]; exact hk2.symm
    rw [hread]
    obtain ⟨b', lo', o', cs', q1, q2, q3, q4, q5, q6, q7, q8⟩ := rec_at hrec (k := n) c2
    obtain ⟨cb, hbody⟩ := hs.body n c2
    obtain ⟨w1, w2, w3, w4, w5, ⟨wa, w7⟩, w6⟩ := slAt_len hbody
    obtain ⟨hb1, hb2⟩ := hbl n c2
    refine ⟨_, _, g4, ?_⟩
    refine ⟨_, _, rfl, ?_⟩
    refine ⟨_, 0, _, _, rfl, hs.cell, ?_⟩
    refine ⟨⟨⟨_, rfl, m6⟩, trivial⟩, _, _, _, _, q1, by omega, _, _, rfl, b', lo', o' + n * 2 + 1, cs', by rw [Int.toNat_natCast]; congr 1; omega, q2, ⟨⟨_, q4, q5⟩, trivial⟩, ?_⟩
    rw [q8]
    have hnil : nilS ((gl y.ys k).vs.getD n undef) = false := by
     rcases hbody with ⟨_, h0, _⟩ | ⟨b9, lo9, o9, cs9, h9, _⟩
     ·omega
     ·rw [h9]; rfl
    refine ⟨⟨wa, _, _, w7⟩, fun c4 => absurd c4 (by rw [hnil]; decide), fun _ => ?_⟩
    repeat (first | refine And.intro (by omega) ?_ | refine And.intro (by dsimp only; omega) ?_ | refine And.intro (by simp only [InR]; omega) ?_)
    refine ⟨_, cb, _, hbody, ?_⟩
    repeat (first | refine And.intro (by omega) ?_ | refine And.intro (by dsimp only; omega) ?_ | refine And.intro (by simp only [InR]; omega) ?_)
    intro cap u1 u2 u3
    refine ⟨cap, ?_⟩
    have hrw : RowsEq (gl (gl L.l k).recs n).body.length 1 (appRows (flatRows 1 []) 0 0 (encRows encB (gl (gl L.l k).recs n).body)) (encRows encB (gl (gl L.l k).recs n).body) := ⟨fun i hi j hj => by
     simp only [appRows, Nat.not_lt_zero, if_false, Nat.sub_zero]⟩
    simp only [Nat.zero_add, Option.getD_some, errOf]
    (repeat' apply And.intro) <;> first | with_reducible (first | rfl | trivial | assumption) | omega | with_reducible (first | exact RowsEq.refl _ _ _ | exact Nat.le_refl _) | (dsimp only [List.length_cons, List.length_nil] <;> omega) | exact hrw
   ·have hnone : findR (gl L.l k).recs p = none := by
     unfold findR
     rw [find_no (q := fun (r : RecM) => decide (r.pos = p)) fun q hq => ?_]
     ·rfl
     ·simp only [decide_eq_false_iff_not]
      intro e
      rcases Nat.lt_or_ge q n with hqn | hqn
      ·have := n2 q hqn; omega
      ·by_cases hqe : q = n
       ·subst hqe
        simp [hq, e] at c2
       ·have := hso.lt n q (by omega) hq
        have := n3 n (Nat.le_refl _) (by omega)
        omega
    rw [hnone] at hk2
    (repeat' apply And.intro) <;> first | with_reducible (first | rfl | trivial | assumption) | omega | with_reducible (first | exact RowsEq.refl _ _ _ | exact Nat.le_refl _) | (dsimp only [List.length_cons, List.length_nil] <;> omega) | exact hk2
  ·have hkn : k = L.l.length := by have := of_decide_eq_false c1; omega
   subst hkn
   rw [List.drop_length] at hk2
   have : readTo L.l p = none := hk2.symm
   rw [this]
   (repeat' apply And.intro) <;> first | with_reducible (first | rfl | trivial | assumption) | omega | with_reducible (first | exact RowsEq.refl _ _ _ | exact Nat.le_refl _) | (dsimp only [List.length_cons, List.length_nil] <;> omega) | rfl)
def firstTo (l : List SegM) (next : Int) : Int := match l.find? (fun g => decide (0 < g.recs.length)) with | some g => (gl g.recs 0).pos | none => next
structure FstA where
 H : PH
 y : LogL
 L : LogM
noncomputable def cFirst : Con where
 α := FstA
 β := Unit
 m := 3
 m' := 3
 pre := fun a => LogAt a.H a.y a.L ∧ a.L.l.length < 1000
 args := fun a => [.a (.ptr 0 0 0 0)]
 hp := fun _ => []
 ro := fun a => [(0, logObj 2 a.L a.y.lv), (1, .pool a.H)]
 post := fun _ _ => True
 res := fun a _ => .a (.int .i64 (firstTo a.L.l a.L.next))
 hp' := fun _ _ => []
def iFirst (a : FstA) : An := .flat 4 Nat (fun s k => s.int 12 k) (fun _ k => k ≤ a.L.l.length ∧ firstTo (a.L.l.drop k) a.L.next = firstTo a.L.l a.L.next) (fun _ k => a.L.l.length - k)
set_option maxHeartbeats 4000000 in
theorem bodyFirst : fnBody (Y Tryz.prog) [] 61 cFirst fun a => [(61, [iFirst a], [])] := fnBody.of (p :=
 ∀ a : FstA, LogAt a.H a.y a.L ∧ a.L.l.length < 1000 → (∃ a_2 : Option Go.Addr, ∃ l c : Nat, a.y.lv = Value.slice a_2 l c ∧ l ≤ lenMax) ∧ (∃ a_2 : Nat, 0 = (↑a_2 : Int) ∧ (↑(slLen a.y.lv) : Int) = (↑(slLen a.y.lv) : Int) ∧ a.y.lv = a.y.lv ∧ false = false ∧ (0 : Int) = 0 ∧ 0 = 0 ∧ 0 = 0 ∧ logQ a.L a.L a.y.lv a.y.lv (a.H = a.H ∧ (a_2 ≤ a.L.l.length ∧ firstTo (List.drop a_2 a.L.l) a.L.next = firstTo a.L.l a.L.next) ∧ True)) ∧ ∀ a_2 : Nat, a_2 ≤ a.L.l.length ∧ firstTo (List.drop a_2 a.L.l) a.L.next = firstTo a.L.l a.L.next → (decide ((↑a_2 : Int) < (↑(slLen a.y.lv) : Int)) = true → ∃ b o : Nat, ∃ l c : Nat, a.y.lv = slv b o l c ∧ (0 ≤ (↑a_2 : Int) ∧ (↑a_2 : Int) < (↑l : Int)) ∧ ∃ b_1 lo o_1 : Nat, ∃ cs : List Value, pv b (o + (↑a_2 : Int).toNat * 1) = pv b_1 (lo + o_1) ∧ a.H b_1 = some (lo, cs) ∧ ((∃ v : Value, cs[o_1]? = some v ∧ v.oneCell' = true) ∧ True) ∧ ∃ b o : Nat, cs.getD o_1 (Value.tuple #[]) = pv b o ∧ ∃ b_2 o_2 : Nat, pv b o = pv b_2 o_2 ∧ ∃ b lo o : Nat, ∃ cs_1 : List Value, pv b_2 (o_2 + 4) = pv b (lo + o) ∧ a.H b = some (lo, cs_1) ∧ ((∃ v : Value, cs_1[o]? = some v ∧ v.oneCell' = true) ∧ True) ∧ (∃ a : Option Go.Addr, ∃ l c : Nat, cs_1.getD o (Value.tuple #[]) = Value.slice a l c ∧ l ≤ lenMax) ∧ (decide (0 < (↑(slLen (cs_1.getD o (Value.tuple #[]))) : Int)) = true → ∃ b o : Nat, cs.getD o_1 (Value.tuple #[]) = pv b o ∧ ∃ b_3 o_3 : Nat, pv b o = pv b_3 o_3 ∧ ∃ b lo o : Nat, ∃ cs : List Value, pv b_3 (o_3 + 4) = pv b (lo + o) ∧ a.H b = some (lo, cs) ∧ ((∃ v : Value, cs[o]? = some v ∧ 
 v.oneCell' = true) ∧ True) ∧ ∃ b o_4 : Nat, ∃ l c : Nat, cs.getD o (Value.tuple #[]) = slv b o_4 l c ∧ ((0 : Int) ≤ 0 ∧ 0 < (↑l : Int)) ∧ ∃ b_4 o : Nat, pv b (o_4 + 0) = pv b_4 o ∧ ∃ b lo o_5 : Nat, ∃ cs : List Value, pv b_4 (o + 0) = pv b (lo + o_5) ∧ a.H b = some (lo, cs) ∧ ((∃ v : Value, cs[o_5]? = some v ∧ ∃ n : Int, v = Value.int IntKind.i64 n ∧ InR .i64 n) ∧ True) ∧ (InR .i64 (toI (cs.getD o_5 (Value.tuple #[]))) → ∃ b : Unit, toI (cs.getD o_5 (Value.tuple #[])) = firstTo a.L.l a.L.next ∧ True ∧ True)) ∧ (decide (0 < (↑(slLen (cs_1.getD o (Value.tuple #[]))) : Int)) = false → InR .i64 ((↑a_2 : Int) + 1) ∧ ∃ (a' : Nat), (↑a_2 : Int) + 1 = (↑a' : Int) ∧ (↑(slLen a.y.lv) : Int) = (↑(slLen a.y.lv) : Int) ∧ a.y.lv = a.y.lv ∧ false = false ∧ (0 : Int) = 0 ∧ 0 = 0 ∧ 0 = 0 ∧ logQ a.L a.L a.y.lv a.y.lv (a.H = a.H ∧ (a' ≤ a.L.l.length ∧ firstTo (List.drop a' a.L.l) a.L.next = firstTo a.L.l a.L.next) ∧ a.L.l.length - a' < a.L.l.length - a_2))) ∧ (decide ((↑a_2 : Int) < (↑(slLen a.y.lv) : Int)) = false → InR .i64 a.L.next → ∃ b : Unit, a.L.next = firstTo a.L.l a.L.next ∧ True ∧ True)) (by kernel_rfl) (by
 rintro ⟨H, y, L⟩ ⟨hl, h1⟩
 dsimp only at *
 obtain ⟨e1, _, ⟨ea, ec, e2⟩, e3, _⟩ := hl.lv_len
 refine ⟨⟨ea, _, ec, e2, e3⟩, ⟨0, ?_⟩, fun k hk => ?_⟩
 ·(repeat' apply And.intro) <;> first | with_reducible (first | rfl | trivial | assumption) | omega | with_reducible (first | exact RowsEq.refl _ _ _ | exact Nat.le_refl _) | (dsimp only [List.length_cons, List.length_nil] <;> omega) | rfl
 ·obtain ⟨hk1, hk2⟩ := hk
  rw [e1]
  refine ⟨fun c1 => ?_, fun c1 _ => ⟨(), ?_⟩⟩
  ·have hk : k < L.l.length := by have := of_decide_eq_true c1; omega
   obtain ⟨b, lo, o, c, cs, g1, g2, g3, g4⟩ := hl.at_ hk
   have hs := hl.seg k hk
   obtain ⟨c9, hrec⟩ := hs.recs
   obtain ⟨m1, m2, m3, m4, m5, ⟨ma, m7⟩, m6⟩ := slAt_len hrec
   rw [drop_gl hk] at hk2
   simp only [firstTo, List.find?_cons] at hk2
   refine ⟨_, _, _, _, g1, by omega, b, lo, o + k * 1, cs, by rw [Int.toNat_natCast, Nat.add_assoc], g2, ⟨⟨_, g3, rfl⟩, trivial⟩, ?_⟩
   refine ⟨_, _, g4, ?_⟩
   refine ⟨_, _, rfl, ?_⟩
   refine ⟨_, 0, _, _, rfl, hs.cell, ?_⟩
   refine ⟨⟨⟨_, rfl, m6⟩, trivial⟩, ⟨ma, _, _, m7, by omega⟩, ?_⟩
   simp only [show (segC (gl L.l k) (gl y.ys k).bv (gl y.ys k).rv).getD 4 (Value.tuple #[]) = (gl y.ys k).rv from rfl, m1]
   refine ⟨fun c2 => ?_, fun c2 => ⟨by simp only [InR]; omega, k + 1, ?_⟩⟩
   ·have c2 : 0 < (gl L.l k).recs.length := by have := of_decide_eq_true c2; omega
    obtain ⟨b', lo', o', cs', q1, q2, q3, q4, q5, q6, q7, q8⟩ := rec_at hrec (k := 0) c2
    rw [decide_eq_true c2] at hk2
    refine ⟨_, _, g4, ?_⟩
    refine ⟨_, _, rfl, ?_⟩
    refine ⟨_, 0, _, _, rfl, hs.cell, ?_⟩
    refine ⟨⟨⟨_, rfl, m6⟩, trivial⟩, _, _, _, _, q1, by omega, _, _, rfl, b', lo', o', cs', rfl, q2, ⟨⟨_, q3, _, rfl, q6⟩, trivial⟩, fun _ => ⟨(), ?_⟩⟩
    have q7' : cs'.getD o' (Value.tuple #[]) = .int .i64 (gl (gl L.l k).recs 0).pos := q7
    rw [q7']
    (repeat' apply And.intro) <;> first | with_reducible (first | rfl | trivial | assumption) | omega | with_reducible (first | exact RowsEq.refl _ _ _ | exact Nat.le_refl _) | (dsimp only [List.length_cons, List.length_nil] <;> omega) | exact hk2
   ·have c2 : ¬ 0 < (gl L.l k).recs.length := by have := of_decide_eq_false c2; omega
    rw [decide_eq_false c2] at hk2
    (repeat' apply And.intro) <;> first | with_reducible (first | rfl | trivial | assumption) | omega | with_reducible (first | exact RowsEq.refl _ _ _ | exact Nat.le_refl _) | (dsimp only [List.length_cons, List.length_nil] <;> omega) | exact hk2
  ·have hkn : k = L.l.length := by have := of_decide_eq_false c1; omega
   subst hkn
   rw [List.drop_length] at hk2
   (repeat' apply And.intro) <;> first | with_reducible (first | rfl | trivial | assumption) | omega | with_reducible (first | exact RowsEq.refl _ _ _ | exact Nat.le_refl _) | (dsimp only [List.length_cons, List.length_nil] <;> omega) | exact hk2)
theorem callLRead : CallsBy (Y Tryz.prog).G.X 68 cLRead := fn_ok okY (tab := [(85, cBin)]) ⟨callBin, trivial⟩ bodyLRead
theorem callFirst : CallsBy (Y Tryz.prog).G.X 61 cFirst := fn_ok okY (tab := []) trivial bodyFirst

end Go.Proofs.YtfobhkibkdmglaaGreat

namespace Go.Proofs.YtfobhkibkdmglaaGreat
open Go.Sx
set_option maxRecDepth 100000
set_option linter.unusedVariables false
set_option linter.unusedSimpArgs false

def gB (f : Nat → Int) (r len : Nat) : Int := getTo (fun k => f (r + k)) len
def offS (i : Nat) : Nat := if i = 0 then 22 else 16
def takeG (g : SegM) (i : Nat) (f : Nat → Int) : SegM := if i = 0 then { g with gen := uw .i64 (gB f 4 6), base := uw .i64 (gB f 16 6) } else g
def takeB (g : SegM) (i : Nat) (f : Nat → Int) : Bool :=
 (sumB f == gB f 0 4) && ((uw .i64 (gB f 4 6) == (takeG g i f).gen) && (!decide (uw .i64 (gB f 10 4) < g.run) && ((f 14 == (i : Int)) && (decide (f 15 ≤ roomS i) && decide (g.buf.length = startS i)))))
def takeM (g : SegM) (i : Nat) (f : Nat → Int) : SegM :=
 if takeB g i f then { takeG g i f with run := uw .i64 (gB f 10 4), buf := g.buf ++ (List.range (f 15).toNat).map fun k => f (offS i + k) } else takeG g i f
/-- a segment's numbers are others -/
theorem seg_setint {X : PH} {y : SegL} {g g' : SegM} (h : SegNd X y g) (hb : g'.buf = g.buf) (hr : g'.recs = g.recs) (hg : InR .i64 g'.gen ∧ InR .i64 g'.base ∧ InR .i64 g'.run) :
 SegNd (pupd X y.b 0 (segC g' y.bv y.rv)) y g' ∧ Fr X y (pupd X y.b 0 (segC g' y.bv y.rv)) y := by
 obtain ⟨⟨n1, n2, n3⟩, _⟩ := nd_seg.1 h.nd
 refine ⟨⟨⟨pupd_self .., hg, ?_, ?_, by rw [hr]; exact h.at_.len, fun i hi => ?_⟩, h.nd⟩, fun x hx hn => ⟨pupd_ne fun e => hn (by rw [e]; exact List.mem_cons_self), hn⟩⟩
 ·rw [hb]; exact h.at_.buf.frame fun x hx => pupd_ne fun e => n1 (by rw [← e]; exact hx)
 ·rw [hr]
  obtain ⟨c, hc⟩ := h.at_.recs
  exact ⟨c, slAt_frame hc fun x hx => pupd_ne fun e => n2 (by rw [← e]; exact hx)⟩
 ·rw [hr] at hi ⊢
  refine (h.at_.body i hi).frame fun x hx => pupd_ne fun e => n3 ?_
  rw [← e]
  refine List.mem_flatMap.2 ⟨_, ?_, hx⟩
  have := h.at_.len
  rw [List.getD_eq_getElem?_getD, List.getElem?_eq_getElem (by omega)]
  exact List.getElem_mem _
structure TakeA where
 H : PH
 y : SegL
 g : SegM
 i : Nat
 f : Nat → Int
 cap : Nat
structure TakeR where
 H : PH
 y : SegL
noncomputable def cTake : Con where
 α := TakeA
 β := TakeR
 m := 2
 m' := 3
 pre := fun a => SegNd a.H a.y a.g ∧ a.i < 8 ∧ a.g.buf.length ≤ 378 ∧ 64 ≤ a.cap ∧ (takeB a.g a.i a.f = true → 0 < a.f 15)
 args := fun a => [.a (.val (pv a.y.b 0)), .a (.int .i64 a.i), .a (.slc 1 0 1 64 a.cap)]
 hp := fun a => [(0, .pool a.H)]
 ro := fun a => [(1, .arr 5 [.int .u8] 64 (rowsB a.f))]
 post := fun a b => SegNd b.H b.y (takeM a.g a.i a.f) ∧ b.y.b = a.y.b ∧ b.y.rv = a.y.rv ∧ Fr a.H a.y b.H b.y
 res := fun a _ => .a (.bool (takeB a.g a.i a.f))
 hp' := fun _ b => [(2, .pool b.H)]
def S.pool (s : S) (H : PH) : S := (s.put (s.hp.del (plTag s))).new (.pool H)
def iTakeC (a : TakeA) : An := .mk 5 PH (fun s H => S.pool (s.set 7 (.a (.slc (s.tg 2) (offS a.i) 1 (roomS a.i) (a.cap - offS a.i)))) H) (fun _ H => SegNd H a.y (takeG a.g a.i a.f) ∧ Fr a.H a.y H a.y) (fun _ _ => 0) fun _ => .mk 1000 [] []
set_option maxHeartbeats 4000000 in
theorem bodyTake : fnBody (Y Tryz.prog) [(70, cGet), (88, cCrc)] 71 cTake fun a => [(71, [], [iTakeC a])] := fnBody.of (p :=
 ∀ a : TakeA, SegNd a.H a.y a.g ∧ a.i < 8 ∧ a.g.buf.length ≤ 378 ∧ 64 ≤ a.cap ∧ (takeB a.g a.i a.f = true → (0 : Int) < a.f 15) → ((0 : Int) ≤ 16 ∧ (16 : Int) ≤ 64) ∧ ((((↑a.i : Int) == 0) = true → ((0 : Int) ≤ 10 ∧ 10 ≤ (↑a.cap : Int)) ∧ ((0 : Int) ≤ 4 ∧ (4 : Int) ≤ 10) ∧ ((0 : Int) ≤ 6 ∧ 6 ≤ (↑(a.cap - 16) : Int)) ∧ ∃ a_3 : GetA, (4 = a_3.r ∧ 6 = a_3.len ∧ a.cap - 4 = a_3.cap) ∧ (a_3.n ≤ 64 ∧ RowsEq a_3.n 1 (rowsB a.f) a_3.rows) ∧ (a_3.r + a_3.len ≤ a_3.n ∧ a_3.len ≤ 8) ∧ ∀ b : Unit, True → ∃ a_5 : GetA, (16 = a_5.r ∧ 6 = a_5.len ∧ a.cap - 16 - 0 = a_5.cap) ∧ (a_5.n ≤ 64 ∧ RowsEq a_5.n 1 (rowsB a.f) a_5.rows) ∧ (a_5.r + a_5.len ≤ a_5.n ∧ a_5.len ≤ 8) ∧ ∀ b : Unit, True → ∃ b o : Nat, pv a.y.b 0 = pv b o ∧ ∃ b_1 o_1 : Nat, pv b o = pv b_1 o_1 ∧ ∃ b lo o : Nat, ∃ cs : List Value, pv b_1 (o_1 + 0) = pv b (lo + o) ∧ a.H b = some (lo, cs) ∧ o + [A.int IntKind.i64 (uw .i64 (getTo (fun (i : Nat) => u8 a_3.rows (a_3.r + i)) a_3.len))].length ≤ cs.length ∧ ∃ b_2 o_2 : Nat, pv a.y.b 0 = pv b_2 o_2 ∧ ∃ b_3 o_3 : Nat, pv b_2 o_2 = pv b_3 o_3 ∧ ∃ b_4 lo_1 o_4 : Nat, ∃ cs_1 : List Value, pv b_3 (o_3 + 1) = pv b_4 (lo_1 + o_4) ∧ pupd a.H b lo (List.take o cs ++ [Value.int IntKind.i64 (uw .i64 (getTo (fun (i : Nat) => u8 a_3.rows (a_3.r + i)) a_3.len))] ++ List.drop (o + [Value.int IntKind.i64 (uw .i64 (getTo (fun (i : Nat) => u8 a_3.rows (a_3.r + i)) a_3.len))].length) cs) b_4 = some (lo_1, cs_1) ∧ o_4 + [A.int IntKind.i64 (uw .i64 (getTo (fun (i : Nat) => u8 a_5.rows (a_5.r + i)) a_5.len))].length ≤ cs_1.length ∧ 
 ((0 : Int) ≤ 6 ∧ (6 : Int) ≤ 48) ∧ ∃ a_7 : PH, (22 = offS a.i ∧ 42 = roomS a.i ∧ a.cap - 16 - 6 = a.cap - offS a.i) ∧ false = false ∧ pv a.y.b 0 = pv a.y.b 0 ∧ (↑a.i : Int) = (↑a.i : Int) ∧ (0 = 0 ∧ 64 = 64 ∧ a.cap = a.cap) ∧ pupd (pupd a.H b lo (List.take o cs ++ [Value.int IntKind.i64 (uw .i64 (getTo (fun (i : Nat) => u8 a_3.rows (a_3.r + i)) a_3.len))] ++ List.drop (o + [Value.int IntKind.i64 (uw .i64 (getTo (fun (i : Nat) => u8 a_3.rows (a_3.r + i)) a_3.len))].length) cs)) b_4 lo_1 (List.take o_4 cs_1 ++ [Value.int IntKind.i64 (uw .i64 (getTo (fun (i : Nat) => u8 a_5.rows (a_5.r + i)) a_5.len))] ++ List.drop (o_4 + [Value.int IntKind.i64 (uw .i64 (getTo (fun (i : Nat) => u8 a_5.rows (a_5.r + i)) a_5.len))].length) cs_1) = a_7 ∧ (64 ≤ 64 ∧ RowsEq 64 1 (rowsB a.f) (rowsB a.f)) ∧ (SegNd a_7 a.y (takeG a.g a.i a.f) ∧ Fr a.H a.y a_7 a.y) ∧ True) ∧ (((↑a.i : Int) == 0) = false → ∃ a_3 : PH, (16 = offS a.i ∧ 48 = roomS a.i ∧ a.cap - 16 = a.cap - offS a.i) ∧ false = false ∧ pv a.y.b 0 = pv a.y.b 0 ∧ (↑a.i : Int) = (↑a.i : Int) ∧ (0 = 0 ∧ 64 = 64 ∧ a.cap = a.cap) ∧ a.H = a_3 ∧ (64 ≤ 64 ∧ RowsEq 64 1 (rowsB a.f) (rowsB a.f)) ∧ (SegNd a_3 a.y (takeG a.g a.i a.f) ∧ Fr a.H a.y a_3 a.y) ∧ True)) ∧ ∀ a_2 : PH, SegNd a_2 a.y (takeG a.g a.i a.f) ∧ Fr a.H a.y a_2 a.y → ((0 : Int) ≤ 14 ∧ 14 ≤ (↑a.cap : Int)) ∧ ((0 : Int) ≤ 10 ∧ (10 : Int) ≤ 14) ∧ ∃ a_4 : GetA, (10 = a_4.r ∧ 4 = a_4.len ∧ a.cap - 10 = a_4.cap) ∧ (a_4.n ≤ 64 ∧ RowsEq a_4.n 1 (rowsB a.f) a_4.rows) ∧ (a_4.r + a_4.len ≤ a_4.n ∧ a_4.len ≤ 8) ∧ 
 ∀ b : Unit, True → ((0 : Int) ≤ 4 ∧ (4 : Int) ≤ 64) ∧ ((0 : Int) ≤ 4 ∧ 4 ≤ (↑a.cap : Int)) ∧ ∃ a_6 : CrcA, (0 = 0 ∧ 1 = 1 ∧ 1 = a_6.c) ∧ (4 = a_6.r ∧ 60 = a_6.len ∧ a.cap - 4 = a_6.cap) ∧ (a_6.n ≤ 64 ∧ RowsEq a_6.n 1 (rowsB a.f) a_6.rows) ∧ (a_6.r + a_6.len ≤ a_6.n ∧ a_6.len < 100000) ∧ ∀ b : Unit, True → ∃ a_8 : GetA, (0 = a_8.r ∧ 4 = a_8.len ∧ a.cap - 0 = a_8.cap) ∧ (a_8.n ≤ 64 ∧ RowsEq a_8.n 1 (rowsB a.f) a_8.rows) ∧ (a_8.r + a_8.len ≤ a_8.n ∧ a_8.len ≤ 8) ∧ ∀ b : Unit, True → ((ibits Go.BinOp.xor IntKind.u32 (4294967295 : Int) (crcTo (fun (i : Nat) => u8 a_6.rows (a_6.r + i)) a_6.len) != getTo (fun (i : Nat) => u8 a_8.rows (a_8.r + i)) a_8.len) = true → ∃ b : TakeR, false = takeB a.g a.i a.f ∧ a_2 = b.H ∧ (SegNd b.H b.y (takeM a.g a.i a.f) ∧ b.y.b = a.y.b ∧ b.y.rv = a.y.rv ∧ Fr a.H a.y b.H b.y) ∧ True) ∧ ((ibits Go.BinOp.xor IntKind.u32 (4294967295 : Int) (crcTo (fun (i : Nat) => u8 a_6.rows (a_6.r + i)) a_6.len) != getTo (fun (i : Nat) => u8 a_8.rows (a_8.r + i)) a_8.len) = false → ((0 : Int) ≤ 10 ∧ 10 ≤ (↑a.cap : Int)) ∧ ((0 : Int) ≤ 4 ∧ (4 : Int) ≤ 10) ∧ ∃ b o : Nat, pv a.y.b 0 = pv b o ∧ ∃ b_1 o_1 : Nat, pv b o = pv b_1 o_1 ∧ ∃ b lo o : Nat, ∃ cs : List Value, pv b_1 (o_1 + 0) = pv b (lo + o) ∧ a_2 b = some (lo, cs) ∧ ((∃ v : Value, cs[o]? = some v ∧ ∃ n : Int, v = Value.int IntKind.i64 n ∧ InR .i64 n) ∧ True) ∧ (InR .i64 (toI (cs.getD o (Value.tuple #[]))) → ∃ a_12 : GetA, (4 = a_12.r ∧ 6 = a_12.len ∧ a.cap - 4 = a_12.cap) ∧ (a_12.n ≤ 64 ∧ RowsEq a_12.n 1 (rowsB a.f) a_12.rows) ∧ 
 (a_12.r + a_12.len ≤ a_12.n ∧ a_12.len ≤ 8) ∧ ∀ b : Unit, True → ((uw .i64 (getTo (fun (i : Nat) => u8 a_12.rows (a_12.r + i)) a_12.len) != toI (cs.getD o (Value.tuple #[]))) = true → ∃ b : TakeR, false = takeB a.g a.i a.f ∧ a_2 = b.H ∧ (SegNd b.H b.y (takeM a.g a.i a.f) ∧ b.y.b = a.y.b ∧ b.y.rv = a.y.rv ∧ Fr a.H a.y b.H b.y) ∧ True) ∧ ((uw .i64 (getTo (fun (i : Nat) => u8 a_12.rows (a_12.r + i)) a_12.len) != toI (cs.getD o (Value.tuple #[]))) = false → ∃ b o : Nat, pv a.y.b 0 = pv b o ∧ ∃ b_2 o_2 : Nat, pv b o = pv b_2 o_2 ∧ ∃ b lo o : Nat, ∃ cs : List Value, pv b_2 (o_2 + 2) = pv b (lo + o) ∧ a_2 b = some (lo, cs) ∧ ((∃ v : Value, cs[o]? = some v ∧ ∃ n : Int, v = Value.int IntKind.i64 n ∧ InR .i64 n) ∧ True) ∧ (InR .i64 (toI (cs.getD o (Value.tuple #[]))) → (decide (uw .i64 (getTo (fun (i : Nat) => u8 a_4.rows (a_4.r + i)) a_4.len) < toI (cs.getD o (Value.tuple #[]))) = true → ∃ b : TakeR, false = takeB a.g a.i a.f ∧ a_2 = b.H ∧ (SegNd b.H b.y (takeM a.g a.i a.f) ∧ b.y.b = a.y.b ∧ b.y.rv = a.y.rv ∧ Fr a.H a.y b.H b.y) ∧ True) ∧ (decide (uw .i64 (getTo (fun (i : Nat) => u8 a_4.rows (a_4.r + i)) a_4.len) < toI (cs.getD o (Value.tuple #[]))) = false → ((0 : Int) ≤ 14 ∧ (14 : Int) < 64) ∧ 14 < 64 ∧ (InR .u8 (a.f 14) → ((a.f 14 != (↑a.i : Int)) = true → ∃ b : TakeR, false = takeB a.g a.i a.f ∧ a_2 = b.H ∧ (SegNd b.H b.y (takeM a.g a.i a.f) ∧ b.y.b = a.y.b ∧ b.y.rv = a.y.rv ∧ Fr a.H a.y b.H b.y) ∧ True) ∧ ((a.f 14 != (↑a.i : Int)) = false → ((0 : Int) ≤ 15 ∧ (15 : Int) < 64) ∧ 15 < 64 ∧ 
 (InR .u8 (a.f 15) → (decide ((↑(roomS a.i) : Int) < a.f 15) = true → ∃ b : TakeR, false = takeB a.g a.i a.f ∧ a_2 = b.H ∧ (SegNd b.H b.y (takeM a.g a.i a.f) ∧ b.y.b = a.y.b ∧ b.y.rv = a.y.rv ∧ Fr a.H a.y b.H b.y) ∧ True) ∧ (decide ((↑(roomS a.i) : Int) < a.f 15) = false → ∃ b o : Nat, pv a.y.b 0 = pv b o ∧ ∃ b_3 o_3 : Nat, pv b o = pv b_3 o_3 ∧ ∃ b lo o : Nat, ∃ cs : List Value, pv b_3 (o_3 + 3) = pv b (lo + o) ∧ a_2 b = some (lo, cs) ∧ ((∃ v : Value, cs[o]? = some v ∧ v.oneCell' = true) ∧ True) ∧ (∃ a : Option Go.Addr, ∃ l c : Nat, cs.getD o (Value.tuple #[]) = Value.slice a l c ∧ l ≤ lenMax) ∧ InR .i64 ((↑a.i : Int) * 48) ∧ InR .i64 ((↑a.i : Int) * 48 - (6 : Int)) ∧ (((↑(slLen (cs.getD o (Value.tuple #[]))) : Int) != bif true then max (0 : Int) ((↑a.i : Int) * 48 - (6 : Int)) else min (0 : Int) ((↑a.i : Int) * 48 - (6 : Int))) = true → ∃ b : TakeR, false = takeB a.g a.i a.f ∧ a_2 = b.H ∧ (SegNd b.H b.y (takeM a.g a.i a.f) ∧ b.y.b = a.y.b ∧ b.y.rv = a.y.rv ∧ Fr a.H a.y b.H b.y) ∧ True) ∧ (((↑(slLen (cs.getD o (Value.tuple #[]))) : Int) != bif true then max (0 : Int) ((↑a.i : Int) * 48 - (6 : Int)) else min (0 : Int) ((↑a.i : Int) * 48 - (6 : Int))) = false → ∃ b o : Nat, pv a.y.b 0 = pv b o ∧ ∃ b_4 o_4 : Nat, pv b o = pv b_4 o_4 ∧ ∃ b lo o : Nat, ∃ cs : List Value, pv b_4 (o_4 + 2) = pv b (lo + o) ∧ a_2 b = some (lo, cs) ∧ o + [A.int IntKind.i64 (uw .i64 (getTo (fun (i : Nat) => u8 a_4.rows (a_4.r + i)) a_4.len))].length ≤ cs.length ∧ ∃ b_5 o_5 : Nat, pv a.y.b 0 = pv b_5 o_5 ∧ 
 ∃ b_6 o_6 : Nat, pv b_5 o_5 = pv b_6 o_6 ∧ ∃ b_7 lo_1 o_7 : Nat, ∃ cs_1 : List Value, pv b_6 (o_6 + 3) = pv b_7 (lo_1 + o_7) ∧ pupd a_2 b lo (List.take o cs ++ [Value.int IntKind.i64 (uw .i64 (getTo (fun (i : Nat) => u8 a_4.rows (a_4.r + i)) a_4.len))] ++ List.drop (o + [Value.int IntKind.i64 (uw .i64 (getTo (fun (i : Nat) => u8 a_4.rows (a_4.r + i)) a_4.len))].length) cs) b_7 = some (lo_1, cs_1) ∧ ((∃ v : Value, cs_1[o_7]? = some v ∧ v.oneCell' = true) ∧ True) ∧ ((0 : Int) ≤ 15 ∧ (15 : Int) < 64) ∧ 15 < 64 ∧ (InR .u8 (a.f 15) → ((0 : Int) ≤ a.f 15 ∧ a.f 15 ≤ (↑(a.cap - offS a.i) : Int)) ∧ ∃ l c : Nat, ∃ rows : Nat → Nat → Value, slAt (pupd a_2 b lo (List.take o cs ++ [Value.int IntKind.i64 (uw .i64 (getTo (fun (i : Nat) => u8 a_4.rows (a_4.r + i)) a_4.len))] ++ List.drop (o + [Value.int IntKind.i64 (uw .i64 (getTo (fun (i : Nat) => u8 a_4.rows (a_4.r + i)) a_4.len))].length) cs)) (cs_1.getD o_7 (Value.tuple #[])) [CK.int IntKind.u8] l c rows ∧ 0 + l ≤ l ∧ offS a.i + 0 + ((a.f 15).toNat - 0) ≤ 64 ∧ (l + ((a.f 15).toNat - 0)) * 1 ≤ 140737488355328 ∧ ∀ cap : Nat, l + ((a.f 15).toNat - 0) ≤ cap → cap ≤ lenMax → (l + ((a.f 15).toNat - 0) ≤ c → cap = c) → (cap ≠ 0 ∧ 0 + (l + ((a.f 15).toNat - 0)) ≤ l + ((a.f 15).toNat - 0)) ∧ ∀ (b_8 lo_2 : Nat) (cs_2 : List Value), pminusV (pupd a_2 b lo (List.take o cs ++ [Value.int IntKind.i64 (uw .i64 (getTo (fun (i : Nat) => u8 a_4.rows (a_4.r + i)) a_4.len))] ++ List.drop (o + [Value.int IntKind.i64 (uw .i64 (getTo (fun (i : Nat) => u8 a_4.rows (a_4.r + i)) a_4.len))].length) cs)) (cs_1.getD o_7 (Value.tuple #[])) b_8 = none → 
 cs_2.length = cap * 1 → (PRows cs_2 0 [CK.int IntKind.u8] (l + ((a.f 15).toNat - 0)) fun (i j : Nat) => appRows rows 0 l (fun (i j : Nat) => Value.int IntKind.u8 (a.f (offS a.i + 0 + i))) (0 + i) j) → ∃ b_9 o_8 : Nat, pv a.y.b 0 = pv b_9 o_8 ∧ ∃ b_10 o_9 : Nat, pv b_9 o_8 = pv b_10 o_9 ∧ ∃ b_11 lo_3 o_10 : Nat, ∃ cs_3 : List Value, pv b_10 (o_9 + 3) = pv b_11 (lo_3 + o_10) ∧ pupd (pminusV (pupd a_2 b lo (List.take o cs ++ [Value.int IntKind.i64 (uw .i64 (getTo (fun (i : Nat) => u8 a_4.rows (a_4.r + i)) a_4.len))] ++ List.drop (o + [Value.int IntKind.i64 (uw .i64 (getTo (fun (i : Nat) => u8 a_4.rows (a_4.r + i)) a_4.len))].length) cs)) (cs_1.getD o_7 (Value.tuple #[]))) b_8 lo_2 cs_2 b_11 = some (lo_3, cs_3) ∧ o_10 + [A.val (slv b_8 lo_2 (l + ((a.f 15).toNat - 0)) cap)].length ≤ cs_3.length ∧ ∃ b_12 : TakeR, true = takeB a.g a.i a.f ∧ pupd (pupd (pminusV (pupd a_2 b lo (List.take o cs ++ [Value.int IntKind.i64 (uw .i64 (getTo (fun (i : Nat) => u8 a_4.rows (a_4.r + i)) a_4.len))] ++ List.drop (o + [Value.int IntKind.i64 (uw .i64 (getTo (fun (i : Nat) => u8 a_4.rows (a_4.r + i)) a_4.len))].length) cs)) (cs_1.getD o_7 (Value.tuple #[]))) b_8 lo_2 cs_2) b_11 lo_3 (List.take o_10 cs_3 ++ [Value.slice (some { block := b_8, off := lo_2 }) (l + ((a.f 15).toNat - 0)) cap] ++ List.drop (o_10 + [Value.slice (some { block := b_8, off := lo_2 }) (l + ((a.f 15).toNat - 0)) cap].length) cs_3) = b_12.H ∧ (SegNd b_12.H b_12.y (takeM a.g a.i a.f) ∧ b_12.y.b = a.y.b ∧ b_12.y.rv = a.y.rv ∧ Fr a.H a.y b_12.H b_12.y) ∧ 
 True)))))))))))) (by kernel_rfl) (by
 rintro ⟨H, y, g, i, f, cap⟩ ⟨hs, hi, hlen, hcap, hpos⟩
 dsimp only at *
 have eG : ∀ r len, getTo (fun i => u8 (rowsB f) (r + i)) len = gB f r len := fun _ _ => rfl
 have eS : ibits .xor .u32 4294967295 (crcTo (fun i => u8 (rowsB f) (4 + i)) 60) = sumB f := rfl
 obtain ⟨rg1, rg2, rg3⟩ := hs.at_.rng
 repeat (first | refine And.intro (by omega) ?_ | refine And.intro (by dsimp only; omega) ?_ | refine And.intro (by simp only [InR]; omega) ?_)
 refine ⟨⟨fun c1 => ?_, fun c1 => ?_⟩, ?_⟩
 ·have hi0 : i = 0 := by simpa using c1
  subst hi0
  repeat (first | refine And.intro (by omega) ?_ | refine And.intro (by dsimp only; omega) ?_ | refine And.intro (by simp only [InR]; omega) ?_)
  refine ⟨GetA.mk 4 6 (cap - 4) 64 (rowsB f), ?_⟩
  (repeat' apply And.intro) <;> first | with_reducible (first | rfl | trivial | assumption) | omega | with_reducible (first | exact RowsEq.refl _ _ _ | exact Nat.le_refl _) | (dsimp only [List.length_cons, List.length_nil] <;> omega) | skip
  intro _ _
  refine ⟨GetA.mk 16 6 (cap - 16 - 0) 64 (rowsB f), ?_⟩
  (repeat' apply And.intro) <;> first | with_reducible (first | rfl | trivial | assumption) | omega | with_reducible (first | exact RowsEq.refl _ _ _ | exact Nat.le_refl _) | (dsimp only [List.length_cons, List.length_nil] <;> omega) | skip
  intro _ _
  dsimp only
  simp only [eG]
  have s1 := seg_setint (g' := { g with gen := uw .i64 (gB f 4 6) }) hs rfl rfl ⟨InR_uw _ _, rg2, rg3⟩
  have s2 := seg_setint (g' := { g with gen := uw .i64 (gB f 4 6), base := uw .i64 (gB f 16 6) }) s1.1 rfl rfl ⟨InR_uw _ _, InR_uw _ _, rg3⟩
  refine ⟨_, _, rfl, ?_⟩
  refine ⟨_, _, rfl, ?_⟩
  refine ⟨_, 0, _, _, rfl, hs.at_.cell, by simp [segC], ?_⟩
  refine ⟨_, _, rfl, ?_⟩
  refine ⟨_, _, rfl, ?_⟩
  refine ⟨_, 0, _, _, rfl, s1.1.at_.cell, by simp [segC], ?_⟩
  repeat (first | refine And.intro (by omega) ?_ | refine And.intro (by dsimp only; omega) ?_ | refine And.intro (by simp only [InR]; omega) ?_)
  refine ⟨pupd (pupd H y.b 0 (segC { g with gen := uw .i64 (gB f 4 6) } y.bv y.rv)) y.b 0 (segC { g with gen := uw .i64 (gB f 4 6), base := uw .i64 (gB f 16 6) } y.bv y.rv), ?_⟩
  (repeat' apply And.intro) <;> first | with_reducible (first | rfl | trivial | assumption) | omega | with_reducible (first | exact RowsEq.refl _ _ _ | exact Nat.le_refl _) | (dsimp only [List.length_cons, List.length_nil] <;> omega) | exact s2.1 | exact s1.2.trans s2.2 | rfl | (simp only [offS, if_true]; omega) | skip
 ·have hi0 : i ≠ 0 := by simpa using c1
  refine ⟨H, ?_⟩
  have hg : takeG g i f = g := if_neg hi0
  rw [hg]
  (repeat' apply And.intro) <;> first | with_reducible (first | rfl | trivial | assumption) | omega | with_reducible (first | exact RowsEq.refl _ _ _ | exact Nat.le_refl _) | (dsimp only [List.length_cons, List.length_nil] <;> omega) | exact hs | exact fun x _ hn => ⟨rfl, hn⟩ | (simp only [offS, roomS, if_neg hi0]; done) | skip
 ·rintro X ⟨hX, hfr⟩
  obtain ⟨g1, hg1⟩ : ∃ g1, g1 = takeG g i f := ⟨_, rfl⟩
  have eb : g1.buf = g.buf := by rw [hg1]; unfold takeG; split <;> rfl
  have er : g1.run = g.run := by rw [hg1]; unfold takeG; split <;> rfl
  rw [← hg1] at hX
  obtain ⟨rx1, rx2, rx3⟩ := hX.at_.rng
  obtain ⟨b1, b2, b3, b4, ⟨ba, bc, b5⟩, b6⟩ := hX.at_.buf.len
  have hcell := hX.at_.cell
  repeat (first | refine And.intro (by omega) ?_ | refine And.intro (by dsimp only; omega) ?_ | refine And.intro (by simp only [InR]; omega) ?_)
  refine ⟨GetA.mk 10 4 (cap - 10) 64 (rowsB f), ?_⟩
  (repeat' apply And.intro) <;> first | with_reducible (first | rfl | trivial | assumption) | omega | with_reducible (first | exact RowsEq.refl _ _ _ | exact Nat.le_refl _) | (dsimp only [List.length_cons, List.length_nil] <;> omega) | skip
  intro _ _
  dsimp only
  simp only [eG]
  repeat (first | refine And.intro (by omega) ?_ | refine And.intro (by dsimp only; omega) ?_ | refine And.intro (by simp only [InR]; omega) ?_)
  refine ⟨CrcA.mk 1 4 60 (cap - 4) 64 (rowsB f), ?_⟩
  (repeat' apply And.intro) <;> first | with_reducible (first | rfl | trivial | assumption) | omega | with_reducible (first | exact RowsEq.refl _ _ _ | exact Nat.le_refl _) | (dsimp only [List.length_cons, List.length_nil] <;> omega) | skip
  intro _ _
  refine ⟨GetA.mk 0 4 (cap - 0) 64 (rowsB f), ?_⟩
  (repeat' apply And.intro) <;> first | with_reducible (first | rfl | trivial | assumption) | omega | with_reducible (first | exact RowsEq.refl _ _ _ | exact Nat.le_refl _) | (dsimp only [List.length_cons, List.length_nil] <;> omega) | skip
  intro _ _
  dsimp only
  simp only [eG, eS]
  refine ⟨fun c1 => ?_, fun c1 => ?_⟩
  ·have hF : takeB g i f = false := by
    unfold takeB
    rw [← hg1]
    have : (sumB f == gB f 0 4) = false := by simpa using c1
    rw [this]; rfl
   refine ⟨⟨X, y⟩, ?_⟩
   rw [hF, show takeM g i f = g1 by unfold takeM; rw [hF]; exact hg1.symm]
   (repeat' apply And.intro) <;> first | with_reducible (first | rfl | trivial | assumption) | omega | with_reducible (first | exact RowsEq.refl _ _ _ | exact Nat.le_refl _) | (dsimp only [List.length_cons, List.length_nil] <;> omega) | exact hX.at_ | exact hX | exact hfr | rfl
  ·have k1 : (sumB f == gB f 0 4) = true := by simpa using c1
   repeat (first | refine And.intro (by omega) ?_ | refine And.intro (by dsimp only; omega) ?_ | refine And.intro (by simp only [InR]; omega) ?_)
   refine ⟨_, _, rfl, ?_⟩
   refine ⟨_, _, rfl, ?_⟩
   refine ⟨_, 0, _, _, rfl, hcell, ?_⟩
   refine ⟨⟨⟨_, rfl, _, rfl, rx1⟩, trivial⟩, fun _ => ⟨GetA.mk 4 6 (cap - 4) 64 (rowsB f), ?_⟩⟩
   (repeat' apply And.intro) <;> first | with_reducible (first | rfl | trivial | assumption) | omega | with_reducible (first | exact RowsEq.refl _ _ _ | exact Nat.le_refl _) | (dsimp only [List.length_cons, List.length_nil] <;> omega) | skip
   intro _ _
   dsimp only
   simp only [eG, segC, List.getD_cons_zero, toI]
   refine ⟨fun c2 => ?_, fun c2 => ?_⟩
   ·have hF : takeB g i f = false := by
     unfold takeB
     rw [← hg1]
     have : (uw .i64 (gB f 4 6) == g1.gen) = false := by simpa using c2
     rw [this, Bool.false_and, Bool.and_false]
    refine ⟨⟨X, y⟩, ?_⟩
    rw [hF, show takeM g i f = g1 by unfold takeM; rw [hF]; exact hg1.symm]
    (repeat' apply And.intro) <;> first | with_reducible (first | rfl | trivial | assumption) | omega | with_reducible (first | exact RowsEq.refl _ _ _ | exact Nat.le_refl _) | (dsimp only [List.length_cons, List.length_nil] <;> omega) | exact hX.at_ | exact hX | exact hfr | rfl
   ·have k2 : (uw .i64 (gB f 4 6) == g1.gen) = true := by simpa using c2
    refine ⟨_, _, rfl, ?_⟩
    refine ⟨_, _, rfl, ?_⟩
    refine ⟨_, 0, _, _, rfl, hcell, ?_⟩
    refine ⟨⟨⟨_, rfl, _, rfl, rx3⟩, trivial⟩, fun _ => ?_⟩
    simp only [segC, List.getD_cons_zero, List.getD_cons_succ, toI]
    refine ⟨fun c3 => ?_, fun c3 => ?_⟩
    ·have hF : takeB g i f = false := by
      unfold takeB
      rw [← hg1]
      rw [← er, c3, k1, k2]; simp
     refine ⟨⟨X, y⟩, ?_⟩
     rw [hF, show takeM g i f = g1 by unfold takeM; rw [hF]; exact hg1.symm]
     (repeat' apply And.intro) <;> first | with_reducible (first | rfl | trivial | assumption) | omega | with_reducible (first | exact RowsEq.refl _ _ _ | exact Nat.le_refl _) | (dsimp only [List.length_cons, List.length_nil] <;> omega) | exact hX.at_ | exact hX | exact hfr | rfl
    ·repeat (first | refine And.intro (by omega) ?_ | refine And.intro (by dsimp only; omega) ?_ | refine And.intro (by simp only [InR]; omega) ?_)
     intro rg14
     refine ⟨fun c4 => ?_, fun c4 => ?_⟩
     ·have hF : takeB g i f = false := by
       unfold takeB
       rw [← hg1]
       have : (f 14 == (i : Int)) = false := by simpa using c4
       rw [this, Bool.false_and, Bool.and_false, Bool.and_false, Bool.and_false]
      refine ⟨⟨X, y⟩, ?_⟩
      rw [hF, show takeM g i f = g1 by unfold takeM; rw [hF]; exact hg1.symm]
      (repeat' apply And.intro) <;> first | with_reducible (first | rfl | trivial | assumption) | omega | with_reducible (first | exact RowsEq.refl _ _ _ | exact Nat.le_refl _) | (dsimp only [List.length_cons, List.length_nil] <;> omega) | exact hX.at_ | exact hX | exact hfr | rfl
     ·have k4 : (f 14 == (i : Int)) = true := by simpa using c4
      repeat (first | refine And.intro (by omega) ?_ | refine And.intro (by dsimp only; omega) ?_ | refine And.intro (by simp only [InR]; omega) ?_)
      intro rg15
      refine ⟨fun c5 => ?_, fun c5 => ?_⟩
      ·have hF : takeB g i f = false := by
        unfold takeB
        rw [← hg1]
        have c5 := of_decide_eq_true c5
        have : decide (f 15 ≤ roomS i) = false := by simp; omega
        rw [this, Bool.false_and, Bool.and_false, Bool.and_false, Bool.and_false, Bool.and_false]
       refine ⟨⟨X, y⟩, ?_⟩
       rw [hF, show takeM g i f = g1 by unfold takeM; rw [hF]; exact hg1.symm]
       (repeat' apply And.intro) <;> first | with_reducible (first | rfl | trivial | assumption) | omega | with_reducible (first | exact RowsEq.refl _ _ _ | exact Nat.le_refl _) | (dsimp only [List.length_cons, List.length_nil] <;> omega) | exact hX.at_ | exact hX | exact hfr | rfl
      ·have k5 : decide (f 15 ≤ roomS i) = true := by have := of_decide_eq_false c5; simp; omega
       refine ⟨_, _, rfl, ?_⟩
       refine ⟨_, _, rfl, ?_⟩
       refine ⟨_, 0, _, _, rfl, hcell, ?_⟩
       refine ⟨⟨⟨_, rfl, b6⟩, trivial⟩, ⟨ba, _, bc, b5, b3⟩, ?_⟩
       repeat (first | refine And.intro (by omega) ?_ | refine And.intro (by dsimp only; omega) ?_ | refine And.intro (by simp only [InR]; omega) ?_)
       simp only [segC, List.getD_cons_zero, List.getD_cons_succ, b1]
       have em2 : (bif true then max 0 ((i : Int) * 48 - 6) else min 0 ((i : Int) * 48 - 6)) = (startS i : Nat) := by simp only [cond_true, startS]; omega
       rw [em2]
       refine ⟨fun c6 => ?_, fun c6 => ?_⟩
       ·have hF : takeB g i f = false := by
         unfold takeB
         rw [← hg1]
         have c6 : g1.buf.length ≠ startS i := by intro e; rw [e] at c6; simp at c6
         have : decide (g.buf.length = startS i) = false := by rw [← eb]; simpa using c6
         rw [this, Bool.and_false, Bool.and_false, Bool.and_false, Bool.and_false, Bool.and_false]
        refine ⟨⟨X, y⟩, ?_⟩
        rw [hF, show takeM g i f = g1 by unfold takeM; rw [hF]; exact hg1.symm]
        (repeat' apply And.intro) <;> first | with_reducible (first | rfl | trivial | assumption) | omega | with_reducible (first | exact RowsEq.refl _ _ _ | exact Nat.le_refl _) | (dsimp only [List.length_cons, List.length_nil] <;> omega) | exact hX.at_ | exact hX | exact hfr | rfl
       ·have k6 : g1.buf.length = startS i := by
         have : (g1.buf.length : Int) = (startS i : Nat) := by simpa using c6
         omega
        have hT : takeB g i f = true := by
         unfold takeB
         rw [← hg1, k1, k2, ← er, c3, k4, k5, ← eb, k6]; simp
        have s1 := seg_setint (g' := { g1 with run := uw .i64 (gB f 10 4) }) hX rfl rfl ⟨rx1, rx2, InR_uw _ _⟩
        obtain ⟨X1, hX1⟩ : ∃ X1, X1 = pupd X y.b 0 (segC { g1 with run := uw .i64 (gB f 10 4) } y.bv y.rv) := ⟨_, rfl⟩
        rw [← hX1] at s1
        have hf15 : (f 15).toNat ≤ roomS i := by have := of_decide_eq_true k5; omega
        have hroom : offS i + roomS i = 64 := by unfold offS roomS; split <;> rfl
        have hroom2 : roomS i ≤ 48 := by unfold roomS; split <;> omega
        refine ⟨_, _, rfl, ?_⟩
        refine ⟨_, _, rfl, ?_⟩
        refine ⟨_, 0, _, _, rfl, hcell, by simp [segC], ?_⟩
        simp only [show pupd X y.b 0 (List.take 2 (segC g1 y.bv y.rv) ++ [Value.int .i64 (uw .i64 (gB f 10 4))] ++ List.drop (2 + [Value.int .i64 (uw .i64 (gB f 10 4))].length) (segC g1 y.bv y.rv)) = X1 from hX1.symm]
        refine ⟨_, _, rfl, ?_⟩
        refine ⟨_, _, rfl, ?_⟩
        refine ⟨_, 0, _, _, rfl, s1.1.at_.cell, ?_⟩
        refine ⟨⟨⟨_, rfl, b6⟩, trivial⟩, ?_⟩
        repeat (first | refine And.intro (by omega) ?_ | refine And.intro (by dsimp only; omega) ?_ | refine And.intro (by simp only [InR]; omega) ?_)
        intro _
        obtain ⟨c0, hbuf⟩ := s1.1.at_.buf
        simp only [InR] at rg15
        have hp15 := hpos hT
        simp only [show (segC { g1 with run := uw .i64 (gB f 10 4) } y.bv y.rv).getD 3 (Value.tuple #[]) = y.bv from rfl]
        repeat (first | refine And.intro (by omega) ?_ | refine And.intro (by dsimp only; omega) ?_ | refine And.intro (by simp only [InR]; omega) ?_)
        refine ⟨_, c0, _, hbuf, ?_⟩
        dsimp only
        rw [eb]
        repeat (first | refine And.intro (by omega) ?_ | refine And.intro (by dsimp only; omega) ?_ | refine And.intro (by simp only [InR]; omega) ?_)
        intro cap1 q1 q2 q3
        repeat (first | refine And.intro (by omega) ?_ | refine And.intro (by dsimp only; omega) ?_ | refine And.intro (by simp only [InR]; omega) ?_)
        intro p1 lo1 cs1 hp1 hl1 hr1
        have hB : Step X1 y.bv (pupd (pminusV X1 y.bv) p1 lo1 cs1) (slv p1 lo1 (g.buf.length + ((f 15).toNat - 0)) cap1) := app_step hp1
        have hlb : (g.buf ++ (List.range (f 15).toNat).map fun k => f (offS i + k)).length = g.buf.length + ((f 15).toNat - 0) := by simp
        have hBy : BytesAt (pupd (pminusV X1 y.bv) p1 lo1 cs1) (slv p1 lo1 (g.buf.length + ((f 15).toNat - 0)) cap1) (g.buf ++ (List.range (f 15).toNat).map fun k => f (offS i + k)) := by
         refine ⟨cap1, ?_⟩
         rw [hlb]
         refine slAt_new hl1 q1 q2 hr1 fun k hk j hj => ?_
         have hj0 : j = 0 := by simpa using hj
         subst hj0
         simp only [Nat.zero_add, appRows, encRows, encB, List.getD_cons_zero]
         by_cases hin : k < g.buf.length
         ·rw [if_pos hin, gl_append_left hin]
         ·rw [if_neg hin]
          obtain ⟨m, rfl⟩ : ∃ m, k = g.buf.length + m := ⟨k - g.buf.length, by omega⟩
          rw [gl_append_right, Nat.add_sub_cancel_left]
          have : gl ((List.range (f 15).toNat).map fun k => f (offS i + k)) m = f (offS i + m) := by
           rw [gl_eq (by simp; omega)]; simp
          rw [this, Nat.add_zero]
        obtain ⟨hc2, hs3, hf3⟩ := seg_setbuf s1.1 hB hBy
        refine ⟨_, _, rfl, ?_⟩
        refine ⟨_, _, rfl, ?_⟩
        refine ⟨_, 0, _, _, rfl, hc2, by simp [segC], ?_⟩
        have hM : takeM g i f = { g1 with run := uw .i64 (gB f 10 4), buf := g.buf ++ (List.range (f 15).toNat).map fun k => f (offS i + k) } := by
         unfold takeM
         rw [if_pos hT, ← hg1]
        refine ⟨⟨pupd (pupd (pminusV X1 y.bv) p1 lo1 cs1) y.b 0 (segC { g1 with run := uw .i64 (gB f 10 4), buf := g.buf ++ (List.range (f 15).toNat).map fun k => f (offS i + k) } (slv p1 lo1 (g.buf.length + ((f 15).toNat - 0)) cap1) y.rv), { y with bv := slv p1 lo1 (g.buf.length + ((f 15).toNat - 0)) cap1 }⟩, ?_⟩
        rw [hT, hM]
        refine And.intro (by first | trivial | rfl) (And.intro rfl (And.intro ⟨hs3, rfl, rfl, ?_⟩ trivial))
        exact (hfr.trans s1.2).trans hf3)
theorem callTake : CallsBy (Y Tryz.prog).G.X 71 cTake := fn_ok okY (tab := [(70, cGet), (88, cCrc)]) ⟨callGet, callCrc, trivial⟩ bodyTake

end Go.Proofs.YtfobhkibkdmglaaGreat
