/-
  The tables of the functions that are reached: their types, their regions' orders, the slots that live on; no condition.
-/
import Derived.Test.YthgnaehfepcblaaProg
import Derived.Test.YthgnaehfepcblaaSxY
namespace Go.Proofs.Ythgnaehfepcblaa
open Go.Sx
set_option maxRecDepth 100000
namespace Tab
def Tf : List (Nat × TI) := [(2, ⟨1, 8, false, .int .i64, [.lit .i64 0], [.int .i64]⟩),
  (3, ⟨1, 8, false, .int .i64, [.lit .i64 0], [.int .i64]⟩),
  (4, ⟨1, 1, false, .bool, [.ff], [.bool]⟩),
  (9, ⟨1, 16, false, .str, [.str ⟨#[]⟩], [.str]⟩),
  (22, ⟨1, 24, false, .slc 28, [.snil], [.other]⟩),
  (24, ⟨1, 8, false, .ptr, [.nil], [.other]⟩),
  (26, ⟨1, 24, false, .slc 36, [.snil], [.other]⟩),
  (28, ⟨3, 40, true, .struct [(0, 1), (1, 1), (2, 1)], [.lit .i64 0, .lit .i64 0, .snil], [.int .i64, .int .i64, .other]⟩),
  (29, ⟨1, 8, false, .int .i64, [.lit .i64 0], [.int .i64]⟩),
  (31, ⟨4, 48, true, .struct [(0, 1), (1, 1), (2, 1), (3, 1)], [.str ⟨#[]⟩, .str ⟨#[]⟩, .lit .i64 0, .ff], [.str, .str, .int .i64, .bool]⟩),
  (32, ⟨1, 24, false, .slc 31, [.snil], [.other]⟩),
  (33, ⟨1, 24, false, .slc 56, [.snil], [.other]⟩),
  (34, ⟨1, 24, false, .slc 3, [.snil], [.other]⟩),
  (36, ⟨21, 256, true, .struct [(0, 1), (1, 1), (2, 1), (3, 1), (4, 1), (5, 1), (6, 1), (7, 1), (8, 1), (9, 1), (10, 1), (11, 1), (12, 4), (16, 1), (17, 1), (18, 1), (19, 1), (20, 1)], [.lit .i64 0, .lit .i64 0, .lit .i64 0, .lit .i64 0, .lit .i64 0, .lit .i64 0, .lit .i64 0, .lit .i64 0, .lit .i64 0, .str ⟨#[]⟩, .lit .i64 0, .ff, .str ⟨#[]⟩, .str ⟨#[]⟩, .lit .i64 0, .ff, .snil, .snil, .snil, .lit .i64 0, .snil], [.int .i64, .int .i64, .int .i64, .int .i64, .int .i64, .int .i64, .int .i64, .int .i64, .int .i64, .str, .int .i64, .bool, .str, .str, .int .i64, .bool, .other, .other, .other, .int .i64, .other]⟩),
  (51, ⟨1, 24, true, .struct [(0, 1)], [.snil], [.other]⟩),
  (56, ⟨2, 24, true, .struct [(0, 1), (1, 1)], [.lit .i64 0, .str ⟨#[]⟩], [.int .i64, .str]⟩),
  (70, ⟨1, 24, false, .slc 2, [.snil], [.other]⟩)]
def T : List (Nat × TI) := [(2, ⟨1, 8, false, .int .i64, [.lit .i64 0], [.int .i64]⟩),
  (3, ⟨1, 8, false, .int .i64, [.lit .i64 0], [.int .i64]⟩),
  (4, ⟨1, 1, false, .bool, [.ff], [.bool]⟩),
  (9, ⟨1, 16, false, .str, [.str ⟨#[]⟩], [.str]⟩),
  (22, ⟨1, 24, false, .slc 28, [.snil], [.deep]⟩),
  (24, ⟨1, 8, false, .ptr, [.nil], [.other]⟩),
  (26, ⟨1, 24, false, .slc 36, [.snil], [.deep]⟩),
  (28, ⟨3, 40, true, .struct [(0, 1), (1, 1), (2, 1)], [.lit .i64 0, .lit .i64 0, .snil], [.int .i64, .int .i64, .deep]⟩),
  (29, ⟨1, 8, false, .int .i64, [.lit .i64 0], [.int .i64]⟩),
  (31, ⟨4, 48, true, .struct [(0, 1), (1, 1), (2, 1), (3, 1)], [.str ⟨#[]⟩, .str ⟨#[]⟩, .lit .i64 0, .ff], [.str, .str, .int .i64, .bool]⟩),
  (32, ⟨1, 24, false, .slc 31, [.snil], [.deep]⟩),
  (33, ⟨1, 24, false, .slc 56, [.snil], [.deep]⟩),
  (34, ⟨1, 24, false, .slc 3, [.snil], [.deep]⟩),
  (36, ⟨21, 256, true, .struct [(0, 1), (1, 1), (2, 1), (3, 1), (4, 1), (5, 1), (6, 1), (7, 1), (8, 1), (9, 1), (10, 1), (11, 1), (12, 4), (16, 1), (17, 1), (18, 1), (19, 1), (20, 1)], [.lit .i64 0, .lit .i64 0, .lit .i64 0, .lit .i64 0, .lit .i64 0, .lit .i64 0, .lit .i64 0, .lit .i64 0, .lit .i64 0, .str ⟨#[]⟩, .lit .i64 0, .ff, .str ⟨#[]⟩, .str ⟨#[]⟩, .lit .i64 0, .ff, .snil, .snil, .snil, .lit .i64 0, .snil], [.int .i64, .int .i64, .int .i64, .int .i64, .int .i64, .int .i64, .int .i64, .int .i64, .int .i64, .str, .int .i64, .bool, .str, .str, .int .i64, .bool, .deep, .deep, .deep, .int .i64, .deep]⟩),
  (51, ⟨1, 24, true, .struct [(0, 1)], [.snil], [.deep]⟩),
  (56, ⟨2, 24, true, .struct [(0, 1), (1, 1)], [.lit .i64 0, .str ⟨#[]⟩], [.int .i64, .str]⟩),
  (70, ⟨1, 24, false, .slc 2, [.snil], [.deep]⟩)]
def ids : List Nat := [3, 4, 5, 6, 7, 8, 9, 10, 11, 12, 13, 14, 15, 16, 17, 18, 19, 20, 21, 22, 23, 24, 25, 26, 27, 28, 29, 30, 31, 32, 33, 34, 35, 36, 37, 38, 39, 40, 41]
def I : List (Nat × List Nat) := [(3, [0, 2, 3, 4, 5, 6, 7, 8, 9, 10, 11, 12, 13, 14, 15, 16, 17, 20, 29, 47, 53, 54, 67, 77, 91, 102, 103, 115, 147, 153, 170, 174, 193]), (4, [0, 1, 4, 5, 6, 7, 8, 9, 12, 26, 30, 41, 44]), (5, [0, 1, 2, 3, 4, 5, 6, 8, 9, 12, 17, 46]), (6, [0, 1, 3, 5]), (7, [0, 1, 4, 5, 6, 7, 8, 9, 10, 12, 13, 14, 15, 16, 17, 20, 26, 30, 45, 50, 84, 88, 104]), (8, [0, 1, 2, 3, 4, 5, 8]), (9, [0]), (10, [0, 1, 2, 3, 4, 25, 50, 58]), (11, [0, 1, 2, 3, 4, 5, 106, 153, 158, 167, 172, 209]), (12, [0, 1, 4, 5, 7, 9, 15, 16, 17, 18, 30]), (13, [0, 1, 4, 5, 13]), (14, [0, 1, 4, 5, 6, 7]), (15, [0, 1, 2, 3, 4, 93]), (16, [0, 1, 4, 12]), (17, [0, 2, 4]), (18, [0, 2, 3]), (19, [0, 1, 2, 3, 4, 9, 21, 33]), (20, [0, 1, 4, 8]), (21, [0, 1, 2]), (22, [0, 1, 4, 5, 6, 15]), (23, [0, 2]), (24, [0, 1, 2, 3, 4]), (25, [0, 1, 2]), (26, [0, 2, 3, 7, 37]), (27, [0, 2]), (28, [0, 1, 2, 48, 66]), (29, [0, 1, 2]), (30, [0, 1, 4, 5, 10, 14, 26]), (31, [0, 1, 4, 5, 10, 14, 40]), (32, [0, 1, 4, 5, 10, 14, 25]), (33, [0, 1, 2, 6, 7, 16]), (34, [0, 1, 4, 6, 7, 8, 9, 10, 19]), (35, [0, 1, 2, 22]), (36, [0, 1, 2, 3, 5, 7, 9, 10, 11, 12, 29, 34, 35, 36, 37, 42]), (37, [0, 2, 4]), (38, [0, 2, 4]), (39, [0, 2, 4]), (40, [0, 2]), (41, [0, 2, 3, 4, 5, 6, 7, 8, 30])]
def R : List (Nat × List (Nat × RG)) := [(3, [(34, ⟨[(0, false), (1, false), (2, false), (3, false), (4, false), (5, false), (6, false), (7, false), (8, false), (9, false), (10, false), (11, false), (12, true), (13, false), (14, false), (15, false), (16, false), (17, false), (18, false), (19, false), (20, false), (21, false), (22, false), (23, false), (24, false)], [(24, 16777215), (23, 8388607), (22, 4194303), (21, 2097151), (20, 1048575), (19, 524287), (18, 262143), (17, 131071), (16, 65535), (15, 32767), (14, 16383), (13, 8191), (12, 4095), (11, 1983), (10, 959), (9, 319), (8, 63), (7, 63), (6, 63), (5, 31), (4, 15), (3, 7), (2, 3), (1, 0), (0, 0)], 0⟩),
    (37, ⟨[(0, false), (1, false), (2, false), (3, false), (4, false), (5, false), (6, false), (7, false), (8, false), (9, false), (10, false), (11, true), (12, false)], [(12, 4095), (11, 2047), (10, 960), (9, 384), (8, 128), (7, 0), (6, 0), (5, 31), (4, 8), (3, 0), (2, 2), (1, 0), (0, 0)], 0⟩),
    (15, ⟨[(0, false), (1, false), (2, false), (3, false), (4, false), (5, false), (6, false), (7, false), (8, false), (9, false), (10, false), (11, true), (12, false)], [(12, 4095), (11, 2047), (10, 960), (9, 384), (8, 128), (7, 0), (6, 0), (5, 31), (4, 8), (3, 0), (2, 2), (1, 0), (0, 0)], 0⟩),
    (44, ⟨[(0, false), (1, false), (2, false), (3, false), (4, false), (5, false), (6, false), (7, false), (8, true), (9, false), (10, false)], [(10, 1023), (9, 511), (8, 255), (7, 119), (6, 55), (5, 7), (4, 7), (3, 7), (2, 3), (1, 1), (0, 0)], 0⟩)]),
  (4, []),
  (5, []),
  (6, []),
  (7, [(15, ⟨[(0, false), (1, false), (2, false), (3, false), (4, false), (7, false), (10, false), (5, true), (6, false), (8, true), (9, false), (11, true), (12, false), (13, false)], [(13, 8191), (12, 4095), (11, 1456), (9, 511), (8, 176), (6, 63), (5, 16), (10, 0), (7, 0), (4, 0), (3, 7), (2, 3), (1, 0), (0, 0)], 0⟩)]),
  (8, []),
  (9, []),
  (10, [(8, ⟨[(0, false), (1, false), (2, false), (3, false), (4, false), (5, false), (6, false), (7, false), (8, false), (9, false), (10, false), (11, false), (12, false), (13, true), (14, false), (15, true), (16, true), (17, false)], [(17, 131071), (16, 65535), (15, 32766), (14, 16382), (13, 8064), (12, 3968), (11, 1920), (10, 896), (9, 0), (8, 128), (7, 0), (6, 62), (5, 30), (4, 14), (3, 0), (2, 2), (1, 0), (0, 0)], 0⟩)]),
  (11, [(14, ⟨[(0, false), (1, false), (2, false), (3, false), (4, false), (5, false), (6, false), (7, false), (8, false), (9, false), (10, false), (11, true), (12, false), (13, false), (14, false), (15, false), (16, false), (17, false), (18, false), (19, false), (20, false), (21, false), (22, false), (23, false), (24, false), (25, false), (26, false), (27, false), (28, false), (29, false)], [(29, 536870911), (28, 268435455), (27, 134217727), (26, 66322431), (25, 32767999), (24, 15990783), (23, 4456447), (22, 262143), (21, 1310719), (20, 262143), (19, 524287), (18, 262143), (17, 131071), (16, 65535), (15, 32767), (14, 16383), (13, 8191), (12, 4095), (11, 2047), (10, 1023), (9, 511), (8, 255), (7, 127), (6, 63), (5, 31), (4, 15), (3, 7), (2, 3), (1, 1), (0, 0)], 0⟩)]),
  (12, [(8, ⟨[(0, false), (1, false), (2, false), (3, false), (4, false), (5, false), (6, true), (7, true), (8, true), (9, false), (10, false), (11, true)], [(11, 2047), (10, 1023), (9, 511), (8, 254), (7, 96), (6, 32), (5, 0), (4, 14), (3, 6), (2, 2), (1, 0), (0, 0)], 0⟩)]),
  (13, []),
  (14, []),
  (15, []),
  (16, []),
  (17, []),
  (18, []),
  (19, []),
  (20, []),
  (21, [(1, ⟨[(0, false), (1, false), (3, false), (4, false), (2, true), (6, false), (5, true), (7, true), (8, false), (9, true)], [(9, 511), (8, 255), (7, 127), (5, 31), (6, 31), (2, 3), (4, 8), (3, 0), (1, 1), (0, 0)], 0⟩)]),
  (22, []),
  (23, []),
  (24, []),
  (25, []),
  (26, [(4, ⟨[(0, false), (1, false), (2, false), (3, false), (4, false), (5, false), (6, false), (7, false), (8, false), (9, false), (10, false), (11, false), (12, false), (13, false), (14, false), (15, false), (16, false), (17, false), (18, false), (19, false), (20, false), (21, false), (22, false), (23, false), (24, false), (25, false), (26, false), (27, false)], [(27, 134217727), (26, 67108863), (25, 33554431), (24, 15794175), (23, 7405567), (22, 2162687), (21, 65535), (20, 65535), (19, 524287), (18, 262143), (17, 65535), (16, 65535), (15, 32767), (14, 16383), (13, 8191), (12, 4095), (11, 2047), (10, 1023), (9, 511), (8, 255), (7, 63), (6, 63), (5, 31), (4, 15), (3, 7), (2, 3), (1, 0), (0, 0)], 0⟩)]),
  (27, []),
  (28, []),
  (29, [(1, ⟨[(0, false), (1, false), (3, false), (4, false), (6, false), (7, false), (9, false), (10, false), (2, true), (12, false), (5, true), (8, true), (11, true), (13, true), (14, false), (15, true), (16, false), (17, true), (18, false), (19, true)], [(19, 524287), (18, 262143), (17, 131071), (16, 65535), (15, 32767), (14, 16383), (13, 8191), (11, 2047), (8, 255), (5, 31), (12, 1759), (2, 3), (10, 512), (9, 0), (7, 64), (6, 0), (4, 8), (3, 0), (1, 1), (0, 0)], 0⟩)]),
  (30, [(6, ⟨[(0, false), (1, false), (2, false), (3, false), (4, false), (5, false), (6, false), (7, false), (8, true), (9, false)], [(9, 511), (8, 255), (7, 112), (6, 48), (5, 0), (4, 0), (3, 7), (2, 3), (1, 0), (0, 0)], 0⟩)]),
  (31, [(6, ⟨[(0, false), (1, false), (2, false), (3, false), (4, false), (5, false), (6, false), (7, false), (8, false), (9, false), (10, false), (11, false), (12, false), (13, false), (14, false), (15, false), (16, false), (17, false), (18, false), (19, false), (20, false), (21, false), (22, false), (23, false)], [(23, 8388607), (22, 4194303), (21, 1970175), (20, 921599), (19, 397311), (18, 4095), (17, 4095), (16, 65535), (15, 32767), (14, 16383), (13, 4095), (12, 4095), (11, 2047), (10, 1023), (9, 480), (8, 224), (7, 96), (6, 0), (5, 0), (4, 15), (3, 7), (2, 3), (1, 0), (0, 0)], 0⟩)]),
  (32, [(6, ⟨[(0, false), (1, false), (2, false), (3, false), (4, false), (5, false), (6, false), (7, false), (8, false)], [(8, 255), (7, 112), (6, 48), (5, 0), (4, 0), (3, 7), (2, 3), (1, 0), (0, 0)], 0⟩)]),
  (33, [(5, ⟨[(0, false), (1, false), (2, false), (3, false), (4, false), (5, false), (6, true), (7, false)], [(7, 127), (6, 63), (5, 24), (4, 0), (3, 0), (2, 3), (1, 0), (0, 0)], 0⟩)]),
  (34, []),
  (35, []),
  (36, []),
  (37, []),
  (38, []),
  (39, []),
  (40, []),
  (41, [])]
end Tab
def Y (P : Program) : Gx := ⟨⟨⟨P, Tab.T, false, false⟩, fnTab P Tab.ids, Tab.I⟩, Tab.R⟩
theorem okT : Tab.T.map (fun p => mkTId true Try.prog p.1) = Tab.T.map fun p => some p.2 := by kernel_rfl
theorem okB : (fnTab Try.prog Tab.ids).all (fnB Tab.R) = true := by kernel_rfl
theorem mixed : Try.prog.follows .mixedOrders = true := by kernel_rfl
theorem okY : (Y Try.prog).Ok := gx_okd (dp := true) okT mixed (fnTab_ok _ _) okB
/-- likewise, where all is known -/
def Yf (P : Program) : Gx := ⟨⟨⟨P, Tab.Tf, true, false⟩, fnTab P Tab.ids, Tab.I⟩, Tab.R⟩
theorem okTf : Tab.Tf.map (fun p => mkTI Try.prog p.1) = Tab.Tf.map fun p => some p.2 := by kernel_rfl
theorem okYf : (Yf Try.prog).Ok := gx_ok okTf mixed (fnTab_ok _ _) okB
end Go.Proofs.Ythgnaehfepcblaa
