/-
  The tables of the functions that are reached: their types, their regions' orders, the slots that live on; no condition.
-/
import Derived.Test.YtilphhafffakoaaProg
import Derived.Test.YtilphhafffakoaaSxY
namespace Go.Proofs.Ytilphhafffakoaa
open Go.Sx
set_option maxRecDepth 100000
namespace Tab
def T : List (Nat × TI) := [(2, ⟨1, 8, false, .int .i64, [.lit .i64 0], [.int .i64]⟩),
  (3, ⟨1, 8, false, .int .i64, [.lit .i64 0], [.int .i64]⟩),
  (4, ⟨1, 1, false, .bool, [.ff], [.bool]⟩),
  (9, ⟨1, 16, false, .str, [.str ⟨#[]⟩], [.str]⟩),
  (22, ⟨1, 24, false, .slc 31, [.snil], [.other]⟩),
  (24, ⟨1, 8, false, .ptr, [.nil], [.other]⟩),
  (26, ⟨1, 24, false, .slc 35, [.snil], [.other]⟩),
  (27, ⟨1, 8, false, .int .i64, [.lit .i64 0], [.int .i64]⟩),
  (29, ⟨6, 64, true, .struct [(0, 1), (1, 1), (2, 1), (3, 1), (4, 1), (5, 1)], [.lit .i64 0, .lit .i64 0, .str ⟨#[]⟩, .lit .i64 0, .str ⟨#[]⟩, .ff], [.int .i64, .int .i64, .str, .int .i64, .str, .bool]⟩),
  (31, ⟨12, 120, true, .struct [(0, 1), (1, 1), (2, 1), (3, 1), (4, 1), (5, 1), (6, 6)], [.lit .i64 0, .lit .i64 0, .lit .i64 0, .lit .i64 0, .lit .i64 0, .str ⟨#[]⟩, .lit .i64 0, .lit .i64 0, .str ⟨#[]⟩, .lit .i64 0, .str ⟨#[]⟩, .ff], [.int .i64, .int .i64, .int .i64, .int .i64, .int .i64, .str, .int .i64, .int .i64, .str, .int .i64, .str, .bool]⟩),
  (35, ⟨13, 128, true, .struct [(0, 1), (1, 1), (2, 1), (3, 1), (4, 1), (5, 1), (6, 1), (7, 6)], [.lit .i64 0, .lit .i64 0, .str ⟨#[]⟩, .lit .i64 0, .lit .i64 0, .lit .i64 0, .ff, .lit .i64 0, .lit .i64 0, .str ⟨#[]⟩, .lit .i64 0, .str ⟨#[]⟩, .ff], [.int .i64, .int .i64, .str, .int .i64, .int .i64, .int .i64, .bool, .int .i64, .int .i64, .str, .int .i64, .str, .bool]⟩),
  (36, ⟨1, 8, false, .ptr, [.nil], [.other]⟩),
  (42, ⟨1, 24, false, .slc 48, [.snil], [.other]⟩),
  (45, ⟨1, 24, false, .slc 3, [.snil], [.other]⟩),
  (46, ⟨1, 24, false, .slc 4, [.snil], [.other]⟩),
  (48, ⟨13, 128, true, .struct [(0, 1), (1, 1), (2, 1), (3, 1), (4, 1), (5, 1), (6, 1), (7, 6)], [.lit .i64 0, .lit .i64 0, .str ⟨#[]⟩, .lit .i64 0, .lit .i64 0, .lit .i64 0, .ff, .lit .i64 0, .lit .i64 0, .str ⟨#[]⟩, .lit .i64 0, .str ⟨#[]⟩, .ff], [.int .i64, .int .i64, .str, .int .i64, .int .i64, .int .i64, .bool, .int .i64, .int .i64, .str, .int .i64, .str, .bool]⟩),
  (51, ⟨1, 24, true, .struct [(0, 1)], [.snil], [.other]⟩),
  (52, ⟨1, 8, false, .ptr, [.nil], [.other]⟩)]
def ids : List Nat := [3, 4, 5, 6, 7, 8, 9, 10, 11, 12, 15, 14, 13, 17, 16]
def I : List (Nat × List Nat) := [(3, [0, 2, 3, 4, 5, 6, 7, 8, 9, 10, 11, 12, 13, 14, 15, 18, 27, 51, 55, 74, 108, 109, 124, 140, 156, 165, 198, 217, 221, 229, 235]), (4, [0, 1]), (5, [0, 1, 2, 6, 7, 8, 9, 10, 11, 12, 13, 14, 15, 16, 19, 26, 54, 57, 78, 91, 96, 158]), (6, [0, 1, 2, 3, 4, 5, 6, 9]), (7, [0]), (8, [0, 1, 4, 8]), (9, [0, 1, 2, 3, 4, 10, 11, 13]), (10, [0, 1, 2, 4, 6, 7, 24, 54]), (11, [0, 1, 2, 6, 7, 9, 11, 12, 13, 14, 32]), (12, [0, 2, 3, 5, 7, 8, 9, 10, 15]), (15, [0, 2, 4]), (14, [0, 2, 3, 4, 5, 9]), (13, [0, 1, 4, 5, 6, 7, 12, 16, 81]), (17, [0, 2, 4]), (16, [0, 1, 2, 3, 4])]
def R : List (Nat × List (Nat × RG)) := [(3, [(10, ⟨[(0, false), (1, false), (3, false), (4, false), (5, false), (7, false), (8, false), (9, false), (2, true), (11, false), (6, true), (10, true), (12, true), (13, false), (14, false), (15, true), (16, false), (17, false), (18, true)], [(18, 262143), (17, 131071), (16, 65535), (15, 32767), (14, 16383), (13, 8191), (12, 4095), (10, 1023), (6, 63), (11, 959), (2, 3), (9, 384), (8, 128), (7, 0), (5, 24), (4, 8), (3, 0), (1, 1), (0, 0)], 0⟩),
    (33, ⟨[(0, false), (1, false), (2, false), (3, false), (4, false), (5, false), (6, false), (7, false), (8, false), (9, true), (10, false), (11, true)], [(11, 2047), (10, 1023), (9, 271), (8, 15), (7, 112), (6, 48), (5, 16), (4, 0), (3, 7), (2, 3), (1, 1), (0, 0)], 0⟩),
    (34, ⟨[(0, false), (1, false), (2, false), (3, false), (4, false), (5, false), (6, false), (7, false), (8, false), (9, false), (10, false), (11, false), (12, false), (13, false), (14, false), (15, false), (16, false), (17, false), (18, false), (19, false), (20, false), (21, false), (22, false)], [(22, 4194303), (21, 2097151), (20, 950271), (19, 425983), (18, 163839), (17, 32767), (16, 65535), (15, 32767), (14, 16383), (13, 8191), (12, 4095), (11, 1855), (10, 831), (9, 319), (8, 63), (7, 127), (6, 63), (5, 31), (4, 15), (3, 7), (2, 3), (1, 1), (0, 0)], 0⟩),
    (36, ⟨[(0, false), (1, false), (2, false), (3, false), (4, false), (5, false), (6, false), (7, false), (8, true), (9, false), (10, false), (11, true), (12, false), (13, false), (14, true)], [(14, 16383), (13, 8191), (12, 4095), (11, 2011), (10, 987), (9, 475), (8, 193), (7, 65), (6, 1), (5, 0), (4, 8), (3, 0), (2, 0), (1, 0), (0, 0)], 0⟩),
    (17, ⟨[(0, false), (1, false), (2, false), (3, false), (4, false), (5, false), (6, false), (7, false), (8, false), (9, false), (10, false), (11, false), (12, false), (13, false)], [(13, 8191), (12, 4095), (11, 2047), (10, 1023), (9, 511), (8, 255), (7, 127), (6, 63), (5, 16), (4, 0), (3, 7), (2, 3), (1, 1), (0, 0)], 0⟩),
    (18, ⟨[(0, false), (1, false), (2, false), (3, false), (4, false), (5, false), (6, false), (7, false), (8, false), (9, false), (10, false), (11, false), (12, false), (13, false), (14, false), (15, false), (16, false), (17, false), (18, false), (19, false), (20, true), (21, false), (22, false), (23, true), (24, false), (25, false), (26, true)], [(26, 67108863), (25, 33554431), (24, 16777215), (23, 8257531), (22, 4063227), (21, 1966075), (20, 917473), (19, 393185), (18, 131041), (17, 131040), (16, 57344), (15, 24576), (14, 8192), (13, 0), (12, 3584), (11, 1536), (10, 512), (9, 0), (8, 224), (7, 96), (6, 32), (5, 0), (4, 8), (3, 0), (2, 0), (1, 0), (0, 0)], 0⟩)]),
  (4, []),
  (5, [(26, ⟨[(0, false), (1, false), (2, false), (3, false), (4, false), (5, false), (6, false), (7, false), (8, false), (9, false), (10, false), (11, false), (12, false), (13, false), (14, false), (15, false), (16, false), (17, false), (18, false), (19, false), (20, false), (21, false), (22, false), (23, false), (24, false), (25, false), (26, false), (27, false), (28, false), (29, false), (30, false), (31, false), (32, false), (33, false), (34, false), (35, false), (36, false), (37, false), (38, false), (39, false), (40, false), (41, false), (42, false), (43, false), (44, false), (45, false)], [(45, 35184372088831), (44, 17592186044415), (43, 8796093022207), (42, 4398046511103), (41, 2199023255551), (40, 1099511627775), (39, 549755813887), (38, 274877906943), (37, 137438953471), (36, 68719476735), (35, 34359738367), (34, 17179869183), (33, 8589934591), (32, 4294967295), (31, 2147483647), (30, 1073741823), (29, 536870911), (28, 268435455), (27, 134217727), (26, 67108863), (25, 33554431), (24, 16777215), (23, 8388607), (22, 4194303), (21, 2097151), (20, 1048575), (19, 524287), (18, 262143), (17, 32767), (16, 65535), (15, 32767), (14, 16383), (13, 8191), (12, 4095), (11, 2047), (10, 1020), (9, 508), (8, 12), (7, 124), (6, 60), (5, 12), (4, 12), (3, 4), (2, 0), (1, 1), (0, 0)], 0⟩)]),
  (6, [(6, ⟨[(0, false), (1, false), (3, false), (4, false), (2, true), (5, true), (6, false), (7, false)], [(7, 127), (6, 63), (5, 31), (2, 3), (4, 0), (3, 0), (1, 0), (0, 0)], 0⟩)]),
  (7, []),
  (8, []),
  (9, []),
  (10, [(1, ⟨[(0, false), (1, false), (2, false), (3, false), (4, false), (5, false), (6, false), (7, false), (8, false), (9, false), (10, false), (11, false), (12, false), (13, false), (14, false), (15, false), (16, false)], [(16, 65535), (15, 32767), (14, 15615), (13, 7423), (12, 3327), (11, 1279), (10, 255), (9, 511), (8, 255), (7, 127), (6, 63), (5, 31), (4, 15), (3, 7), (2, 3), (1, 1), (0, 0)], 0⟩),
    (3, ⟨[(0, false), (1, false), (2, false), (3, false), (4, false), (5, false), (6, false), (7, false), (8, false)], [(8, 255), (7, 127), (6, 48), (5, 16), (4, 0), (3, 7), (2, 3), (1, 1), (0, 0)], 0⟩),
    (4, ⟨[(0, false), (1, false), (2, false), (3, false), (4, false), (5, false), (6, false), (7, false), (8, false), (9, false), (10, false), (11, false), (12, false), (13, false), (14, false), (15, false), (16, false), (17, false), (18, false), (19, false), (20, false), (21, false)], [(21, 2097151), (20, 1048575), (19, 278527), (18, 16383), (17, 131071), (16, 65535), (15, 32767), (14, 16383), (13, 8191), (12, 4095), (11, 2047), (10, 543), (9, 31), (8, 255), (7, 127), (6, 63), (5, 31), (4, 15), (3, 7), (2, 3), (1, 1), (0, 0)], 0⟩),
    (6, ⟨[(0, false), (1, false), (2, false), (3, false), (4, false), (5, false), (6, false), (7, true), (8, false), (9, false), (10, true), (11, false), (12, false), (13, true)], [(13, 8191), (12, 4095), (11, 2047), (10, 1003), (9, 491), (8, 235), (7, 97), (6, 33), (5, 1), (4, 0), (3, 0), (2, 0), (1, 0), (0, 0)], 0⟩)]),
  (11, []),
  (12, []),
  (15, []),
  (14, []),
  (13, [(6, ⟨[(0, false), (1, false), (2, false), (3, false), (4, false), (5, false), (6, false), (7, false), (8, true), (9, true), (10, true), (11, true)], [(11, 2047), (10, 783), (9, 0), (8, 0), (7, 112), (6, 48), (5, 0), (4, 0), (3, 7), (2, 3), (1, 0), (0, 0)], 9⟩)]),
  (17, []),
  (16, [])]
end Tab
def Y (P : Program) : Gx := ⟨⟨⟨P, Tab.T, false, false⟩, fnTab P Tab.ids, Tab.I⟩, Tab.R⟩
theorem okT : Tab.T.map (fun p => mkTI Try.prog p.1) = Tab.T.map fun p => some p.2 := by kernel_rfl
theorem okB : (fnTab Try.prog Tab.ids).all (fnB Tab.R) = true := by kernel_rfl
theorem mixed : Try.prog.follows .mixedOrders = true := by kernel_rfl
theorem okY : (Y Try.prog).Ok := gx_ok okT mixed (fnTab_ok _ _) okB
/-- likewise, where all is known -/
def Yf (P : Program) : Gx := ⟨⟨⟨P, Tab.T, true, false⟩, fnTab P Tab.ids, Tab.I⟩, Tab.R⟩
theorem okYf : (Yf Try.prog).Ok := gx_ok okT mixed (fnTab_ok _ _) okB
end Go.Proofs.Ytilphhafffakoaa
