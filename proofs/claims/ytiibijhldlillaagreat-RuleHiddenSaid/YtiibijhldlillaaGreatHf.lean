/- Readings of sources. No condition. -/
import Derived.Test.YtiibijhldlillaaGreatHa
import Derived.Test.YtiibijhldlillaaGreatHc
import Derived.Test.YtiibijhldlillaaGreatHd
import Derived.Test.YtiibijhldlillaaGreatHe
namespace Go.Proofs.Tryz
open Go.Proofs.YtiibijhldlillaaGreat.Eng
set_option maxRecDepth 1000000
noncomputable def m6010 : Memo := ⟨[.str [73, 77, 80, 76, 69, 77, 69, 78, 84, 65, 84, 73, 79, 78, 32, 77, 79, 68, 85, 76, 69, 32, 77, 59, 32, 84, 89, 80, 69, 32, 84, 32, 61, 32, 80, 79, 73, 78, 84, 69, 82, 32, 84, 79, 32, 67, 72, 65, 82, 59, 32, 69, 78, 68, 32, 77, 46]], 6010, (.tup [(.ptr 6367 0), (.lit (.complex .f64 0 0)), (.int .i64 (0))]), [⟨6367, [[(.int .u8 (51)), (.lit (.complex .f64 4607182418800017408 4607182418800017408)), (.str [77]), (.int .i64 (0)), (.slc 6461 0 1 (.gap 0))]], 5, 59, false⟩, ⟨6461, [[(.ptr 6384 0)]], 1, 23, true⟩, ⟨6384, [[(.int .u8 (45)), (.lit (.complex .f64 4607182418800017408 4628011567076605952)), (.str []), (.int .i64 (0)), (.slc 6457 0 2 (.gap 0))]], 5, 59, false⟩, ⟨6457, [[(.ptr 6393 0)], [(.ptr 6455 0)]], 1, 23, true⟩, ⟨6393, [[(.int .u8 (41)), (.lit (.complex .f64 4607182418800017408 4629418941960159232)), (.str [84]), (.int .i64 (0)), (.slc 6436 0 1 (.gap 0))]], 5, 59, false⟩, ⟨6455, [[(.int .u8 (46)), (.lit (.complex .f64 4607182418800017408 4632515166703976448)), (.str []), (.int .i64 (0)), (.lit (.slice none 0 0))]], 5, 59, false⟩, ⟨6436, [[(.ptr 6407 0)]], 1, 23, true⟩, ⟨6407, [[(.int .u8 (32)), (.lit (.complex .f64 4607182418800017408 4630122629401935872)), (.str []), (.int .i64 (0)), (.slc 6434 0 1 (.gap 0))]], 5, 59, false⟩, ⟨6434, [[(.ptr 6425 0)]], 1, 23, true⟩, ⟨6425, [[(.int .u8 (20)), (.lit (.complex .f64 4607182418800017408 4631670741773844480)), (.str []), (.int .i64 (0)), (.slc 6432 0 1 (.gap 0))]], 5, 59, false⟩, ⟨6432, [[(.ptr 6428 0)]], 1, 23, true⟩, ⟨6428, [[(.int .u8 (1)), (.lit (.complex .f64 4607182418800017408 4631670741773844480)), (.str [67, 72, 65, 82]), (.int .i64 (0)), (.lit (.slice none 0 0))]], 5, 59, false⟩], 6467⟩
theorem m6010_ok : memB m6010 (run B0 1000000 (.fn 5 m6010.args ⟨.leaf, m6010.c0, []⟩)) = true := by kernel_rfl
noncomputable def m9010 : Memo := ⟨[.str [77, 79, 68, 85, 76, 69, 32, 97, 59, 32, 66, 69, 71, 73, 78, 32, 69, 88, 73, 84, 32, 69, 78, 68, 32, 97, 46]], 9010, (.tup [(.ptr 9205 0), (.lit (.complex .f64 0 0)), (.int .i64 (0))]), [⟨9205, [[(.int .u8 (52)), (.lit (.complex .f64 4607182418800017408 4607182418800017408)), (.str [97]), (.int .i64 (0)), (.slc 9274 0 1 (.gap 0))]], 5, 59, false⟩, ⟨9274, [[(.ptr 9222 0)]], 1, 23, true⟩, ⟨9222, [[(.int .u8 (45)), (.lit (.complex .f64 4607182418800017408 4622382067542392832)), (.str []), (.int .i64 (0)), (.slc 9270 0 1 (.gap 0))]], 5, 59, false⟩, ⟨9270, [[(.ptr 9236 0)]], 1, 23, true⟩, ⟨9236, [[(.int .u8 (46)), (.lit (.complex .f64 4607182418800017408 4625478292286210048)), (.str []), (.int .i64 (0)), (.slc 9266 0 1 (.gap 0))]], 5, 59, false⟩, ⟨9266, [[(.ptr 9264 0)]], 1, 23, true⟩, ⟨9264, [[(.int .u8 (67)), (.lit (.complex .f64 4607182418800017408 4625478292286210048)), (.str []), (.int .i64 (0)), (.lit (.slice none 0 0))]], 5, 59, false⟩], 9280⟩
theorem m9010_ok : memB m9010 (run B0 1000000 (.fn 5 m9010.args ⟨.leaf, m9010.c0, []⟩)) = true := by kernel_rfl
noncomputable def m45000 : Memo := ⟨[.str [68, 69, 70, 73, 78, 73, 84, 73, 79, 78, 32, 77, 79, 68, 85, 76, 69, 32, 77, 59, 32, 84, 89, 80, 69, 32, 84, 59, 32, 80, 82, 79, 67, 69, 68, 85, 82, 69, 32, 112, 40, 41, 58, 32, 84, 59, 32, 69, 78, 68, 32, 77, 46]], 45000, (.tup [(.ptr 45395 0), (.lit (.complex .f64 0 0)), (.int .i64 (0))]), [⟨45395, [[(.int .u8 (50)), (.lit (.complex .f64 4607182418800017408 4607182418800017408)), (.str [77]), (.int .i64 (0)), (.slc 45468 0 2 (.gap 0))]], 5, 59, false⟩, ⟨45468, [[(.ptr 45417 0)], [(.ptr 45442 0)]], 1, 23, true⟩, ⟨45417, [[(.int .u8 (41)), (.lit (.complex .f64 4607182418800017408 4628293042053316608)), (.str [84]), (.int .i64 (0)), (.slc 45422 0 1 (.gap 0))]], 5, 59, false⟩, ⟨45442, [[(.int .u8 (43)), (.lit (.complex .f64 4607182418800017408 4629137466983448576)), (.str [112]), (.int .i64 (0)), (.slc 45445 0 1 (.gap 0))]], 5, 59, false⟩, ⟨45422, [[(.ptr 45420 0)]], 1, 23, true⟩, ⟨45445, [[(.ptr 45443 0)]], 1, 23, true⟩, ⟨45420, [[(.int .u8 (0)), (.lit (.complex .f64 0 0)), (.str []), (.int .i64 (0)), (.lit (.slice none 0 0))]], 5, 59, false⟩, ⟨45443, [[(.int .u8 (33)), (.lit (.complex .f64 4607182418800017408 4629137466983448576)), (.str []), (.int .i64 (0)), (.slc 45464 0 1 (.gap 0))]], 5, 59, false⟩, ⟨45464, [[(.ptr 45455 0)]], 1, 23, true⟩, ⟨45455, [[(.int .u8 (20)), (.lit (.complex .f64 4607182418800017408 4631530004285489152)), (.str []), (.int .i64 (0)), (.slc 45462 0 1 (.gap 0))]], 5, 59, false⟩, ⟨45462, [[(.ptr 45458 0)]], 1, 23, true⟩, ⟨45458, [[(.int .u8 (1)), (.lit (.complex .f64 4607182418800017408 4631530004285489152)), (.str [84]), (.int .i64 (0)), (.lit (.slice none 0 0))]], 5, 59, false⟩], 45484⟩
theorem m45000_ok : memB m45000 (run B0 1000000 (.fn 5 m45000.args ⟨.leaf, m45000.c0, []⟩)) = true := by kernel_rfl

open Go.Proofs.YtiibijhldlillaaGreat.Eng
noncomputable def memos : List Memo := [m3000, m6000, m9000, m6001, m9001, m6002, m9002, m6003, m9003, m6004, m9004, m6005, m9005, m6006, m9006, m6007, m9007, m3001, m6010, m9010, m45000]
theorem reads_all : ∀ m ∈ memos, memB m (run B0 1000000 (.fn 5 m.args ⟨.leaf, m.c0, []⟩)) = true := by
  intro m h
  rcases List.mem_cons.1 h with rfl | h
  · exact m3000_ok
  rcases List.mem_cons.1 h with rfl | h
  · exact m6000_ok
  rcases List.mem_cons.1 h with rfl | h
  · exact m9000_ok
  rcases List.mem_cons.1 h with rfl | h
  · exact m6001_ok
  rcases List.mem_cons.1 h with rfl | h
  · exact m9001_ok
  rcases List.mem_cons.1 h with rfl | h
  · exact m6002_ok
  rcases List.mem_cons.1 h with rfl | h
  · exact m9002_ok
  rcases List.mem_cons.1 h with rfl | h
  · exact m6003_ok
  rcases List.mem_cons.1 h with rfl | h
  · exact m9003_ok
  rcases List.mem_cons.1 h with rfl | h
  · exact m6004_ok
  rcases List.mem_cons.1 h with rfl | h
  · exact m9004_ok
  rcases List.mem_cons.1 h with rfl | h
  · exact m6005_ok
  rcases List.mem_cons.1 h with rfl | h
  · exact m9005_ok
  rcases List.mem_cons.1 h with rfl | h
  · exact m6006_ok
  rcases List.mem_cons.1 h with rfl | h
  · exact m9006_ok
  rcases List.mem_cons.1 h with rfl | h
  · exact m6007_ok
  rcases List.mem_cons.1 h with rfl | h
  · exact m9007_ok
  rcases List.mem_cons.1 h with rfl | h
  · exact m3001_ok
  rcases List.mem_cons.1 h with rfl | h
  · exact m6010_ok
  rcases List.mem_cons.1 h with rfl | h
  · exact m9010_ok
  rcases List.mem_cons.1 h with rfl | h
  · exact m45000_ok
  cases h
end Go.Proofs.Tryz
