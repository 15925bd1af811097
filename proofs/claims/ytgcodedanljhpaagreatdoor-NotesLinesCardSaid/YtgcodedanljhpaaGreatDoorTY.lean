/- The types of the program of the seat, as operations ask for them. -/
import Derived.Test.YtgcodedanljhpaaGreatDoorAcLib
import Derived.Test.YtgcodedanljhpaaGreatDoorAcFz
import Derived.Test.YtgcodedanljhpaaGreatDoorAcStr
import Derived.Test.YtgcodedanljhpaaGreatDoorProg
set_option linter.unusedSimpArgs false
set_option linter.unusedVariables false
set_option maxRecDepth 100000
set_option maxHeartbeats 8000000
namespace Go.Ab
open Go Go.Proofs
noncomputable def cx : Ctx := ⟨Tryz.prog, fun _ => none, by kernel_rfl, fun t => if t = 119 then some 5 else none, fun t E h w => by
  split at h
  · rename_i ht; subst ht; exact Tryz.zeroValue119 w
  cases h⟩
noncomputable def sfOf (t : TypeId) : Array Field := match ti cx.P t with
  | some ⟨.struct fs, _, _⟩ => fs
  | _ => #[]
theorem tis : (ti cx.P 2 = some ⟨.int .i64, 1, 8⟩) ∧
    (ti cx.P 3 = some ⟨.int .i64, 1, 8⟩) ∧
    (ti cx.P 4 = some ⟨.bool, 1, 1⟩) ∧
    (ti cx.P 5 = some ⟨.int .u8, 1, 1⟩) ∧
    (ti cx.P 9 = some ⟨.string, 1, 16⟩) ∧
    (ti cx.P 21 = some ⟨.int .i32, 1, 4⟩) ∧
    (ti cx.P 22 = some ⟨.slice 138, 1, 24⟩) ∧
    (ti cx.P 23 = some ⟨.slice 51, 1, 24⟩) ∧
    (ti cx.P 24 = some ⟨.slice 57, 1, 24⟩) ∧
    (ti cx.P 26 = some ⟨.struct (sfOf 26), 3, 72⟩) ∧
    (ti cx.P 27 = some ⟨.slice 65, 1, 24⟩) ∧
    (ti cx.P 29 = some ⟨.slice 47, 1, 24⟩) ∧
    (ti cx.P 30 = some ⟨.int .i64, 1, 8⟩) ∧
    (ti cx.P 47 = some ⟨.struct (sfOf 47), 3, 32⟩) ∧
    (ti cx.P 51 = some ⟨.struct (sfOf 51), 3, 40⟩) ∧
    (ti cx.P 52 = some ⟨.slice 91, 1, 24⟩) ∧
    (ti cx.P 55 = some ⟨.slice 3, 1, 24⟩) ∧
    (ti cx.P 57 = some ⟨.slice 61, 1, 24⟩) ∧
    (ti cx.P 59 = some ⟨.array 30 4, 30, 30⟩) ∧
    (ti cx.P 61 = some ⟨.struct (sfOf 61), 2, 24⟩) ∧
    (ti cx.P 63 = some ⟨.slice 9, 1, 24⟩) ∧
    (ti cx.P 65 = some ⟨.struct (sfOf 65), 3, 40⟩) ∧
    (ti cx.P 76 = some ⟨.slice 81, 1, 24⟩) ∧
    (ti cx.P 81 = some ⟨.struct (sfOf 81), 4, 40⟩) ∧
    (ti cx.P 91 = some ⟨.struct (sfOf 91), 2, 16⟩) ∧
    (ti cx.P 115 = some ⟨.slice 55, 1, 24⟩) ∧
    (ti cx.P 116 = some ⟨.pointer 119, 1, 8⟩) ∧
    (ti cx.P 117 = some ⟨.slice 5, 1, 24⟩) ∧
    (ti cx.P 119 = some ⟨.struct (sfOf 119), 2, 32⟩) ∧
    (ti cx.P 129 = some ⟨.map 9 3, 1, 8⟩) ∧
    (ti cx.P 134 = some ⟨.slice 52, 1, 24⟩) ∧
    (ti cx.P 138 = some ⟨.struct (sfOf 138), 2, 24⟩) ∧
    (ti cx.P 145 = some ⟨.pointer 166, 1, 8⟩) ∧
    (ti cx.P 166 = some ⟨.struct (sfOf 166), 60, 60⟩) ∧
    (ti cx.P 181 = some ⟨.map 3 4, 1, 8⟩) ∧
    (ti cx.P 188 = some ⟨.pointer 5, 1, 8⟩) ∧
    (ti cx.P 203 = some ⟨.int .u64, 1, 8⟩) ∧
    (ti cx.P 227 = some ⟨.int .u32, 1, 4⟩) ∧
    (ti cx.P 229 = some ⟨.int .u64, 1, 8⟩) ∧
    (ti cx.P 233 = some ⟨.func #[3, 3] #[52] false, 1, 8⟩) ∧
    (ti cx.P 240 = some ⟨.array 24 5, 24, 24⟩) ∧
    (ti cx.P 248 = some ⟨.pointer 3, 1, 8⟩) ∧
    (ti cx.P 254 = some ⟨.array 20 229, 20, 160⟩) ∧
    (ti cx.P 255 = some ⟨.array 65 5, 65, 65⟩) ∧
    (ti cx.P 256 = some ⟨.pointer 244, 1, 8⟩) ∧
    (ti cx.P 260 = some ⟨.array 32 5, 32, 32⟩) ∧
    (ti cx.P 261 = some ⟨.array 64 5, 64, 64⟩) :=
  ⟨by kernel_rfl, by kernel_rfl, by kernel_rfl, by kernel_rfl, by kernel_rfl, by kernel_rfl, by kernel_rfl, by kernel_rfl, by kernel_rfl, by kernel_rfl, by kernel_rfl, by kernel_rfl, by kernel_rfl, by kernel_rfl, by kernel_rfl, by kernel_rfl, by kernel_rfl, by kernel_rfl, by kernel_rfl, by kernel_rfl, by kernel_rfl, by kernel_rfl, by kernel_rfl, by kernel_rfl, by kernel_rfl, by kernel_rfl, by kernel_rfl, by kernel_rfl, by kernel_rfl, by kernel_rfl, by kernel_rfl, by kernel_rfl, by kernel_rfl, by kernel_rfl, by kernel_rfl, by kernel_rfl, by kernel_rfl, by kernel_rfl, by kernel_rfl, by kernel_rfl, by kernel_rfl, by kernel_rfl, by kernel_rfl, by kernel_rfl, by kernel_rfl, by kernel_rfl, by kernel_rfl⟩
theorem tzs : (cx.B 2 = none) ∧
    (tz cx.P 2 = some (.lit (.int .i64 0))) ∧
    (cx.B 3 = none) ∧
    (tz cx.P 3 = some (.lit (.int .i64 0))) ∧
    (cx.B 4 = none) ∧
    (tz cx.P 4 = some (.lit (.bool false))) ∧
    (cx.B 5 = none) ∧
    (tz cx.P 5 = some (.lit (.int .u8 0))) ∧
    (cx.B 9 = none) ∧
    (tz cx.P 9 = some (.lit (.string ⟨#[]⟩))) ∧
    (cx.B 21 = none) ∧
    (tz cx.P 21 = some (.lit (.int .i32 0))) ∧
    (cx.B 22 = none) ∧
    (tz cx.P 22 = some (.lit (.slice none 0 0))) ∧
    (cx.B 23 = none) ∧
    (tz cx.P 23 = some (.lit (.slice none 0 0))) ∧
    (cx.B 24 = none) ∧
    (tz cx.P 24 = some (.lit (.slice none 0 0))) ∧
    (cx.B 26 = none) ∧
    (tz cx.P 26 = some (.agg [.lit (.slice none 0 0), .lit (.slice none 0 0), .lit (.slice none 0 0)])) ∧
    (cx.B 27 = none) ∧
    (tz cx.P 27 = some (.lit (.slice none 0 0))) ∧
    (cx.B 29 = none) ∧
    (tz cx.P 29 = some (.lit (.slice none 0 0))) ∧
    (cx.B 30 = none) ∧
    (tz cx.P 30 = some (.lit (.int .i64 0))) ∧
    (cx.B 47 = none) ∧
    (tz cx.P 47 = some (.agg [.lit (.string ⟨#[]⟩), .lit (.int .i64 0), .lit (.int .i64 0)])) ∧
    (cx.B 51 = none) ∧
    (tz cx.P 51 = some (.agg [.lit (.string ⟨#[]⟩), .lit (.string ⟨#[]⟩), .lit (.int .i64 0)])) ∧
    (cx.B 52 = none) ∧
    (tz cx.P 52 = some (.lit (.slice none 0 0))) ∧
    (cx.B 55 = none) ∧
    (tz cx.P 55 = some (.lit (.slice none 0 0))) ∧
    (cx.B 57 = none) ∧
    (tz cx.P 57 = some (.lit (.slice none 0 0))) ∧
    (cx.B 59 = none) ∧
    (tz cx.P 59 = some (.agg [.lit (.bool false), .lit (.bool false), .lit (.bool false), .lit (.bool false), .lit (.bool false), .lit (.bool false), .lit (.bool false), .lit (.bool false), .lit (.bool false), .lit (.bool false), .lit (.bool false), .lit (.bool false), .lit (.bool false), .lit (.bool false), .lit (.bool false), .lit (.bool false), .lit (.bool false), .lit (.bool false), .lit (.bool false), .lit (.bool false), .lit (.bool false), .lit (.bool false), .lit (.bool false), .lit (.bool false), .lit (.bool false), .lit (.bool false), .lit (.bool false), .lit (.bool false), .lit (.bool false), .lit (.bool false)])) ∧
    (cx.B 61 = none) ∧
    (tz cx.P 61 = some (.agg [.lit (.int .u8 0), .lit (.string ⟨#[]⟩)])) ∧
    (cx.B 63 = none) ∧
    (tz cx.P 63 = some (.lit (.slice none 0 0))) ∧
    (cx.B 65 = none) ∧
    (tz cx.P 65 = some (.agg [.lit (.int .i64 0), .lit (.int .i64 0), .lit (.slice none 0 0)])) ∧
    (cx.B 76 = none) ∧
    (tz cx.P 76 = some (.lit (.slice none 0 0))) ∧
    (cx.B 81 = none) ∧
    (tz cx.P 81 = some (.agg [.lit (.int .i64 0), .lit (.string ⟨#[]⟩), .lit (.int .u8 0), .lit (.int .i64 0)])) ∧
    (cx.B 91 = none) ∧
    (tz cx.P 91 = some (.agg [.lit (.int .i64 0), .lit (.int .i64 0)])) ∧
    (cx.B 115 = none) ∧
    (tz cx.P 115 = some (.lit (.slice none 0 0))) ∧
    (cx.B 116 = none) ∧
    (tz cx.P 116 = some (.lit (.pointer none))) ∧
    (cx.B 117 = none) ∧
    (tz cx.P 117 = some (.lit (.slice none 0 0))) ∧
    (tz cx.P 119 = some (.agg [.lit (.pointer none), .lit (.slice none 0 0)])) ∧
    (cx.B 129 = none) ∧
    (tz cx.P 129 = some (.lit (.map none))) ∧
    (cx.B 134 = none) ∧
    (tz cx.P 134 = some (.lit (.slice none 0 0))) ∧
    (cx.B 138 = none) ∧
    (tz cx.P 138 = some (.agg [.lit (.string ⟨#[]⟩), .lit (.int .i64 0)])) ∧
    (cx.B 145 = none) ∧
    (tz cx.P 145 = some (.lit (.pointer none))) ∧
    (cx.B 166 = none) ∧
    (tz cx.P 166 = some (.agg [.lit (.bool false), .lit (.bool false), .lit (.bool false), .lit (.bool false), .lit (.bool false), .lit (.bool false), .lit (.bool false), .lit (.bool false), .lit (.bool false), .lit (.bool false), .lit (.bool false), .lit (.bool false), .lit (.bool false), .lit (.bool false), .lit (.bool false), .lit (.bool false), .lit (.bool false), .lit (.bool false), .lit (.bool false), .lit (.bool false), .lit (.bool false), .lit (.bool false), .lit (.bool false), .lit (.bool false), .lit (.bool false), .lit (.bool false), .lit (.bool false), .lit (.bool false), .lit (.bool false), .lit (.bool false), .lit (.bool false), .lit (.bool false), .lit (.bool false), .lit (.bool false), .lit (.bool false), .lit (.bool false), .lit (.bool false), .lit (.bool false), .lit (.bool false), .lit (.bool false), .lit (.bool false), .lit (.bool false), .lit (.bool false), .lit (.bool false), .lit (.bool false), .lit (.bool false), .lit (.bool false), .lit (.bool false), .lit (.bool false), .lit (.bool false), .lit (.bool false), .lit (.bool false), .lit (.bool false), .lit (.bool false), .lit (.bool false), .lit (.bool false), .lit (.bool false), .lit (.bool false), .lit (.bool false), .lit (.bool false)])) ∧
    (cx.B 181 = none) ∧
    (tz cx.P 181 = some (.lit (.map none))) ∧
    (cx.B 188 = none) ∧
    (tz cx.P 188 = some (.lit (.pointer none))) ∧
    (cx.B 203 = none) ∧
    (tz cx.P 203 = some (.lit (.int .u64 0))) ∧
    (cx.B 227 = none) ∧
    (tz cx.P 227 = some (.lit (.int .u32 0))) ∧
    (cx.B 229 = none) ∧
    (tz cx.P 229 = some (.lit (.int .u64 0))) ∧
    (cx.B 233 = none) ∧
    (tz cx.P 233 = some (.lit .nilFunc)) ∧
    (cx.B 240 = none) ∧
    (tz cx.P 240 = some (.agg [.lit (.int .u8 0), .lit (.int .u8 0), .lit (.int .u8 0), .lit (.int .u8 0), .lit (.int .u8 0), .lit (.int .u8 0), .lit (.int .u8 0), .lit (.int .u8 0), .lit (.int .u8 0), .lit (.int .u8 0), .lit (.int .u8 0), .lit (.int .u8 0), .lit (.int .u8 0), .lit (.int .u8 0), .lit (.int .u8 0), .lit (.int .u8 0), .lit (.int .u8 0), .lit (.int .u8 0), .lit (.int .u8 0), .lit (.int .u8 0), .lit (.int .u8 0), .lit (.int .u8 0), .lit (.int .u8 0), .lit (.int .u8 0)])) ∧
    (cx.B 248 = none) ∧
    (tz cx.P 248 = some (.lit (.pointer none))) ∧
    (cx.B 254 = none) ∧
    (tz cx.P 254 = some (.agg [.lit (.int .u64 0), .lit (.int .u64 0), .lit (.int .u64 0), .lit (.int .u64 0), .lit (.int .u64 0), .lit (.int .u64 0), .lit (.int .u64 0), .lit (.int .u64 0), .lit (.int .u64 0), .lit (.int .u64 0), .lit (.int .u64 0), .lit (.int .u64 0), .lit (.int .u64 0), .lit (.int .u64 0), .lit (.int .u64 0), .lit (.int .u64 0), .lit (.int .u64 0), .lit (.int .u64 0), .lit (.int .u64 0), .lit (.int .u64 0)])) ∧
    (cx.B 256 = none) ∧
    (tz cx.P 256 = some (.lit (.pointer none))) ∧
    (cx.B 260 = none) ∧
    (tz cx.P 260 = some (.agg [.lit (.int .u8 0), .lit (.int .u8 0), .lit (.int .u8 0), .lit (.int .u8 0), .lit (.int .u8 0), .lit (.int .u8 0), .lit (.int .u8 0), .lit (.int .u8 0), .lit (.int .u8 0), .lit (.int .u8 0), .lit (.int .u8 0), .lit (.int .u8 0), .lit (.int .u8 0), .lit (.int .u8 0), .lit (.int .u8 0), .lit (.int .u8 0), .lit (.int .u8 0), .lit (.int .u8 0), .lit (.int .u8 0), .lit (.int .u8 0), .lit (.int .u8 0), .lit (.int .u8 0), .lit (.int .u8 0), .lit (.int .u8 0), .lit (.int .u8 0), .lit (.int .u8 0), .lit (.int .u8 0), .lit (.int .u8 0), .lit (.int .u8 0), .lit (.int .u8 0), .lit (.int .u8 0), .lit (.int .u8 0)])) ∧
    (cx.B 261 = none) :=
  ⟨by kernel_rfl, by kernel_rfl, by kernel_rfl, by kernel_rfl, by kernel_rfl, by kernel_rfl, by kernel_rfl, by kernel_rfl, by kernel_rfl, by kernel_rfl, by kernel_rfl, by kernel_rfl, by kernel_rfl, by kernel_rfl, by kernel_rfl, by kernel_rfl, by kernel_rfl, by kernel_rfl, by kernel_rfl, by kernel_rfl, by kernel_rfl, by kernel_rfl, by kernel_rfl, by kernel_rfl, by kernel_rfl, by kernel_rfl, by kernel_rfl, by kernel_rfl, by kernel_rfl, by kernel_rfl, by kernel_rfl, by kernel_rfl, by kernel_rfl, by kernel_rfl, by kernel_rfl, by kernel_rfl, by kernel_rfl, by kernel_rfl, by kernel_rfl, by kernel_rfl, by kernel_rfl, by kernel_rfl, by kernel_rfl, by kernel_rfl, by kernel_rfl, by kernel_rfl, by kernel_rfl, by kernel_rfl, by kernel_rfl, by kernel_rfl, by kernel_rfl, by kernel_rfl, by kernel_rfl, by kernel_rfl, by kernel_rfl, by kernel_rfl, by kernel_rfl, by kernel_rfl, by kernel_rfl, by kernel_rfl, by kernel_rfl, by kernel_rfl, by kernel_rfl, by kernel_rfl, by kernel_rfl, by kernel_rfl, by kernel_rfl, by kernel_rfl, by kernel_rfl, by kernel_rfl, by kernel_rfl, by kernel_rfl, by kernel_rfl, by kernel_rfl, by kernel_rfl, by kernel_rfl, by kernel_rfl, by kernel_rfl, by kernel_rfl, by kernel_rfl, by kernel_rfl, by kernel_rfl, by kernel_rfl, by kernel_rfl, by kernel_rfl, by kernel_rfl, by kernel_rfl, by kernel_rfl, by kernel_rfl, by kernel_rfl⟩
theorem fld : (∀ cs, evFldA cx 26 (.cptr cs) 0 = some (.cptr (cs.drop 0))) ∧
    (∀ i v j o, evFldA cx 26 (.ptr i v j o) 0 = some (.ptr i v j (o + 0))) ∧
    (∀ cs, evFld cx 26 (.agg cs) 0 = cs[0]?) ∧
    (∀ cs, evFldA cx 26 (.cptr cs) 1 = some (.cptr (cs.drop 1))) ∧
    (∀ i v j o, evFldA cx 26 (.ptr i v j o) 1 = some (.ptr i v j (o + 1))) ∧
    (∀ cs, evFld cx 26 (.agg cs) 1 = cs[1]?) ∧
    (∀ cs, evFldA cx 26 (.cptr cs) 2 = some (.cptr (cs.drop 2))) ∧
    (∀ i v j o, evFldA cx 26 (.ptr i v j o) 2 = some (.ptr i v j (o + 2))) ∧
    (∀ cs, evFld cx 26 (.agg cs) 2 = cs[2]?) ∧
    (∀ cs, evFldA cx 47 (.cptr cs) 0 = some (.cptr (cs.drop 0))) ∧
    (∀ i v j o, evFldA cx 47 (.ptr i v j o) 0 = some (.ptr i v j (o + 0))) ∧
    (∀ cs, evFld cx 47 (.agg cs) 0 = cs[0]?) ∧
    (∀ cs, evFldA cx 47 (.cptr cs) 1 = some (.cptr (cs.drop 1))) ∧
    (∀ i v j o, evFldA cx 47 (.ptr i v j o) 1 = some (.ptr i v j (o + 1))) ∧
    (∀ cs, evFld cx 47 (.agg cs) 1 = cs[1]?) ∧
    (∀ cs, evFldA cx 47 (.cptr cs) 2 = some (.cptr (cs.drop 2))) ∧
    (∀ i v j o, evFldA cx 47 (.ptr i v j o) 2 = some (.ptr i v j (o + 2))) ∧
    (∀ cs, evFld cx 47 (.agg cs) 2 = cs[2]?) ∧
    (∀ cs, evFldA cx 51 (.cptr cs) 0 = some (.cptr (cs.drop 0))) ∧
    (∀ i v j o, evFldA cx 51 (.ptr i v j o) 0 = some (.ptr i v j (o + 0))) ∧
    (∀ cs, evFld cx 51 (.agg cs) 0 = cs[0]?) ∧
    (∀ cs, evFldA cx 51 (.cptr cs) 1 = some (.cptr (cs.drop 1))) ∧
    (∀ i v j o, evFldA cx 51 (.ptr i v j o) 1 = some (.ptr i v j (o + 1))) ∧
    (∀ cs, evFld cx 51 (.agg cs) 1 = cs[1]?) ∧
    (∀ cs, evFldA cx 51 (.cptr cs) 2 = some (.cptr (cs.drop 2))) ∧
    (∀ i v j o, evFldA cx 51 (.ptr i v j o) 2 = some (.ptr i v j (o + 2))) ∧
    (∀ cs, evFld cx 51 (.agg cs) 2 = cs[2]?) ∧
    (∀ cs, evFldA cx 61 (.cptr cs) 0 = some (.cptr (cs.drop 0))) ∧
    (∀ i v j o, evFldA cx 61 (.ptr i v j o) 0 = some (.ptr i v j (o + 0))) ∧
    (∀ cs, evFld cx 61 (.agg cs) 0 = cs[0]?) ∧
    (∀ cs, evFldA cx 61 (.cptr cs) 1 = some (.cptr (cs.drop 1))) ∧
    (∀ i v j o, evFldA cx 61 (.ptr i v j o) 1 = some (.ptr i v j (o + 1))) ∧
    (∀ cs, evFld cx 61 (.agg cs) 1 = cs[1]?) ∧
    (∀ cs, evFldA cx 65 (.cptr cs) 0 = some (.cptr (cs.drop 0))) ∧
    (∀ i v j o, evFldA cx 65 (.ptr i v j o) 0 = some (.ptr i v j (o + 0))) ∧
    (∀ cs, evFld cx 65 (.agg cs) 0 = cs[0]?) ∧
    (∀ cs, evFldA cx 65 (.cptr cs) 1 = some (.cptr (cs.drop 1))) ∧
    (∀ i v j o, evFldA cx 65 (.ptr i v j o) 1 = some (.ptr i v j (o + 1))) ∧
    (∀ cs, evFld cx 65 (.agg cs) 1 = cs[1]?) ∧
    (∀ cs, evFldA cx 65 (.cptr cs) 2 = some (.cptr (cs.drop 2))) ∧
    (∀ i v j o, evFldA cx 65 (.ptr i v j o) 2 = some (.ptr i v j (o + 2))) ∧
    (∀ cs, evFld cx 65 (.agg cs) 2 = cs[2]?) ∧
    (∀ cs, evFldA cx 81 (.cptr cs) 0 = some (.cptr (cs.drop 0))) ∧
    (∀ i v j o, evFldA cx 81 (.ptr i v j o) 0 = some (.ptr i v j (o + 0))) ∧
    (∀ cs, evFld cx 81 (.agg cs) 0 = cs[0]?) ∧
    (∀ cs, evFldA cx 81 (.cptr cs) 1 = some (.cptr (cs.drop 1))) ∧
    (∀ i v j o, evFldA cx 81 (.ptr i v j o) 1 = some (.ptr i v j (o + 1))) ∧
    (∀ cs, evFld cx 81 (.agg cs) 1 = cs[1]?) ∧
    (∀ cs, evFldA cx 81 (.cptr cs) 2 = some (.cptr (cs.drop 2))) ∧
    (∀ i v j o, evFldA cx 81 (.ptr i v j o) 2 = some (.ptr i v j (o + 2))) ∧
    (∀ cs, evFld cx 81 (.agg cs) 2 = cs[2]?) ∧
    (∀ cs, evFldA cx 81 (.cptr cs) 3 = some (.cptr (cs.drop 3))) ∧
    (∀ i v j o, evFldA cx 81 (.ptr i v j o) 3 = some (.ptr i v j (o + 3))) ∧
    (∀ cs, evFld cx 81 (.agg cs) 3 = cs[3]?) ∧
    (∀ cs, evFldA cx 91 (.cptr cs) 0 = some (.cptr (cs.drop 0))) ∧
    (∀ i v j o, evFldA cx 91 (.ptr i v j o) 0 = some (.ptr i v j (o + 0))) ∧
    (∀ cs, evFld cx 91 (.agg cs) 0 = cs[0]?) ∧
    (∀ cs, evFldA cx 91 (.cptr cs) 1 = some (.cptr (cs.drop 1))) ∧
    (∀ i v j o, evFldA cx 91 (.ptr i v j o) 1 = some (.ptr i v j (o + 1))) ∧
    (∀ cs, evFld cx 91 (.agg cs) 1 = cs[1]?) ∧
    (∀ cs, evFldA cx 119 (.cptr cs) 0 = some (.cptr (cs.drop 0))) ∧
    (∀ i v j o, evFldA cx 119 (.ptr i v j o) 0 = some (.ptr i v j (o + 0))) ∧
    (∀ cs, evFld cx 119 (.agg cs) 0 = cs[0]?) ∧
    (∀ cs, evFldA cx 119 (.cptr cs) 1 = some (.cptr (cs.drop 1))) ∧
    (∀ i v j o, evFldA cx 119 (.ptr i v j o) 1 = some (.ptr i v j (o + 1))) ∧
    (∀ cs, evFld cx 119 (.agg cs) 1 = cs[1]?) ∧
    (∀ cs, evFldA cx 138 (.cptr cs) 0 = some (.cptr (cs.drop 0))) ∧
    (∀ i v j o, evFldA cx 138 (.ptr i v j o) 0 = some (.ptr i v j (o + 0))) ∧
    (∀ cs, evFld cx 138 (.agg cs) 0 = cs[0]?) ∧
    (∀ cs, evFldA cx 138 (.cptr cs) 1 = some (.cptr (cs.drop 1))) ∧
    (∀ i v j o, evFldA cx 138 (.ptr i v j o) 1 = some (.ptr i v j (o + 1))) ∧
    (∀ cs, evFld cx 138 (.agg cs) 1 = cs[1]?) ∧
    (∀ cs, evFldA cx 166 (.cptr cs) 0 = some (.cptr (cs.drop 0))) ∧
    (∀ i v j o, evFldA cx 166 (.ptr i v j o) 0 = some (.ptr i v j (o + 0))) ∧
    (∀ cs, evFld cx 166 (.agg cs) 0 = (if 0 + 30 ≤ cs.length then some (.agg ((cs.drop 0).take 30)) else none)) ∧
    (∀ cs, evFldA cx 166 (.cptr cs) 1 = some (.cptr (cs.drop 30))) ∧
    (∀ i v j o, evFldA cx 166 (.ptr i v j o) 1 = some (.ptr i v j (o + 30))) ∧
    (∀ cs, evFld cx 166 (.agg cs) 1 = (if 30 + 30 ≤ cs.length then some (.agg ((cs.drop 30).take 30)) else none)) :=
  ⟨fun _ => by kernel_rfl, fun _ _ _ _ => by kernel_rfl, fun _ => by kernel_rfl, fun _ => by kernel_rfl, fun _ _ _ _ => by kernel_rfl, fun _ => by kernel_rfl, fun _ => by kernel_rfl, fun _ _ _ _ => by kernel_rfl, fun _ => by kernel_rfl, fun _ => by kernel_rfl, fun _ _ _ _ => by kernel_rfl, fun _ => by kernel_rfl, fun _ => by kernel_rfl, fun _ _ _ _ => by kernel_rfl, fun _ => by kernel_rfl, fun _ => by kernel_rfl, fun _ _ _ _ => by kernel_rfl, fun _ => by kernel_rfl, fun _ => by kernel_rfl, fun _ _ _ _ => by kernel_rfl, fun _ => by kernel_rfl, fun _ => by kernel_rfl, fun _ _ _ _ => by kernel_rfl, fun _ => by kernel_rfl, fun _ => by kernel_rfl, fun _ _ _ _ => by kernel_rfl, fun _ => by kernel_rfl, fun _ => by kernel_rfl, fun _ _ _ _ => by kernel_rfl, fun _ => by kernel_rfl, fun _ => by kernel_rfl, fun _ _ _ _ => by kernel_rfl, fun _ => by kernel_rfl, fun _ => by kernel_rfl, fun _ _ _ _ => by kernel_rfl, fun _ => by kernel_rfl, fun _ => by kernel_rfl, fun _ _ _ _ => by kernel_rfl, fun _ => by kernel_rfl, fun _ => by kernel_rfl, fun _ _ _ _ => by kernel_rfl, fun _ => by kernel_rfl, fun _ => by kernel_rfl, fun _ _ _ _ => by kernel_rfl, fun _ => by kernel_rfl, fun _ => by kernel_rfl, fun _ _ _ _ => by kernel_rfl, fun _ => by kernel_rfl, fun _ => by kernel_rfl, fun _ _ _ _ => by kernel_rfl, fun _ => by kernel_rfl, fun _ => by kernel_rfl, fun _ _ _ _ => by kernel_rfl, fun _ => by kernel_rfl, fun _ => by kernel_rfl, fun _ _ _ _ => by kernel_rfl, fun _ => by kernel_rfl, fun _ => by kernel_rfl, fun _ _ _ _ => by kernel_rfl, fun _ => by kernel_rfl, fun _ => by kernel_rfl, fun _ _ _ _ => by kernel_rfl, fun _ => by kernel_rfl, fun _ => by kernel_rfl, fun _ _ _ _ => by kernel_rfl, fun _ => by kernel_rfl, fun _ => by kernel_rfl, fun _ _ _ _ => by kernel_rfl, fun _ => by kernel_rfl, fun _ => by kernel_rfl, fun _ _ _ _ => by kernel_rfl, fun _ => by kernel_rfl, fun _ => by kernel_rfl, fun _ _ _ _ => by kernel_rfl, fun _ => by kernel_rfl, fun _ => by kernel_rfl, fun _ _ _ _ => by kernel_rfl, fun _ => by kernel_rfl⟩
theorem nit : (notIntT cx.P 22 = true) ∧
    (notIntT cx.P 23 = true) ∧
    (notIntT cx.P 24 = true) ∧
    (notIntT cx.P 27 = true) ∧
    (notIntT cx.P 29 = true) ∧
    (notIntT cx.P 52 = true) ∧
    (notIntT cx.P 55 = true) ∧
    (notIntT cx.P 57 = true) ∧
    (notIntT cx.P 63 = true) ∧
    (notIntT cx.P 76 = true) ∧
    (notIntT cx.P 115 = true) ∧
    (notIntT cx.P 117 = true) ∧
    (notIntT cx.P 134 = true) :=
  ⟨by kernel_rfl, by kernel_rfl, by kernel_rfl, by kernel_rfl, by kernel_rfl, by kernel_rfl, by kernel_rfl, by kernel_rfl, by kernel_rfl, by kernel_rfl, by kernel_rfl, by kernel_rfl, by kernel_rfl⟩
theorem cnQ : (∀ v, PV.one (.lit v) = true) ∧ (∀ a b, PV.one (.imm a b) = true) ∧ (∀ a b c d e, PV.one (.own a b c d e) = true) ∧ (∀ a, PV.one (.cptr a) = true) ∧ (∀ a b c d, PV.one (.ptr a b c d) = true) ∧ (∀ a b c, PV.one (.clo a b c) = true) ∧ (∀ a b, PV.one (.ifc a b) = true) ∧ (∀ a, PV.one (.mp a) = true) ∧ (∀ a b, PV.one (.new a b) = true) ∧ (∀ a, PV.one (.agg a) = false) ∧ (∀ a, PV.one (.tup a) = false) ∧ (∀ v, forget1 (.lit v) = .lit v) ∧ (∀ a b, forget1 (.imm a b) = .imm a b) ∧ (∀ a b c d e, forget1 (.own a b c d e) = .own a b c d e) ∧ (∀ a, forget1 (.cptr a) = .cptr a) ∧ (∀ a b c d, forget1 (.ptr a b c d) = .ptr a b c d) ∧ (∀ a b c, forget1 (.clo a b c) = .clo a b c) ∧ (∀ a b, forget1 (.ifc a b) = .ifc a b) ∧ (∀ a, forget1 (.mp a) = .mp a) ∧ (∀ a b, forget1 (.new a b) = .imm b false) ∧ (∀ a, forget1 (.agg a) = .agg a) ∧ (∀ a, forget1 (.tup a) = .tup a) ∧ (∀ v, forget (.lit v) = .lit v) ∧ (∀ a b, forget (.imm a b) = .imm a b) ∧ (∀ a b c d e, forget (.own a b c d e) = .own a b c d e) ∧ (∀ a, forget (.cptr a) = .cptr a) ∧ (∀ a b c d, forget (.ptr a b c d) = .ptr a b c d) ∧ (∀ a b c, forget (.clo a b c) = .clo a b c) ∧ (∀ a b, forget (.ifc a b) = .ifc a b) ∧ (∀ a, forget (.mp a) = .mp a) ∧ (∀ a b, forget (.new a b) = .imm b false) ∧ (∀ a, forget (.agg a) = .agg a) ∧ (∀ a, forget (.tup a) = .tup (a.map forget1)) ∧ (∀ a, aggD (.struct a) = true) ∧ (∀ a b, aggD (.array a b) = true) ∧ (aggD .bool = false) ∧ (∀ a, aggD (.int a) = false) ∧ (aggD .string = false) ∧ (∀ a, aggD (.slice a) = false) ∧ (∀ a, aggD (.pointer a) = false) ∧ (∀ a b, aggD (.map a b) = false) ∧ (∀ a b c, aggD (.func a b c) = false) :=
  ⟨fun _ => rfl, fun _ _ => rfl, fun _ _ _ _ _ => rfl, fun _ => rfl, fun _ _ _ _ => rfl, fun _ _ _ => rfl, fun _ _ => rfl, fun _ => rfl, fun _ _ => rfl, fun _ => rfl, fun _ => rfl, fun _ => rfl, fun _ _ => rfl, fun _ _ _ _ _ => rfl, fun _ => rfl, fun _ _ _ _ => rfl, fun _ _ _ => rfl, fun _ _ => rfl, fun _ => rfl, fun _ _ => rfl, fun _ => rfl, fun _ => rfl, fun _ => rfl, fun _ _ => rfl, fun _ _ _ _ _ => rfl, fun _ => rfl, fun _ _ _ _ => rfl, fun _ _ _ => rfl, fun _ _ => rfl, fun _ => rfl, fun _ _ => rfl, fun _ => rfl, fun _ => rfl, fun _ => rfl, fun _ _ => rfl, rfl, fun _ => rfl, rfl, fun _ => rfl, fun _ => rfl, fun _ _ => rfl, fun _ _ _ => rfl⟩
theorem bp0 : type_of% (And.intro @vcl (And.intro @vcy (@vco))) := And.intro @vcl (And.intro @vcy (@vco))
theorem bd0 : type_of% (And.intro cnQ (And.intro @vck (And.intro @gR (And.intro @evl (And.intro @evb (And.intro @evBuiltin.eq_1 (And.intro @evBuiltin.eq_2 (And.intro @evBuiltin.eq_3 (And.intro @evLen.eq_1 (And.intro @evLen.eq_2 (And.intro @evLen.eq_3 (And.intro @evLen.eq_4 (And.intro @evLen.eq_5 (And.intro @evLen.eq_6 (And.intro @evIdxA.eq_1 (And.intro @evLoad.eq_1 (And.intro @evLoad.eq_2 (And.intro @loadP.eq_1 (And.intro @tis (And.intro @i64.eq_1 (And.intro @u32.eq_1 (And.intro @bl.eq_1 (And.intro @encL.eq_1 (And.intro @encB.eq_1 (And.intro @encLL.eq_1 (And.intro @wantd.eq_1 (And.intro @tzs (And.intro @eve.eq_1 (And.intro @eve.eq_2 (And.intro @eve.eq_3 (And.intro @eve.eq_4 (And.intro @eve.eq_5 (And.intro @eve.eq_6 (And.intro @eve.eq_7 (And.intro @eve.eq_8 (And.intro @eve.eq_9 (And.intro @eve.eq_10 (And.intro @eve.eq_11 (And.intro @eve.eq_12 (And.intro @evBox.eq_1 (And.intro @evAlloc.eq_1 (And.intro @evBuildSlice.eq_1 (And.intro @evMakeSlice.eq_1 (And.intro @evAppend.eq_1 (And.intro @fillRows.eq_1 (And.intro @fillRows.eq_2 (And.intro @zcells.eq_1 (And.intro @elemsOf.eq_1 (And.intro @elemsOf.eq_2 (And.intro @elemsOf.eq_3 (And.intro @elemsOf.eq_4 (And.intro @putAll.eq_1 (And.intro @putAll.eq_2 (@Int.cast_ofNat_Int)))))))))))))))))))))))))))))))))))))))))))))))))))))) := And.intro cnQ (And.intro @vck (And.intro @gR (And.intro @evl (And.intro @evb (And.intro @evBuiltin.eq_1 (And.intro @evBuiltin.eq_2 (And.intro @evBuiltin.eq_3 (And.intro @evLen.eq_1 (And.intro @evLen.eq_2 (And.intro @evLen.eq_3 (And.intro @evLen.eq_4 (And.intro @evLen.eq_5 (And.intro @evLen.eq_6 (And.intro @evIdxA.eq_1 (And.intro @evLoad.eq_1 (And.intro @evLoad.eq_2 (And.intro @loadP.eq_1 (And.intro @tis (And.intro @i64.eq_1 (And.intro @u32.eq_1 (And.intro @bl.eq_1 (And.intro @encL.eq_1 (And.intro @encB.eq_1 (And.intro @encLL.eq_1 (And.intro @wantd.eq_1 (And.intro @tzs (And.intro @eve.eq_1 (And.intro @eve.eq_2 (And.intro @eve.eq_3 (And.intro @eve.eq_4 (And.intro @eve.eq_5 (And.intro @eve.eq_6 (And.intro @eve.eq_7 (And.intro @eve.eq_8 (And.intro @eve.eq_9 (And.intro @eve.eq_10 (And.intro @eve.eq_11 (And.intro @eve.eq_12 (And.intro @evBox.eq_1 (And.intro @evAlloc.eq_1 (And.intro @evBuildSlice.eq_1 (And.intro @evMakeSlice.eq_1 (And.intro @evAppend.eq_1 (And.intro @fillRows.eq_1 (And.intro @fillRows.eq_2 (And.intro @zcells.eq_1 (And.intro @elemsOf.eq_1 (And.intro @elemsOf.eq_2 (And.intro @elemsOf.eq_3 (And.intro @elemsOf.eq_4 (And.intro @putAll.eq_1 (And.intro @putAll.eq_2 (@Int.cast_ofNat_Int)))))))))))))))))))))))))))))))))))))))))))))))))))))
end Go.Ab
