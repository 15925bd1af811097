/- The types of the program of the seat, as operations ask for them. -/
import Derived.Test.YtgcodedanljhpaaDoorAcLib
import Derived.Test.YtgcodedanljhpaaDoorAcFz
import Derived.Test.YtgcodedanljhpaaDoorAcStr
import Derived.Test.YtgcodedanljhpaaDoorProg
set_option linter.unusedSimpArgs false
set_option linter.unusedVariables false
set_option maxRecDepth 100000
set_option maxHeartbeats 8000000
namespace Go.Ab
open Go Go.Proofs
noncomputable def cx : Ctx := ⟨Tryd.prog, fun _ => none, by kernel_rfl, fun t => if t = 81 then some 5 else none, fun t E h w => by
  split at h
  · rename_i ht; subst ht; exact Tryd.zeroValue81 w
  cases h⟩
noncomputable def sfOf (t : TypeId) : Array Field := match ti cx.P t with
  | some ⟨.struct fs, _, _⟩ => fs
  | _ => #[]
theorem tis : (ti cx.P 2 = some ⟨.int .i64, 1, 8⟩) ∧
    (ti cx.P 3 = some ⟨.int .i64, 1, 8⟩) ∧
    (ti cx.P 4 = some ⟨.bool, 1, 1⟩) ∧
    (ti cx.P 5 = some ⟨.int .u8, 1, 1⟩) ∧
    (ti cx.P 9 = some ⟨.string, 1, 16⟩) ∧
    (ti cx.P 21 = some ⟨.int .i32, 1, 4⟩) ∧
    (ti cx.P 22 = some ⟨.slice 29, 1, 24⟩) ∧
    (ti cx.P 23 = some ⟨.slice 62, 1, 24⟩) ∧
    (ti cx.P 24 = some ⟨.slice 58, 1, 24⟩) ∧
    (ti cx.P 26 = some ⟨.struct (sfOf 26), 3, 72⟩) ∧
    (ti cx.P 29 = some ⟨.struct (sfOf 29), 2, 24⟩) ∧
    (ti cx.P 30 = some ⟨.slice 34, 1, 24⟩) ∧
    (ti cx.P 32 = some ⟨.slice 9, 1, 24⟩) ∧
    (ti cx.P 34 = some ⟨.struct (sfOf 34), 3, 40⟩) ∧
    (ti cx.P 36 = some ⟨.int .i64, 1, 8⟩) ∧
    (ti cx.P 42 = some ⟨.slice 49, 1, 24⟩) ∧
    (ti cx.P 49 = some ⟨.struct (sfOf 49), 3, 32⟩) ∧
    (ti cx.P 50 = some ⟨.slice 57, 1, 24⟩) ∧
    (ti cx.P 57 = some ⟨.struct (sfOf 57), 4, 40⟩) ∧
    (ti cx.P 58 = some ⟨.slice 60, 1, 24⟩) ∧
    (ti cx.P 60 = some ⟨.struct (sfOf 60), 2, 24⟩) ∧
    (ti cx.P 62 = some ⟨.struct (sfOf 62), 3, 40⟩) ∧
    (ti cx.P 65 = some ⟨.map 3 4, 1, 8⟩) ∧
    (ti cx.P 70 = some ⟨.map 9 3, 1, 8⟩) ∧
    (ti cx.P 73 = some ⟨.slice 3, 1, 24⟩) ∧
    (ti cx.P 78 = some ⟨.pointer 81, 1, 8⟩) ∧
    (ti cx.P 79 = some ⟨.slice 5, 1, 24⟩) ∧
    (ti cx.P 81 = some ⟨.struct (sfOf 81), 2, 32⟩) ∧
    (ti cx.P 110 = some ⟨.pointer 131, 1, 8⟩) ∧
    (ti cx.P 119 = some ⟨.slice 133, 1, 24⟩) ∧
    (ti cx.P 127 = some ⟨.pointer 5, 1, 8⟩) ∧
    (ti cx.P 129 = some ⟨.array 30 4, 30, 30⟩) ∧
    (ti cx.P 131 = some ⟨.struct (sfOf 131), 60, 60⟩) ∧
    (ti cx.P 133 = some ⟨.struct (sfOf 133), 2, 16⟩) ∧
    (ti cx.P 142 = some ⟨.int .u64, 1, 8⟩) ∧
    (ti cx.P 163 = some ⟨.int .u32, 1, 4⟩) ∧
    (ti cx.P 165 = some ⟨.int .u64, 1, 8⟩) ∧
    (ti cx.P 171 = some ⟨.array 24 5, 24, 24⟩) ∧
    (ti cx.P 175 = some ⟨.func #[3, 3] #[119] false, 1, 8⟩) ∧
    (ti cx.P 180 = some ⟨.pointer 3, 1, 8⟩) ∧
    (ti cx.P 186 = some ⟨.array 20 165, 20, 160⟩) ∧
    (ti cx.P 187 = some ⟨.array 65 5, 65, 65⟩) ∧
    (ti cx.P 188 = some ⟨.pointer 176, 1, 8⟩) ∧
    (ti cx.P 192 = some ⟨.array 32 5, 32, 32⟩) ∧
    (ti cx.P 193 = some ⟨.array 64 5, 64, 64⟩) :=
  ⟨by kernel_rfl, by kernel_rfl, by kernel_rfl, by kernel_rfl, by kernel_rfl, by kernel_rfl, by kernel_rfl, by kernel_rfl, by kernel_rfl, by kernel_rfl, by kernel_rfl, by kernel_rfl, by kernel_rfl, by kernel_rfl, by kernel_rfl, by kernel_rfl, by kernel_rfl, by kernel_rfl, by kernel_rfl, by kernel_rfl, by kernel_rfl, by kernel_rfl, by kernel_rfl, by kernel_rfl, by kernel_rfl, by kernel_rfl, by kernel_rfl, by kernel_rfl, by kernel_rfl, by kernel_rfl, by kernel_rfl, by kernel_rfl, by kernel_rfl, by kernel_rfl, by kernel_rfl, by kernel_rfl, by kernel_rfl, by kernel_rfl, by kernel_rfl, by kernel_rfl, by kernel_rfl, by kernel_rfl, by kernel_rfl, by kernel_rfl, by kernel_rfl⟩
theorem tzs : (cx.B 2 = none) ∧
    (tz cx.P 2 = some (.lit (.int .i64 0))) ∧
    (cx.B 3 = none) ∧
    (tz cx.P 3 = some (.lit (.int .i64 0))) ∧
    (cx.B 4 = none) ∧
    (tz cx.P 4 = some (.lit (.bool false))) ∧
    (cx.B 5 = none) ∧
    (tz cx.P 5 = some (.lit (.int .u8 0))) ∧
    (cx.B 9 = none) ∧
    (tz cx.P 9 = some (.lit (.string ⟨#[]⟩))) ∧
    (cx.B 21 = none) ∧
    (tz cx.P 21 = some (.lit (.int .i32 0))) ∧
    (cx.B 22 = none) ∧
    (tz cx.P 22 = some (.lit (.slice none 0 0))) ∧
    (cx.B 23 = none) ∧
    (tz cx.P 23 = some (.lit (.slice none 0 0))) ∧
    (cx.B 24 = none) ∧
    (tz cx.P 24 = some (.lit (.slice none 0 0))) ∧
    (cx.B 26 = none) ∧
    (tz cx.P 26 = some (.agg [.lit (.slice none 0 0), .lit (.slice none 0 0), .lit (.slice none 0 0)])) ∧
    (cx.B 29 = none) ∧
    (tz cx.P 29 = some (.agg [.lit (.string ⟨#[]⟩), .lit (.int .i64 0)])) ∧
    (cx.B 30 = none) ∧
    (tz cx.P 30 = some (.lit (.slice none 0 0))) ∧
    (cx.B 32 = none) ∧
    (tz cx.P 32 = some (.lit (.slice none 0 0))) ∧
    (cx.B 34 = none) ∧
    (tz cx.P 34 = some (.agg [.lit (.int .i64 0), .lit (.int .i64 0), .lit (.slice none 0 0)])) ∧
    (cx.B 36 = none) ∧
    (tz cx.P 36 = some (.lit (.int .i64 0))) ∧
    (cx.B 42 = none) ∧
    (tz cx.P 42 = some (.lit (.slice none 0 0))) ∧
    (cx.B 49 = none) ∧
    (tz cx.P 49 = some (.agg [.lit (.string ⟨#[]⟩), .lit (.int .i64 0), .lit (.int .i64 0)])) ∧
    (cx.B 50 = none) ∧
    (tz cx.P 50 = some (.lit (.slice none 0 0))) ∧
    (cx.B 57 = none) ∧
    (tz cx.P 57 = some (.agg [.lit (.int .i64 0), .lit (.string ⟨#[]⟩), .lit (.int .u8 0), .lit (.int .i64 0)])) ∧
    (cx.B 58 = none) ∧
    (tz cx.P 58 = some (.lit (.slice none 0 0))) ∧
    (cx.B 60 = none) ∧
    (tz cx.P 60 = some (.agg [.lit (.int .u8 0), .lit (.string ⟨#[]⟩)])) ∧
    (cx.B 62 = none) ∧
    (tz cx.P 62 = some (.agg [.lit (.string ⟨#[]⟩), .lit (.string ⟨#[]⟩), .lit (.int .i64 0)])) ∧
    (cx.B 65 = none) ∧
    (tz cx.P 65 = some (.lit (.map none))) ∧
    (cx.B 70 = none) ∧
    (tz cx.P 70 = some (.lit (.map none))) ∧
    (cx.B 73 = none) ∧
    (tz cx.P 73 = some (.lit (.slice none 0 0))) ∧
    (cx.B 78 = none) ∧
    (tz cx.P 78 = some (.lit (.pointer none))) ∧
    (cx.B 79 = none) ∧
    (tz cx.P 79 = some (.lit (.slice none 0 0))) ∧
    (tz cx.P 81 = some (.agg [.lit (.pointer none), .lit (.slice none 0 0)])) ∧
    (cx.B 110 = none) ∧
    (tz cx.P 110 = some (.lit (.pointer none))) ∧
    (cx.B 119 = none) ∧
    (tz cx.P 119 = some (.lit (.slice none 0 0))) ∧
    (cx.B 127 = none) ∧
    (tz cx.P 127 = some (.lit (.pointer none))) ∧
    (cx.B 129 = none) ∧
    (tz cx.P 129 = some (.agg [.lit (.bool false), .lit (.bool false), .lit (.bool false), .lit (.bool false), .lit (.bool false), .lit (.bool false), .lit (.bool false), .lit (.bool false), .lit (.bool false), .lit (.bool false), .lit (.bool false), .lit (.bool false), .lit (.bool false), .lit (.bool false), .lit (.bool false), .lit (.bool false), .lit (.bool false), .lit (.bool false), .lit (.bool false), .lit (.bool false), .lit (.bool false), .lit (.bool false), .lit (.bool false), .lit (.bool false), .lit (.bool false), .lit (.bool false), .lit (.bool false), .lit (.bool false), .lit (.bool false), .lit (.bool false)])) ∧
    (cx.B 131 = none) ∧
    (tz cx.P 131 = some (.agg [.lit (.bool false), .lit (.bool false), .lit (.bool false), .lit (.bool false), .lit (.bool false), .lit (.bool false), .lit (.bool false), .lit (.bool false), .lit (.bool false), .lit (.bool false), .lit (.bool false), .lit (.bool false), .lit (.bool false), .lit (.bool false), .lit (.bool false), .lit (.bool false), .lit (.bool false), .lit (.bool false), .lit (.bool false), .lit (.bool false), .lit (.bool false), .lit (.bool false), .lit (.bool false), .lit (.bool false), .lit (.bool false), .lit (.bool false), .lit (.bool false), .lit (.bool false), .lit (.bool false), .lit (.bool false), .lit (.bool false), .lit (.bool false), .lit (.bool false), .lit (.bool false), .lit (.bool false), .lit (.bool false), .lit (.bool false), .lit (.bool false), .lit (.bool false), .lit (.bool false), .lit (.bool false), .lit (.bool false), .lit (.bool false), .lit (.bool false), .lit (.bool false), .lit (.bool false), .lit (.bool false), .lit (.bool false), .lit (.bool false), .lit (.bool false), .lit (.bool false), .lit (.bool false), .lit (.bool false), .lit (.bool false), .lit (.bool false), .lit (.bool false), .lit (.bool false), .lit (.bool false), .lit (.bool false), .lit (.bool false)])) ∧
    (cx.B 133 = none) ∧
    (tz cx.P 133 = some (.agg [.lit (.int .i64 0), .lit (.int .i64 0)])) ∧
    (cx.B 142 = none) ∧
    (tz cx.P 142 = some (.lit (.int .u64 0))) ∧
    (cx.B 163 = none) ∧
    (tz cx.P 163 = some (.lit (.int .u32 0))) ∧
    (cx.B 165 = none) ∧
    (tz cx.P 165 = some (.lit (.int .u64 0))) ∧
    (cx.B 171 = none) ∧
    (tz cx.P 171 = some (.agg [.lit (.int .u8 0), .lit (.int .u8 0), .lit (.int .u8 0), .lit (.int .u8 0), .lit (.int .u8 0), .lit (.int .u8 0), .lit (.int .u8 0), .lit (.int .u8 0), .lit (.int .u8 0), .lit (.int .u8 0), .lit (.int .u8 0), .lit (.int .u8 0), .lit (.int .u8 0), .lit (.int .u8 0), .lit (.int .u8 0), .lit (.int .u8 0), .lit (.int .u8 0), .lit (.int .u8 0), .lit (.int .u8 0), .lit (.int .u8 0), .lit (.int .u8 0), .lit (.int .u8 0), .lit (.int .u8 0), .lit (.int .u8 0)])) ∧
    (cx.B 175 = none) ∧
    (tz cx.P 175 = some (.lit .nilFunc)) ∧
    (cx.B 180 = none) ∧
    (tz cx.P 180 = some (.lit (.pointer none))) ∧
    (cx.B 186 = none) ∧
    (tz cx.P 186 = some (.agg [.lit (.int .u64 0), .lit (.int .u64 0), .lit (.int .u64 0), .lit (.int .u64 0), .lit (.int .u64 0), .lit (.int .u64 0), .lit (.int .u64 0), .lit (.int .u64 0), .lit (.int .u64 0), .lit (.int .u64 0), .lit (.int .u64 0), .lit (.int .u64 0), .lit (.int .u64 0), .lit (.int .u64 0), .lit (.int .u64 0), .lit (.int .u64 0), .lit (.int .u64 0), .lit (.int .u64 0), .lit (.int .u64 0), .lit (.int .u64 0)])) ∧
    (cx.B 188 = none) ∧
    (tz cx.P 188 = some (.lit (.pointer none))) ∧
    (cx.B 192 = none) ∧
    (tz cx.P 192 = some (.agg [.lit (.int .u8 0), .lit (.int .u8 0), .lit (.int .u8 0), .lit (.int .u8 0), .lit (.int .u8 0), .lit (.int .u8 0), .lit (.int .u8 0), .lit (.int .u8 0), .lit (.int .u8 0), .lit (.int .u8 0), .lit (.int .u8 0), .lit (.int .u8 0), .lit (.int .u8 0), .lit (.int .u8 0), .lit (.int .u8 0), .lit (.int .u8 0), .lit (.int .u8 0), .lit (.int .u8 0), .lit (.int .u8 0), .lit (.int .u8 0), .lit (.int .u8 0), .lit (.int .u8 0), .lit (.int .u8 0), .lit (.int .u8 0), .lit (.int .u8 0), .lit (.int .u8 0), .lit (.int .u8 0), .lit (.int .u8 0), .lit (.int .u8 0), .lit (.int .u8 0), .lit (.int .u8 0), .lit (.int .u8 0)])) ∧
    (cx.B 193 = none) ∧
    (tz cx.P 193 = some (.agg [.lit (.int .u8 0), .lit (.int .u8 0), .lit (.int .u8 0), .lit (.int .u8 0), .lit (.int .u8 0), .lit (.int .u8 0), .lit (.int .u8 0), .lit (.int .u8 0), .lit (.int .u8 0), .lit (.int .u8 0), .lit (.int .u8 0), .lit (.int .u8 0), .lit (.int .u8 0), .lit (.int .u8 0), .lit (.int .u8 0), .lit (.int .u8 0), .lit (.int .u8 0), .lit (.int .u8 0), .lit (.int .u8 0), .lit (.int .u8 0), .lit (.int .u8 0), .lit (.int .u8 0), .lit (.int .u8 0), .lit (.int .u8 0), .lit (.int .u8 0), .lit (.int .u8 0), .lit (.int .u8 0), .lit (.int .u8 0), .lit (.int .u8 0), .lit (.int .u8 0), .lit (.int .u8 0), .lit (.int .u8 0), .lit (.int .u8 0), .lit (.int .u8 0), .lit (.int .u8 0), .lit (.int .u8 0), .lit (.int .u8 0), .lit (.int .u8 0), .lit (.int .u8 0), .lit (.int .u8 0), .lit (.int .u8 0), .lit (.int .u8 0), .lit (.int .u8 0), .lit (.int .u8 0), .lit (.int .u8 0), .lit (.int .u8 0), .lit (.int .u8 0), .lit (.int .u8 0), .lit (.int .u8 0), .lit (.int .u8 0), .lit (.int .u8 0), .lit (.int .u8 0), .lit (.int .u8 0), .lit (.int .u8 0), .lit (.int .u8 0), .lit (.int .u8 0), .lit (.int .u8 0), .lit (.int .u8 0), .lit (.int .u8 0), .lit (.int .u8 0), .lit (.int .u8 0), .lit (.int .u8 0), .lit (.int .u8 0), .lit (.int .u8 0)])) ∧
    (cx.B 81 = some 5) :=
  ⟨by kernel_rfl, by kernel_rfl, by kernel_rfl, by kernel_rfl, by kernel_rfl, by kernel_rfl, by kernel_rfl, by kernel_rfl, by kernel_rfl, by kernel_rfl, by kernel_rfl, by kernel_rfl, by kernel_rfl, by kernel_rfl, by kernel_rfl, by kernel_rfl, by kernel_rfl, by kernel_rfl, by kernel_rfl, by kernel_rfl, by kernel_rfl, by kernel_rfl, by kernel_rfl, by kernel_rfl, by kernel_rfl, by kernel_rfl, by kernel_rfl, by kernel_rfl, by kernel_rfl, by kernel_rfl, by kernel_rfl, by kernel_rfl, by kernel_rfl, by kernel_rfl, by kernel_rfl, by kernel_rfl, by kernel_rfl, by kernel_rfl, by kernel_rfl, by kernel_rfl, by kernel_rfl, by kernel_rfl, by kernel_rfl, by kernel_rfl, by kernel_rfl, by kernel_rfl, by kernel_rfl, by kernel_rfl, by kernel_rfl, by kernel_rfl, by kernel_rfl, by kernel_rfl, by kernel_rfl, by kernel_rfl, by kernel_rfl, by kernel_rfl, by kernel_rfl, by kernel_rfl, by kernel_rfl, by kernel_rfl, by kernel_rfl, by kernel_rfl, by kernel_rfl, by kernel_rfl, by kernel_rfl, by kernel_rfl, by kernel_rfl, by kernel_rfl, by kernel_rfl, by kernel_rfl, by kernel_rfl, by kernel_rfl, by kernel_rfl, by kernel_rfl, by kernel_rfl, by kernel_rfl, by kernel_rfl, by kernel_rfl, by kernel_rfl, by kernel_rfl, by kernel_rfl, by kernel_rfl, by kernel_rfl, by kernel_rfl, by kernel_rfl, by kernel_rfl, by kernel_rfl, by kernel_rfl⟩
theorem fld : (∀ cs, evFldA cx 26 (.cptr cs) 0 = some (.cptr (cs.drop 0))) ∧
    (∀ i v j o, evFldA cx 26 (.ptr i v j o) 0 = some (.ptr i v j (o + 0))) ∧
    (∀ cs, evFld cx 26 (.agg cs) 0 = cs[0]?) ∧
    (∀ cs, evFldA cx 26 (.cptr cs) 1 = some (.cptr (cs.drop 1))) ∧
    (∀ i v j o, evFldA cx 26 (.ptr i v j o) 1 = some (.ptr i v j (o + 1))) ∧
    (∀ cs, evFld cx 26 (.agg cs) 1 = cs[1]?) ∧
    (∀ cs, evFldA cx 26 (.cptr cs) 2 = some (.cptr (cs.drop 2))) ∧
    (∀ i v j o, evFldA cx 26 (.ptr i v j o) 2 = some (.ptr i v j (o + 2))) ∧
    (∀ cs, evFld cx 26 (.agg cs) 2 = cs[2]?) ∧
    (∀ cs, evFldA cx 29 (.cptr cs) 0 = some (.cptr (cs.drop 0))) ∧
    (∀ i v j o, evFldA cx 29 (.ptr i v j o) 0 = some (.ptr i v j (o + 0))) ∧
    (∀ cs, evFld cx 29 (.agg cs) 0 = cs[0]?) ∧
    (∀ cs, evFldA cx 29 (.cptr cs) 1 = some (.cptr (cs.drop 1))) ∧
    (∀ i v j o, evFldA cx 29 (.ptr i v j o) 1 = some (.ptr i v j (o + 1))) ∧
    (∀ cs, evFld cx 29 (.agg cs) 1 = cs[1]?) ∧
    (∀ cs, evFldA cx 34 (.cptr cs) 0 = some (.cptr (cs.drop 0))) ∧
    (∀ i v j o, evFldA cx 34 (.ptr i v j o) 0 = some (.ptr i v j (o + 0))) ∧
    (∀ cs, evFld cx 34 (.agg cs) 0 = cs[0]?) ∧
    (∀ cs, evFldA cx 34 (.cptr cs) 1 = some (.cptr (cs.drop 1))) ∧
    (∀ i v j o, evFldA cx 34 (.ptr i v j o) 1 = some (.ptr i v j (o + 1))) ∧
    (∀ cs, evFld cx 34 (.agg cs) 1 = cs[1]?) ∧
    (∀ cs, evFldA cx 34 (.cptr cs) 2 = some (.cptr (cs.drop 2))) ∧
    (∀ i v j o, evFldA cx 34 (.ptr i v j o) 2 = some (.ptr i v j (o + 2))) ∧
    (∀ cs, evFld cx 34 (.agg cs) 2 = cs[2]?) ∧
    (∀ cs, evFldA cx 49 (.cptr cs) 0 = some (.cptr (cs.drop 0))) ∧
    (∀ i v j o, evFldA cx 49 (.ptr i v j o) 0 = some (.ptr i v j (o + 0))) ∧
    (∀ cs, evFld cx 49 (.agg cs) 0 = cs[0]?) ∧
    (∀ cs, evFldA cx 49 (.cptr cs) 1 = some (.cptr (cs.drop 1))) ∧
    (∀ i v j o, evFldA cx 49 (.ptr i v j o) 1 = some (.ptr i v j (o + 1))) ∧
    (∀ cs, evFld cx 49 (.agg cs) 1 = cs[1]?) ∧
    (∀ cs, evFldA cx 49 (.cptr cs) 2 = some (.cptr (cs.drop 2))) ∧
    (∀ i v j o, evFldA cx 49 (.ptr i v j o) 2 = some (.ptr i v j (o + 2))) ∧
    (∀ cs, evFld cx 49 (.agg cs) 2 = cs[2]?) ∧
    (∀ cs, evFldA cx 57 (.cptr cs) 0 = some (.cptr (cs.drop 0))) ∧
    (∀ i v j o, evFldA cx 57 (.ptr i v j o) 0 = some (.ptr i v j (o + 0))) ∧
    (∀ cs, evFld cx 57 (.agg cs) 0 = cs[0]?) ∧
    (∀ cs, evFldA cx 57 (.cptr cs) 1 = some (.cptr (cs.drop 1))) ∧
    (∀ i v j o, evFldA cx 57 (.ptr i v j o) 1 = some (.ptr i v j (o + 1))) ∧
    (∀ cs, evFld cx 57 (.agg cs) 1 = cs[1]?) ∧
    (∀ cs, evFldA cx 57 (.cptr cs) 2 = some (.cptr (cs.drop 2))) ∧
    (∀ i v j o, evFldA cx 57 (.ptr i v j o) 2 = some (.ptr i v j (o + 2))) ∧
    (∀ cs, evFld cx 57 (.agg cs) 2 = cs[2]?) ∧
    (∀ cs, evFldA cx 57 (.cptr cs) 3 = some (.cptr (cs.drop 3))) ∧
    (∀ i v j o, evFldA cx 57 (.ptr i v j o) 3 = some (.ptr i v j (o + 3))) ∧
    (∀ cs, evFld cx 57 (.agg cs) 3 = cs[3]?) ∧
    (∀ cs, evFldA cx 60 (.cptr cs) 0 = some (.cptr (cs.drop 0))) ∧
    (∀ i v j o, evFldA cx 60 (.ptr i v j o) 0 = some (.ptr i v j (o + 0))) ∧
    (∀ cs, evFld cx 60 (.agg cs) 0 = cs[0]?) ∧
    (∀ cs, evFldA cx 60 (.cptr cs) 1 = some (.cptr (cs.drop 1))) ∧
    (∀ i v j o, evFldA cx 60 (.ptr i v j o) 1 = some (.ptr i v j (o + 1))) ∧
    (∀ cs, evFld cx 60 (.agg cs) 1 = cs[1]?) ∧
    (∀ cs, evFldA cx 62 (.cptr cs) 0 = some (.cptr (cs.drop 0))) ∧
    (∀ i v j o, evFldA cx 62 (.ptr i v j o) 0 = some (.ptr i v j (o + 0))) ∧
    (∀ cs, evFld cx 62 (.agg cs) 0 = cs[0]?) ∧
    (∀ cs, evFldA cx 62 (.cptr cs) 1 = some (.cptr (cs.drop 1))) ∧
    (∀ i v j o, evFldA cx 62 (.ptr i v j o) 1 = some (.ptr i v j (o + 1))) ∧
    (∀ cs, evFld cx 62 (.agg cs) 1 = cs[1]?) ∧
    (∀ cs, evFldA cx 62 (.cptr cs) 2 = some (.cptr (cs.drop 2))) ∧
    (∀ i v j o, evFldA cx 62 (.ptr i v j o) 2 = some (.ptr i v j (o + 2))) ∧
    (∀ cs, evFld cx 62 (.agg cs) 2 = cs[2]?) ∧
    (∀ cs, evFldA cx 81 (.cptr cs) 0 = some (.cptr (cs.drop 0))) ∧
    (∀ i v j o, evFldA cx 81 (.ptr i v j o) 0 = some (.ptr i v j (o + 0))) ∧
    (∀ cs, evFld cx 81 (.agg cs) 0 = cs[0]?) ∧
    (∀ cs, evFldA cx 81 (.cptr cs) 1 = some (.cptr (cs.drop 1))) ∧
    (∀ i v j o, evFldA cx 81 (.ptr i v j o) 1 = some (.ptr i v j (o + 1))) ∧
    (∀ cs, evFld cx 81 (.agg cs) 1 = cs[1]?) ∧
    (∀ cs, evFldA cx 131 (.cptr cs) 0 = some (.cptr (cs.drop 0))) ∧
    (∀ i v j o, evFldA cx 131 (.ptr i v j o) 0 = some (.ptr i v j (o + 0))) ∧
    (∀ cs, evFld cx 131 (.agg cs) 0 = (if 0 + 30 ≤ cs.length then some (.agg ((cs.drop 0).take 30)) else none)) ∧
    (∀ cs, evFldA cx 131 (.cptr cs) 1 = some (.cptr (cs.drop 30))) ∧
    (∀ i v j o, evFldA cx 131 (.ptr i v j o) 1 = some (.ptr i v j (o + 30))) ∧
    (∀ cs, evFld cx 131 (.agg cs) 1 = (if 30 + 30 ≤ cs.length then some (.agg ((cs.drop 30).take 30)) else none)) ∧
    (∀ cs, evFldA cx 133 (.cptr cs) 0 = some (.cptr (cs.drop 0))) ∧
    (∀ i v j o, evFldA cx 133 (.ptr i v j o) 0 = some (.ptr i v j (o + 0))) ∧
    (∀ cs, evFld cx 133 (.agg cs) 0 = cs[0]?) ∧
    (∀ cs, evFldA cx 133 (.cptr cs) 1 = some (.cptr (cs.drop 1))) ∧
    (∀ i v j o, evFldA cx 133 (.ptr i v j o) 1 = some (.ptr i v j (o + 1))) ∧
    (∀ cs, evFld cx 133 (.agg cs) 1 = cs[1]?) :=
  ⟨fun _ => by kernel_rfl, fun _ _ _ _ => by kernel_rfl, fun _ => by kernel_rfl, fun _ => by kernel_rfl, fun _ _ _ _ => by kernel_rfl, fun _ => by kernel_rfl, fun _ => by kernel_rfl, fun _ _ _ _ => by kernel_rfl, fun _ => by kernel_rfl, fun _ => by kernel_rfl, fun _ _ _ _ => by kernel_rfl, fun _ => by kernel_rfl, fun _ => by kernel_rfl, fun _ _ _ _ => by kernel_rfl, fun _ => by kernel_rfl, fun _ => by kernel_rfl, fun _ _ _ _ => by kernel_rfl, fun _ => by kernel_rfl, fun _ => by kernel_rfl, fun _ _ _ _ => by kernel_rfl, fun _ => by kernel_rfl, fun _ => by kernel_rfl, fun _ _ _ _ => by kernel_rfl, fun _ => by kernel_rfl, fun _ => by kernel_rfl, fun _ _ _ _ => by kernel_rfl, fun _ => by kernel_rfl, fun _ => by kernel_rfl, fun _ _ _ _ => by kernel_rfl, fun _ => by kernel_rfl, fun _ => by kernel_rfl, fun _ _ _ _ => by kernel_rfl, fun _ => by kernel_rfl, fun _ => by kernel_rfl, fun _ _ _ _ => by kernel_rfl, fun _ => by kernel_rfl, fun _ => by kernel_rfl, fun _ _ _ _ => by kernel_rfl, fun _ => by kernel_rfl, fun _ => by kernel_rfl, fun _ _ _ _ => by kernel_rfl, fun _ => by kernel_rfl, fun _ => by kernel_rfl, fun _ _ _ _ => by kernel_rfl, fun _ => by kernel_rfl, fun _ => by kernel_rfl, fun _ _ _ _ => by kernel_rfl, fun _ => by kernel_rfl, fun _ => by kernel_rfl, fun _ _ _ _ => by kernel_rfl, fun _ => by kernel_rfl, fun _ => by kernel_rfl, fun _ _ _ _ => by kernel_rfl, fun _ => by kernel_rfl, fun _ => by kernel_rfl, fun _ _ _ _ => by kernel_rfl, fun _ => by kernel_rfl, fun _ => by kernel_rfl, fun _ _ _ _ => by kernel_rfl, fun _ => by kernel_rfl, fun _ => by kernel_rfl, fun _ _ _ _ => by kernel_rfl, fun _ => by kernel_rfl, fun _ => by kernel_rfl, fun _ _ _ _ => by kernel_rfl, fun _ => by kernel_rfl, fun _ => by kernel_rfl, fun _ _ _ _ => by kernel_rfl, fun _ => by kernel_rfl, fun _ => by kernel_rfl, fun _ _ _ _ => by kernel_rfl, fun _ => by kernel_rfl, fun _ => by kernel_rfl, fun _ _ _ _ => by kernel_rfl, fun _ => by kernel_rfl, fun _ => by kernel_rfl, fun _ _ _ _ => by kernel_rfl, fun _ => by kernel_rfl⟩
theorem nit : (notIntT cx.P 22 = true) ∧
    (notIntT cx.P 23 = true) ∧
    (notIntT cx.P 24 = true) ∧
    (notIntT cx.P 30 = true) ∧
    (notIntT cx.P 32 = true) ∧
    (notIntT cx.P 42 = true) ∧
    (notIntT cx.P 50 = true) ∧
    (notIntT cx.P 58 = true) ∧
    (notIntT cx.P 73 = true) ∧
    (notIntT cx.P 79 = true) ∧
    (notIntT cx.P 119 = true) :=
  ⟨by kernel_rfl, by kernel_rfl, by kernel_rfl, by kernel_rfl, by kernel_rfl, by kernel_rfl, by kernel_rfl, by kernel_rfl, by kernel_rfl, by kernel_rfl, by kernel_rfl⟩
theorem cnQ : (∀ v, PV.one (.lit v) = true) ∧ (∀ a b, PV.one (.imm a b) = true) ∧ (∀ a b c d e, PV.one (.own a b c d e) = true) ∧ (∀ a, PV.one (.cptr a) = true) ∧ (∀ a b c d, PV.one (.ptr a b c d) = true) ∧ (∀ a b c, PV.one (.clo a b c) = true) ∧ (∀ a b, PV.one (.ifc a b) = true) ∧ (∀ a, PV.one (.mp a) = true) ∧ (∀ a b, PV.one (.new a b) = true) ∧ (∀ a, PV.one (.agg a) = false) ∧ (∀ a, PV.one (.tup a) = false) ∧ (∀ v, forget1 (.lit v) = .lit v) ∧ (∀ a b, forget1 (.imm a b) = .imm a b) ∧ (∀ a b c d e, forget1 (.own a b c d e) = .own a b c d e) ∧ (∀ a, forget1 (.cptr a) = .cptr a) ∧ (∀ a b c d, forget1 (.ptr a b c d) = .ptr a b c d) ∧ (∀ a b c, forget1 (.clo a b c) = .clo a b c) ∧ (∀ a b, forget1 (.ifc a b) = .ifc a b) ∧ (∀ a, forget1 (.mp a) = .mp a) ∧ (∀ a b, forget1 (.new a b) = .imm b false) ∧ (∀ a, forget1 (.agg a) = .agg a) ∧ (∀ a, forget1 (.tup a) = .tup a) ∧ (∀ v, forget (.lit v) = .lit v) ∧ (∀ a b, forget (.imm a b) = .imm a b) ∧ (∀ a b c d e, forget (.own a b c d e) = .own a b c d e) ∧ (∀ a, forget (.cptr a) = .cptr a) ∧ (∀ a b c d, forget (.ptr a b c d) = .ptr a b c d) ∧ (∀ a b c, forget (.clo a b c) = .clo a b c) ∧ (∀ a b, forget (.ifc a b) = .ifc a b) ∧ (∀ a, forget (.mp a) = .mp a) ∧ (∀ a b, forget (.new a b) = .imm b false) ∧ (∀ a, forget (.agg a) = .agg a) ∧ (∀ a, forget (.tup a) = .tup (a.map forget1)) ∧ (∀ a, aggD (.struct a) = true) ∧ (∀ a b, aggD (.array a b) = true) ∧ (aggD .bool = false) ∧ (∀ a, aggD (.int a) = false) ∧ (aggD .string = false) ∧ (∀ a, aggD (.slice a) = false) ∧ (∀ a, aggD (.pointer a) = false) ∧ (∀ a b, aggD (.map a b) = false) ∧ (∀ a b c, aggD (.func a b c) = false) :=
  ⟨fun _ => rfl, fun _ _ => rfl, fun _ _ _ _ _ => rfl, fun _ => rfl, fun _ _ _ _ => rfl, fun _ _ _ => rfl, fun _ _ => rfl, fun _ => rfl, fun _ _ => rfl, fun _ => rfl, fun _ => rfl, fun _ => rfl, fun _ _ => rfl, fun _ _ _ _ _ => rfl, fun _ => rfl, fun _ _ _ _ => rfl, fun _ _ _ => rfl, fun _ _ => rfl, fun _ => rfl, fun _ _ => rfl, fun _ => rfl, fun _ => rfl, fun _ => rfl, fun _ _ => rfl, fun _ _ _ _ _ => rfl, fun _ => rfl, fun _ _ _ _ => rfl, fun _ _ _ => rfl, fun _ _ => rfl, fun _ => rfl, fun _ _ => rfl, fun _ => rfl, fun _ => rfl, fun _ => rfl, fun _ _ => rfl, rfl, fun _ => rfl, rfl, fun _ => rfl, fun _ => rfl, fun _ _ => rfl, fun _ _ _ => rfl⟩
theorem bp0 : type_of% (And.intro @vcl (And.intro @vcy (@vco))) := And.intro @vcl (And.intro @vcy (@vco))
theorem bd0 : type_of% (And.intro cnQ (And.intro @vck (And.intro @gR (And.intro @evl (And.intro @evb (And.intro @evBuiltin.eq_1 (And.intro @evBuiltin.eq_2 (And.intro @evBuiltin.eq_3 (And.intro @evLen.eq_1 (And.intro @evLen.eq_2 (And.intro @evLen.eq_3 (And.intro @evLen.eq_4 (And.intro @evLen.eq_5 (And.intro @evLen.eq_6 (And.intro @evIdxA.eq_1 (And.intro @evLoad.eq_1 (And.intro @evLoad.eq_2 (And.intro @loadP.eq_1 (And.intro @tis (And.intro @i64.eq_1 (And.intro @u32.eq_1 (And.intro @bl.eq_1 (And.intro @encL.eq_1 (And.intro @encB.eq_1 (And.intro @encLL.eq_1 (And.intro @wantd.eq_1 (And.intro @tzs (And.intro @eve.eq_1 (And.intro @eve.eq_2 (And.intro @eve.eq_3 (And.intro @eve.eq_4 (And.intro @eve.eq_5 (And.intro @eve.eq_6 (And.intro @eve.eq_7 (And.intro @eve.eq_8 (And.intro @eve.eq_9 (And.intro @eve.eq_10 (And.intro @eve.eq_11 (And.intro @eve.eq_12 (And.intro @evBox.eq_1 (And.intro @evAlloc.eq_1 (And.intro @evBuildSlice.eq_1 (And.intro @evMakeSlice.eq_1 (And.intro @evAppend.eq_1 (And.intro @fillRows.eq_1 (And.intro @fillRows.eq_2 (And.intro @zcells.eq_1 (And.intro @elemsOf.eq_1 (And.intro @elemsOf.eq_2 (And.intro @elemsOf.eq_3 (And.intro @elemsOf.eq_4 (And.intro @putAll.eq_1 (And.intro @putAll.eq_2 (@Int.cast_ofNat_Int)))))))))))))))))))))))))))))))))))))))))))))))))))))) := And.intro cnQ (And.intro @vck (And.intro @gR (And.intro @evl (And.intro @evb (And.intro @evBuiltin.eq_1 (And.intro @evBuiltin.eq_2 (And.intro @evBuiltin.eq_3 (And.intro @evLen.eq_1 (And.intro @evLen.eq_2 (And.intro @evLen.eq_3 (And.intro @evLen.eq_4 (And.intro @evLen.eq_5 (And.intro @evLen.eq_6 (And.intro @evIdxA.eq_1 (And.intro @evLoad.eq_1 (And.intro @evLoad.eq_2 (And.intro @loadP.eq_1 (And.intro @tis (And.intro @i64.eq_1 (And.intro @u32.eq_1 (And.intro @bl.eq_1 (And.intro @encL.eq_1 (And.intro @encB.eq_1 (And.intro @encLL.eq_1 (And.intro @wantd.eq_1 (And.intro @tzs (And.intro @eve.eq_1 (And.intro @eve.eq_2 (And.intro @eve.eq_3 (And.intro @eve.eq_4 (And.intro @eve.eq_5 (And.intro @eve.eq_6 (And.intro @eve.eq_7 (And.intro @eve.eq_8 (And.intro @eve.eq_9 (And.intro @eve.eq_10 (And.intro @eve.eq_11 (And.intro @eve.eq_12 (And.intro @evBox.eq_1 (And.intro @evAlloc.eq_1 (And.intro @evBuildSlice.eq_1 (And.intro @evMakeSlice.eq_1 (And.intro @evAppend.eq_1 (And.intro @fillRows.eq_1 (And.intro @fillRows.eq_2 (And.intro @zcells.eq_1 (And.intro @elemsOf.eq_1 (And.intro @elemsOf.eq_2 (And.intro @elemsOf.eq_3 (And.intro @elemsOf.eq_4 (And.intro @putAll.eq_1 (And.intro @putAll.eq_2 (@Int.cast_ofNat_Int)))))))))))))))))))))))))))))))))))))))))))))))))))))
end Go.Ab
