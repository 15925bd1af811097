/- Notes in the order of their classes. -/
import Derived.Test.YtgcodedanljhpaaGreatDoorPH
import Derived.Test.YtgcodedanljhpaaGreatDoorAcSort
import Derived.Ground.SlsfProg
set_option linter.unusedSimpArgs false
set_option linter.unusedVariables false
section
set_option maxRecDepth 1000000
set_option maxHeartbeats 8000000
namespace Go.Proofs
open Go.Shelf Go.RowKit Go.Lib Go.Sort
def noteSort_ren : Go.Shelf.Ren := ⟨fun | 6 => 93 | 15 => 136 | 14 => 135 | 28 => 162 | 29 => 163 | 20 => 154 | 21 => 155 | 22 => 156 | 23 => 157 | 24 => 158 | 25 => 159 | 26 => 160 | 27 => 161 | 46 => 183 | 47 => 184 | 48 => 185 | 49 => 186 | 50 => 187 | 57 => 195 | n => n, fun | 22 => 76 | 24 => 81 | 25 => 162 | 3 => 3 | 39 => 203 | 0 => 0 | 53 => 227 | 55 => 229 | 4 => 4 | 46 => 221 | 45 => 220 | 50 => 141 | 5 => 5 | 9 => 9 | 66 => 244 | 70 => 248 | 76 => 256 | 77 => 257 | n => n, fun | n => n⟩
theorem noteSort : Go.Proofs.SlLaysF0.n6 Tryz.prog noteSort_ren := {
  mixed := by kernel_rfl
  f6 := ⟨Tryz.f93.name, by decide, Tryz.func93.trans (congrArg some (by kernel_rfl))⟩
  f14 := ⟨Tryz.f135.name, by decide, Tryz.func135.trans (congrArg some (by kernel_rfl))⟩
  f15 := Tryz.func136.trans (congrArg some (by kernel_rfl))
  f20 := ⟨Tryz.f154.name, by decide, Tryz.func154.trans (congrArg some (by kernel_rfl))⟩
  f21 := ⟨Tryz.f155.name, by decide, Tryz.func155.trans (congrArg some (by kernel_rfl))⟩
  f22 := ⟨Tryz.f156.name, by decide, Tryz.func156.trans (congrArg some (by kernel_rfl))⟩
  f23 := ⟨Tryz.f157.name, by decide, Tryz.func157.trans (congrArg some (by kernel_rfl))⟩
  f24 := ⟨Tryz.f158.name, by decide, Tryz.func158.trans (congrArg some (by kernel_rfl))⟩
  f25 := ⟨Tryz.f159.name, by decide, Tryz.func159.trans (congrArg some (by kernel_rfl))⟩
  f26 := ⟨Tryz.f160.name, by decide, Tryz.func160.trans (congrArg some (by kernel_rfl))⟩
  f27 := ⟨Tryz.f161.name, by decide, Tryz.func161.trans (congrArg some (by kernel_rfl))⟩
  f28 := Tryz.func162.trans (congrArg some (by kernel_rfl))
  f29 := Tryz.func163.trans (congrArg some (by kernel_rfl))
  f46 := ⟨Tryz.f183.name, by decide, Tryz.func183.trans (congrArg some (by kernel_rfl))⟩
  f47 := Tryz.func184.trans (congrArg some (by kernel_rfl))
  f48 := Tryz.func185.trans (congrArg some (by kernel_rfl))
  f49 := ⟨Tryz.f186.name, by decide, Tryz.func186.trans (congrArg some (by kernel_rfl))⟩
  f50 := ⟨Tryz.f187.name, by decide, Tryz.func187.trans (congrArg some (by kernel_rfl))⟩
  f57 := ⟨Tryz.f195.name, by decide, Tryz.func195.trans (congrArg some (by kernel_rfl))⟩
  t0 := Tryz.underlying0
  a0 := Tryz.isAgg0
  z0 := Tryz.sizeOf0
  v0 := Tryz.zeroValue0
  t3 := Tryz.underlying3
  a3 := Tryz.isAgg3
  z3 := Tryz.sizeOf3
  v3 := Tryz.zeroValue3
  t4 := Tryz.underlying4
  a4 := Tryz.isAgg4
  z4 := Tryz.sizeOf4
  v4 := Tryz.zeroValue4
  t5 := Tryz.underlying5
  a5 := Tryz.isAgg5
  z5 := Tryz.sizeOf5
  v5 := Tryz.zeroValue5
  t9 := Tryz.underlying9
  a9 := Tryz.isAgg9
  z9 := Tryz.sizeOf9
  v9 := Tryz.zeroValue9
  t22 := Tryz.underlying76
  a22 := Tryz.isAgg76
  z22 := Tryz.sizeOf76
  v22 := Tryz.zeroValue76
  t25 := Tryz.underlying162
  a25 := Tryz.isAgg162
  z25 := Tryz.sizeOf162
  v25 := Tryz.zeroValue162
  t39 := Tryz.underlying203
  a39 := Tryz.isAgg203
  z39 := Tryz.sizeOf203
  v39 := Tryz.zeroValue203
  t45 := Tryz.underlying220
  a45 := Tryz.isAgg220
  z45 := Tryz.sizeOf220
  v45 := Tryz.zeroValue220
  t46 := Tryz.underlying221
  a46 := Tryz.isAgg221
  z46 := Tryz.sizeOf221
  v46 := Tryz.zeroValue221
  t50 := Tryz.underlying141
  a50 := Tryz.isAgg141
  z50 := Tryz.sizeOf141
  v50 := Tryz.zeroValue141
  t53 := Tryz.underlying227
  a53 := Tryz.isAgg227
  z53 := Tryz.sizeOf227
  v53 := Tryz.zeroValue227
  t55 := Tryz.underlying229
  a55 := Tryz.isAgg229
  z55 := Tryz.sizeOf229
  v55 := Tryz.zeroValue229
  t66 := Tryz.underlying244
  a66 := Tryz.isAgg244
  z66 := Tryz.sizeOf244
  v66 := Tryz.zeroValue244
  t70 := Tryz.underlying248
  a70 := Tryz.isAgg248
  z70 := Tryz.sizeOf248
  v70 := Tryz.zeroValue248
  t76 := Tryz.underlying256
  a76 := Tryz.isAgg256
  z76 := Tryz.sizeOf256
  v76 := Tryz.zeroValue256
  t77 := Tryz.underlying257
  a77 := Tryz.isAgg257
  z77 := Tryz.sizeOf257
  v77 := Tryz.zeroValue257 }
end Go.Proofs
namespace Go.Ab
open Go Go.Proofs Go.Sort
theorem bd_PI : type_of% (And.intro @evNext.eq_1 (And.intro @fld (And.intro @nit (And.intro @nxE (And.intro @ghR (And.intro @ovR (And.intro @evBin_seql (And.intro @evBin_sneq (And.intro @str.eq_1 (And.intro @u8.eq_1 (And.intro @encBrs.eq_1 (And.intro @cBr.eq_1 (And.intro @encLdg.eq_1 (And.intro @encKws.eq_1 (And.intro @cKw.eq_1 (And.intro @encEvss.eq_1 (And.intro @encEvs.eq_1 (And.intro @cEv.eq_1 (And.intro @encMks.eq_1 (And.intro @cMk.eq_1 (And.intro @encStrs.eq_1 (And.intro @tk2 (And.intro @tk3 (And.intro @List.set_cons_succ.{0} (And.intro @List.getElem?_cons_zero.{0} (And.intro @List.getElem?_cons_succ.{0} (@List.length_set.{0}))))))))))))))))))))))))))) := And.intro @evNext.eq_1 (And.intro @fld (And.intro @nit (And.intro @nxE (And.intro @ghR (And.intro @ovR (And.intro @evBin_seql (And.intro @evBin_sneq (And.intro @str.eq_1 (And.intro @u8.eq_1 (And.intro @encBrs.eq_1 (And.intro @cBr.eq_1 (And.intro @encLdg.eq_1 (And.intro @encKws.eq_1 (And.intro @cKw.eq_1 (And.intro @encEvss.eq_1 (And.intro @encEvs.eq_1 (And.intro @cEv.eq_1 (And.intro @encMks.eq_1 (And.intro @cMk.eq_1 (And.intro @encStrs.eq_1 (And.intro @tk2 (And.intro @tk3 (And.intro @List.set_cons_succ.{0} (And.intro @List.getElem?_cons_zero.{0} (And.intro @List.getElem?_cons_succ.{0} (@List.length_set.{0}))))))))))))))))))))))))))
def cmpI (a b : Int) : Int := if a < b then -1 else if b < a then 1 else 0
theorem c_isNaN (a : Int) : CallSpec cx 137 [i64 a] (bl false) := by
  refine callSpec_of_vc Tryz.func137 rfl (by decide) (by kernel_rfl) (Nat.le_of_ble_eq_true rfl) ?_
  simp -dsimp (maxSteps := 9^9) (disch := first | omega | decide +kernel) only [↓bp0, bd0, bd_PI, reduceIte, Nat.reduceEqDiff, evStore, Nat.reduceAdd, Nat.reduceMul, Int.reduceEq, Int.reduceLT, Int.reduceLE, Nat.reduceLeDiff, List.reduceReplicate, reduceCtorEq, evRange, Nat.reduceLT, retQ, resL, finL, newL, flat, tupOf, List.toList_toArray, Tryz.f137, decide_true, Bool.not_true]
  exact leT_one .rfl' (by simp)
theorem c_Compare (a b : Int) : CallSpec cx 95 [i64 a, i64 b] (i64 (cmpI a b)) := by
  refine callSpec_of_vc Tryz.func95 rfl (by decide) (by kernel_rfl) (Nat.le_of_ble_eq_true rfl) ?_
  try simp -dsimp (maxSteps := 9^9) (disch := first | omega | decide +kernel) only [↓bp0, bd0, bd_PI, reduceIte, Nat.reduceEqDiff, evStore, Nat.reduceAdd, Nat.reduceMul, Int.reduceEq, Int.reduceLT, Int.reduceLE, Nat.reduceLeDiff, List.reduceReplicate, reduceCtorEq, evRange, Nat.reduceLT, Tryz.f95]
  refine CallQ.imm (c_isNaN a) (by rfl) (by first | rfl | (simp -dsimp (maxSteps := 9^9) (disch := first | omega | decide +kernel) only [↓bp0, bd0, bd_PI, reduceIte, Nat.reduceEqDiff, evStore, Nat.reduceAdd, Nat.reduceMul, Int.reduceEq, Int.reduceLT, Int.reduceLE, Nat.reduceLeDiff, List.reduceReplicate, reduceCtorEq, evRange, Nat.reduceLT, drcs, drc, flat]; done) | simp -dsimp [evl, drcs, drc, flat, i64, u32, bl, encL, encB, encLL]) (by first | exact .inl rfl | exact .inr rfl | exact .inr scalB | exact .inr scalI | exact .inr scalT | exact .inr scalM | exact .inr scalMT | exact .inr scalE | exact .inr scalET | exact .inr scalN | exact .inr scalNT) ?_
  try simp -dsimp (maxSteps := 9^9) (disch := first | omega | decide +kernel) only [↓bp0, bd0, bd_PI, reduceIte, Nat.reduceEqDiff, evStore, Nat.reduceAdd, Nat.reduceMul, Int.reduceEq, Int.reduceLT, Int.reduceLE, Nat.reduceLeDiff, List.reduceReplicate, reduceCtorEq, evRange, Nat.reduceLT]
  refine CallQ.imm (c_isNaN b) (by rfl) (by first | rfl | (simp -dsimp (maxSteps := 9^9) (disch := first | omega | decide +kernel) only [↓bp0, bd0, bd_PI, reduceIte, Nat.reduceEqDiff, evStore, Nat.reduceAdd, Nat.reduceMul, Int.reduceEq, Int.reduceLT, Int.reduceLE, Nat.reduceLeDiff, List.reduceReplicate, reduceCtorEq, evRange, Nat.reduceLT, drcs, drc, flat]; done) | simp -dsimp [evl, drcs, drc, flat, i64, u32, bl, encL, encB, encLL]) (by first | exact .inl rfl | exact .inr rfl | exact .inr scalB | exact .inr scalI | exact .inr scalT | exact .inr scalM | exact .inr scalMT | exact .inr scalE | exact .inr scalET | exact .inr scalN | exact .inr scalNT) ?_
  try simp -dsimp (maxSteps := 9^9) (disch := first | omega | decide +kernel) only [↓bp0, bd0, bd_PI, reduceIte, Nat.reduceEqDiff, evStore, Nat.reduceAdd, Nat.reduceMul, Int.reduceEq, Int.reduceLT, Int.reduceLE, Nat.reduceLeDiff, List.reduceReplicate, reduceCtorEq, evRange, Nat.reduceLT]
  cases h1 : decide (a < b)
  · cases h2 : decide (b < a)
    · simp -dsimp (maxSteps := 9^9) (disch := first | omega | decide +kernel) only [↓bp0, bd0, bd_PI, reduceIte, Nat.reduceEqDiff, evStore, Nat.reduceAdd, Nat.reduceMul, Int.reduceEq, Int.reduceLT, Int.reduceLE, Nat.reduceLeDiff, List.reduceReplicate, reduceCtorEq, evRange, Nat.reduceLT, retQ, resL, finL, newL, flat, tupOf, List.toList_toArray, Tryz.f95, h1, h2]
      refine leT_one (int_eq ?_) (by simp)
      rw [cmpI, if_neg (of_decide_eq_false h1), if_neg (of_decide_eq_false h2)]
    · simp -dsimp (maxSteps := 9^9) (disch := first | omega | decide +kernel) only [↓bp0, bd0, bd_PI, reduceIte, Nat.reduceEqDiff, evStore, Nat.reduceAdd, Nat.reduceMul, Int.reduceEq, Int.reduceLT, Int.reduceLE, Nat.reduceLeDiff, List.reduceReplicate, reduceCtorEq, evRange, Nat.reduceLT, retQ, resL, finL, newL, flat, tupOf, List.toList_toArray, Tryz.f95, h1, h2]
      refine leT_one (int_eq ?_) (by simp)
      rw [cmpI, if_neg (of_decide_eq_false h1), if_pos (of_decide_eq_true h2)]
  · simp -dsimp (maxSteps := 9^9) (disch := first | omega | decide +kernel) only [↓bp0, bd0, bd_PI, reduceIte, Nat.reduceEqDiff, evStore, Nat.reduceAdd, Nat.reduceMul, Int.reduceEq, Int.reduceLT, Int.reduceLE, Nat.reduceLeDiff, List.reduceReplicate, reduceCtorEq, evRange, Nat.reduceLT, retQ, resL, finL, newL, flat, tupOf, List.toList_toArray, Tryz.f95, h1]
    refine leT_one (int_eq ?_) (by simp)
    rw [cmpI, if_pos (of_decide_eq_true h1)]
section
variable (O : List Nt)
def encA (a : Fin O.length) : List Value := [.int .i64 (O[a]).cls, .string (O[a]).chg, .int .u8 (O[a]).kind, .int .i64 (O[a]).pl]
def cfA (a b : Fin O.length) : Int := cmpI (O[a]).cls (O[b]).cls
theorem ltOf_A (a b : Fin O.length) : ltOf (cfA O) a b = true ↔ (O[a]).cls < (O[b]).cls := by
  unfold ltOf cfA cmpI
  rw [decide_eq_true_iff]
  repeat' split
  all_goals omega
theorem ltOf_Af (a b : Fin O.length) : ltOf (cfA O) a b = false ↔ ¬ (O[a]).cls < (O[b]).cls := by rw [← Bool.not_eq_true, ltOf_A]
theorem swoA : SWO (ltOf (cfA O)) where
  irrefl x := by rw [ltOf_Af]; omega
  trans x y z h1 h2 := by rw [ltOf_A] at *; omega
  ntrans x y z h1 h2 := by rw [ltOf_Af] at *; omega
def ClsU : Prop := ∀ i j : Fin O.length, (O[i]).cls = (O[j]).cls → i = j
def srtA (d : List (Fin O.length)) : List (Fin O.length) := d.mergeSort fun x y => !(ltOf (cfA O)) y x
def srtN : List Nt := (srtA O (List.finRange O.length)).map fun a => O[a]
end
theorem rows_A (O : List Nt) (d : List (Fin O.length)) : rowsOf (encA O) d = (d.map fun a => O[a]).map cNt := by
  rw [List.map_map]; rfl
theorem fin_A (O : List Nt) : (List.finRange O.length).map (fun a => O[a]) = O := by
  apply List.ext_getElem
  · simp
  · intro i h1 h2; simp
theorem n_Gone2 (O : List Nt) (x y : Fin O.length) : CallSpec cx 94 ([.agg ((encA O x).map .lit), .agg ((encA O y).map .lit)] ++ []) (.lit (.int .i64 (cfA O x y))) := by
  simp only [encA, List.map_cons, List.map_nil, List.cons_append, List.nil_append]
  refine callSpec_of_vc Tryz.func94 rfl (by decide) (by kernel_rfl) (Nat.le_of_ble_eq_true rfl) ?_
  try simp -dsimp (maxSteps := 9^9) (disch := first | omega | decide +kernel) only [↓bp0, bd0, bd_PI, reduceIte, Nat.reduceEqDiff, evStore, Nat.reduceAdd, Nat.reduceMul, Int.reduceEq, Int.reduceLT, Int.reduceLE, Nat.reduceLeDiff, List.reduceReplicate, reduceCtorEq, evRange, Nat.reduceLT, Tryz.f94]
  refine CallQ.imm (c_Compare (O[x]).cls (O[y]).cls) (by rfl) (by first | rfl | (simp -dsimp (maxSteps := 9^9) (disch := first | omega | decide +kernel) only [↓bp0, bd0, bd_PI, reduceIte, Nat.reduceEqDiff, evStore, Nat.reduceAdd, Nat.reduceMul, Int.reduceEq, Int.reduceLT, Int.reduceLE, Nat.reduceLeDiff, List.reduceReplicate, reduceCtorEq, evRange, Nat.reduceLT, drcs, drc, flat]; done) | simp -dsimp [evl, drcs, drc, flat, i64, u32, bl, encL, encB, encLL]) (by first | exact .inl rfl | exact .inr rfl | exact .inr scalB | exact .inr scalI | exact .inr scalT | exact .inr scalM | exact .inr scalMT | exact .inr scalE | exact .inr scalET | exact .inr scalN | exact .inr scalNT) ?_
  simp -dsimp (maxSteps := 9^9) (disch := first | omega | decide +kernel) only [↓bp0, bd0, bd_PI, reduceIte, Nat.reduceEqDiff, evStore, Nat.reduceAdd, Nat.reduceMul, Int.reduceEq, Int.reduceLT, Int.reduceLE, Nat.reduceLeDiff, List.reduceReplicate, reduceCtorEq, evRange, Nat.reduceLT, retQ, resL, finL, newL, flat, tupOf, List.toList_toArray, Tryz.f94]
  exact leT_one .rfl' (by simp)
theorem tisNote : ti cx.P 81 = some ⟨.struct (sfOf 81), 4, 40⟩ := by kernel_rfl
theorem isAggN (w : World) : (isAgg 81).run cx.P w = .ok true w := by rw [run_isAgg tisNote]; rfl
theorem sizeN (w : World) : (sizeOf 81).run cx.P w = .ok 4 w := run_sizeOf tisNote
theorem n_sort (O : List Nt) (hu : ClsU O) (h0 : 0 < O.length) {σ : Store} {nx id ver : Nat} {clip : Bool} (hσ : σ id = some (.row ver 4 (O.map cNt) false)) (hsz : O.length < 4611686018427387904) :
    StSpec cx 93 [.own id ver 0 O.length clip, .clo (.func 94) [] []] σ nx (fun r σ' nx' => r = .tup [] ∧ nx' = nx ∧ σ' = σ.put id (.row ver 4 ((srtN O).map cNt) false)) := by
  haveI : Inhabited (Fin O.length) := ⟨⟨0, h0⟩⟩
  have hσ' : σ id = some (.row ver 4 (rowsOf (encA O) (List.finRange O.length)) false) := by rw [rows_A, fin_A]; exact hσ
  have htot : ∀ x y : Fin O.length, ltOf (cfA O) x y = false → ltOf (cfA O) y x = false → x = y := fun x y h1 h2 => by
    rw [ltOf_Af] at h1 h2
    exact hu x y (by omega)
  have := sort_st (C := cx) (σ := σ) (nx := nx) (id := id) (ver := ver) (clip := clip) (caps := []) (cargs := []) (d := List.finRange O.length) (k := 4) (enc := encA O) (cf := cfA O) (srt := srtA O) (f := 93) (g := 94) (fun _ => rfl) (fun x => rfl) ?_ ?_ (by kernel_rfl) (by kernel_rfl) (fun d => List.length_mergeSort d) hσ' rfl (n_Gone2 O) (by simpa using hsz)
  · rw [rows_A] at this
    simp only [List.length_finRange] at this
    exact this
  · intro cb blk off cap d w eg hcmp hH hblk hsz
    exact AnyQ.slices_SortFunc_total noteSort 4 isAggN sizeN (encA O) (fun _ => rfl) (fun x v hv => by simp [encA] at hv; rcases hv with rfl | rfl | rfl | rfl <;> rfl) (cfA O) (swoA O) 94 cb blk off cap d w eg hcmp hH hblk hsz htot
  · intro p cap fv w
    exact AnyF.slices_SortFunc_none noteSort p cap fv w
end Go.Ab
end

section
/- notes.Gone. -/
set_option maxRecDepth 1000000
set_option maxHeartbeats 16000000
namespace Go.Ab
open Go Go.Proofs Go.Sort
theorem n_sort0 {σ : Store} {nx id ver : Nat} {clip : Bool} (hσ : σ id = some (.row ver 4 [] false)) :
    StSpec cx 93 [.own id ver 0 0 clip, .clo (.func 94) [] []] σ nx (fun r σ' nx' => r = .tup [] ∧ nx' = nx ∧ σ' = σ.put id (.row ver 4 [] false)) := by
  obtain ⟨O, hO⟩ : ∃ O : List Nt, O = [default] := ⟨_, rfl⟩
  have hl : O.length = 1 := by rw [hO]; rfl
  haveI : Inhabited (Fin O.length) := ⟨⟨0, by omega⟩⟩
  have htot : ∀ x y : Fin O.length, ltOf (cfA O) x y = false → ltOf (cfA O) y x = false → x = y := fun x y _ _ => Fin.ext (by omega)
  have := sort_st (C := cx) (σ := σ) (nx := nx) (id := id) (ver := ver) (clip := clip) (caps := []) (cargs := []) (d := ([] : List (Fin O.length))) (k := 4) (enc := encA O) (cf := cfA O) (srt := srtA O) (f := 93) (g := 94) (fun _ => rfl) (fun x => rfl) ?_ ?_ (by kernel_rfl) (by kernel_rfl) (fun d => List.length_mergeSort d) hσ rfl (n_Gone2 O) (by simp)
  · have e : srtA O [] = [] := by simp [srtA]
    rw [e] at this
    exact this
  · intro cb blk off cap d w eg hcmp hH hblk hsz
    exact AnyQ.slices_SortFunc_total noteSort 4 isAggN sizeN (encA O) (fun _ => rfl) (fun x v hv => by simp [encA] at hv; rcases hv with rfl | rfl | rfl | rfl <;> rfl) (cfA O) (swoA O) 94 cb blk off cap d w eg hcmp hH hblk hsz htot
  · intro p cap fv w
    exact AnyF.slices_SortFunc_none noteSort p cap fv w
theorem srtN_len (O : List Nt) : (srtN O).length = O.length := by
  rw [srtN, List.length_map, srtA, List.length_mergeSort, List.length_finRange]
theorem n_sortA (O : List Nt) (hu : ClsU O) {σ : Store} {nx id ver : Nat} {clip : Bool} (hσ : σ id = some (.row ver 4 (O.map cNt) false)) (hsz : O.length < 4611686018427387904) :
    StSpec cx 93 [.own id ver 0 O.length clip, .clo (.func 94) [] []] σ nx (fun r σ' nx' => r = .tup [] ∧ nx' = nx ∧ σ' = σ.put id (.row ver 4 ((srtN O).map cNt) false)) := by
  rcases Nat.eq_zero_or_pos O.length with h | h
  · have h' : O = [] := List.eq_nil_of_length_eq_zero h
    subst h'
    have e : srtN [] = [] := List.eq_nil_of_length_eq_zero (srtN_len [])
    rw [e]
    exact n_sort0 hσ
  · exact n_sort O hu h hσ hsz
/-! ### classes told once -/
theorem lastsF_pw {f : Str → Int} {v : List Ev} {cs : List Int} : (lastsF f v cs).Pairwise fun a b => a.cls ≠ b.cls := by
  rw [lastsF, List.pairwise_map]
  refine List.Pairwise.imp_of_mem ?_ (List.pairwise_lt_range.filter _)
  intro i j hi hj hij he
  have h1 := (List.mem_filter.1 hi).2
  have h2 := (List.mem_filter.1 hj).2
  unfold selB at h1 h2
  unfold ntAt at he
  cases ei : v[i]? with
  | none => rw [ei] at h1; cases h1
  | some x =>
    cases ej : v[j]? with
    | none => rw [ej] at h2; cases h2
    | some y =>
      rw [ei] at h1 he
      rw [ej] at he
      simp only [Bool.and_eq_true, Bool.not_eq_true'] at h1 he
      have h3 := h1.1
      rw [List.any_eq_false] at h3
      have hm : y ∈ v.drop (i + 1) := by
        refine List.mem_iff_getElem?.2 ⟨j - (i + 1), ?_⟩
        rw [List.getElem?_drop, show i + 1 + (j - (i + 1)) = j from by omega]; exact ej
      exact h3 y hm (by simp [he])
theorem clsU_of {O : List Nt} (h : O.Pairwise fun a b => a.cls ≠ b.cls) : ClsU O := fun i j e => by
  rw [List.pairwise_iff_getElem] at h
  rcases Nat.lt_trichotomy i.val j.val with k | k | k
  · exact absurd e (h i.val j.val i.isLt j.isLt k)
  · exact Fin.ext k
  · exact absurd e.symm (h j.val i.val j.isLt i.isLt k)
def negN (n : Nt) : Nt := { n with pl := -1 }
theorem neg_pw {O : List Nt} (h : O.Pairwise fun a b => a.cls ≠ b.cls) : (O.map negN).Pairwise fun a b => a.cls ≠ b.cls := by
  rw [List.pairwise_map]; exact h
def goneO (f : Str → Int) (vA vB : List Ev) (went : List Int) : List Nt := (lastsF f vA (keepN (lastsF f vB went) went)).map negN
def ngone (l : Ldg) (a b : Str) : List Nt × Int := if (ldiff l a b).2.2 ≠ 0 then ([], (ldiff l a b).2.2)
  else (srtN (goneO (clsI l.known) (evV l a) (evV l b) (ldiff l a b).1) ++ lastsF (clsI l.known) (evV l b) (ldiff l a b).1, 0)
theorem lastsF_len {f : Str → Int} {v : List Ev} {cs : List Int} : (lastsF f v cs).length ≤ v.length := by
  rw [lastsF, List.length_map]
  refine Nat.le_trans (List.length_filter_le _ _) (by rw [List.length_range]; exact Nat.le_refl _)
def negK (O : List Nt) (i : Nat) : List Nt := (O.take i).map negN ++ O.drop i
theorem negK_zero {O : List Nt} : negK O 0 = O := by simp [negK]
theorem negK_end {O : List Nt} : negK O O.length = O.map negN := by simp [negK]
theorem negK_len {O : List Nt} {i : Nat} : (negK O i).length = O.length := by simp [negK]; omega
theorem negK_at {O : List Nt} {i : Nat} {n : Nt} (h : O[i]? = some n) : (negK O i)[i]? = some n := by
  have hi := (List.getElem?_eq_some_iff.1 h).1
  rw [negK, List.getElem?_append_right (by simp; omega), List.getElem?_drop]
  simp only [List.length_map, List.length_take]
  rw [show i + (i - min i O.length) = i from by omega]; exact h
theorem negK_step {O : List Nt} {i : Nat} {n : Nt} (h : O[i]? = some n) : (negK O i).set i (negN n) = negK O (i + 1) := by
  have hi := (List.getElem?_eq_some_iff.1 h).1
  have hl : ((O.take i).map negN).length = i := by simp; omega
  have hd : O.drop i = n :: O.drop (i + 1) := by rw [List.drop_eq_getElem_cons hi]; congr 1; rw [List.getElem?_eq_getElem hi] at h; exact Option.some.inj h
  rw [negK, negK, List.set_append_right _ _ (by omega), hl, Nat.sub_self, hd, List.set_cons_zero, take_succ h, List.map_append, List.append_assoc]; rfl
end Go.Ab
end

section
/- notes.Gone, walked. -/
set_option maxRecDepth 1000000
set_option maxHeartbeats 16000000
namespace Go.Ab
open Go Go.Proofs Go.Sort
theorem bd_PK : type_of% (And.intro @evNext.eq_1 (And.intro @fld (And.intro @nit (And.intro @nxE (And.intro @ghR (And.intro @ovR (And.intro @evBin_seql (And.intro @evBin_sneq (And.intro @str.eq_1 (And.intro @u8.eq_1 (And.intro @encBrs.eq_1 (And.intro @cBr.eq_1 (And.intro @encLdg.eq_1 (And.intro @encKws.eq_1 (And.intro @cKw.eq_1 (And.intro @encEvss.eq_1 (And.intro @encEvs.eq_1 (And.intro @cEv.eq_1 (And.intro @encMks.eq_1 (And.intro @cMk.eq_1 (And.intro @encStrs.eq_1 (And.intro @tk2 (And.intro @tk3 (And.intro @List.set_cons_succ.{0} (And.intro @List.getElem?_cons_zero.{0} (And.intro @List.getElem?_cons_succ.{0} (@List.length_set.{0}))))))))))))))))))))))))))) := And.intro @evNext.eq_1 (And.intro @fld (And.intro @nit (And.intro @nxE (And.intro @ghR (And.intro @ovR (And.intro @evBin_seql (And.intro @evBin_sneq (And.intro @str.eq_1 (And.intro @u8.eq_1 (And.intro @encBrs.eq_1 (And.intro @cBr.eq_1 (And.intro @encLdg.eq_1 (And.intro @encKws.eq_1 (And.intro @cKw.eq_1 (And.intro @encEvss.eq_1 (And.intro @encEvs.eq_1 (And.intro @cEv.eq_1 (And.intro @encMks.eq_1 (And.intro @cMk.eq_1 (And.intro @encStrs.eq_1 (And.intro @tk2 (And.intro @tk3 (And.intro @List.set_cons_succ.{0} (And.intro @List.getElem?_cons_zero.{0} (And.intro @List.getElem?_cons_succ.{0} (@List.length_set.{0}))))))))))))))))))))))))))
theorem d_DeleteFuncN (bh : List Nt) (hb : bh.length ≤ 2^30) (L : List Int) (hL : L.length ≤ 2^30) (n : Nat) (hn : n = L.length) (σ0 : Store) (nx id bx vb : Nat) (hσ : σ0 id = some (.row 0 1 (L.map fun n => [i64 n]) false)) (hx0 : σ0 bx = some (.row vb 1 [[encNts bh]] false)) (hne : ¬ bx = id) :
    StSpec cx 88 [.own id 0 0 n false, .clo (.func 90) [] [.ptr bx vb 0 0]] σ0 nx
      (fun r σ' nx' => nx ≤ nx' ∧ ∃ E : List Int, E.length = L.length ∧ E.take (keepN bh L).length = keepN bh L ∧ r = .own id 0 0 (keepN bh L).length false ∧ σ' = σ0.put id (.row 0 1 (E.map fun n => [i64 n]) false)) := by
  subst hn; exact d_DeleteFunc bh hb L hL σ0 nx id bx vb hσ hx0 hne
theorem n_sortN (O : List Nt) (hu : ClsU O) (n : Nat) (hn : n = O.length) {σ : Store} {nx id ver : Nat} {clip : Bool} (hσ : σ id = some (.row ver 4 (O.map cNt) false)) (hsz : O.length < 4611686018427387904) :
    StSpec cx 93 [.own id ver 0 n clip, .clo (.func 94) [] []] σ nx (fun r σ' nx' => r = .tup [] ∧ nx' = nx ∧ σ' = σ.put id (.row ver 4 ((srtN O).map cNt) false)) := by
  subst hn; exact n_sortA O hu hσ hsz
theorem allNt {l : List Nt} : ((l.map cNt).all fun e => e.length == 4) = true := by
  rw [List.all_map, List.all_eq_true]; intro x _; rfl
theorem n_Gone (l : Ldg) (a b : Str) (hz : LSz l) : CallSpec cx 36 [encLdg l, str a, str b] (.tup [newNts (ngone l a b).1, i64 (ngone l a b).2]) := by
  refine callSpec_of_vc Tryz.func36 rfl (by decide) (by kernel_rfl) (Nat.le_of_ble_eq_true rfl) ?_
  try simp -dsimp (maxSteps := 9^9) (disch := first | omega | decide +kernel) only [↓bp0, bd0, bd_PK, reduceIte, Nat.reduceEqDiff, evStore, Nat.reduceAdd, Nat.reduceMul, Int.reduceEq, Int.reduceLT, Int.reduceLE, Nat.reduceLeDiff, List.reduceReplicate, reduceCtorEq, evRange, Nat.reduceLT, Tryz.f36]
  refine CallQ.imm (d_Differ l a b hz) (by rfl) (by first | rfl | (simp -dsimp (maxSteps := 9^9) (disch := first | omega | decide +kernel) only [↓bp0, bd0, bd_PK, reduceIte, Nat.reduceEqDiff, evStore, Nat.reduceAdd, Nat.reduceMul, Int.reduceEq, Int.reduceLT, Int.reduceLE, Nat.reduceLeDiff, List.reduceReplicate, reduceCtorEq, evRange, Nat.reduceLT, drcs, drc, flat]; done) | simp -dsimp [evl, drcs, drc, flat, i64, u32, bl, encL, encB, encLL]) (by first | exact .inl rfl | exact .inr rfl | exact .inr scalB | exact .inr scalI | exact .inr scalT | exact .inr scalM | exact .inr scalMT | exact .inr scalE | exact .inr scalET | exact .inr scalN | exact .inr scalNT) ?_
  cases h0 : decide ((ldiff l a b).2.2 = 0)
  · have h0' := of_decide_eq_false h0
    rw [ngone, if_pos h0']
    simp -dsimp (maxSteps := 9^9) (disch := first | omega | decide +kernel) only [↓bp0, bd0, bd_PK, reduceIte, Nat.reduceEqDiff, evStore, Nat.reduceAdd, Nat.reduceMul, Int.reduceEq, Int.reduceLT, Int.reduceLE, Nat.reduceLeDiff, List.reduceReplicate, reduceCtorEq, evRange, Nat.reduceLT, retQ, resL, finL, newL, flat, tupOf, List.toList_toArray, Tryz.f36, h0, newI]
    exact ⟨.inr ⟨rfl, 4, rfl⟩, .rfl', trivial⟩
  have h0' := of_decide_eq_true h0
  obtain ⟨ha, hb⟩ := ldiff_ok h0'
  rw [ngone, if_neg (by rw [Decidable.not_not]; exact h0')]
  have hcl : (ldiff l a b).1.length ≤ 30 := by
    rw [ldiff, if_neg (by rw [Decidable.not_not]; exact ha), if_neg (by rw [Decidable.not_not]; exact hb)]
    exact onlyL_len
  have hlA := evV_len ha
  have hlB := evV_len hb
  have vA := n_viewOk l a hz ha
  have vB := n_viewOk l b hz hb
  generalize (ldiff l a b).1 = W at hcl ⊢
  generalize evV l a = eA at hlA vA ⊢
  generalize evV l b = eB at hlB vB ⊢
  try simp -dsimp (maxSteps := 9^9) (disch := first | omega | decide +kernel) only [↓bp0, bd0, bd_PK, reduceIte, Nat.reduceEqDiff, evStore, Nat.reduceAdd, Nat.reduceMul, Int.reduceEq, Int.reduceLT, Int.reduceLE, Nat.reduceLeDiff, List.reduceReplicate, reduceCtorEq, evRange, Nat.reduceLT, h0, newI]
  refine CallQ.imm (vB) (by rfl) (by first | rfl | (simp -dsimp (maxSteps := 9^9) (disch := first | omega | decide +kernel) only [↓bp0, bd0, bd_PK, reduceIte, Nat.reduceEqDiff, evStore, Nat.reduceAdd, Nat.reduceMul, Int.reduceEq, Int.reduceLT, Int.reduceLE, Nat.reduceLeDiff, List.reduceReplicate, reduceCtorEq, evRange, Nat.reduceLT, drcs, drc, flat]; done) | simp -dsimp [evl, drcs, drc, flat, i64, u32, bl, encL, encB, encLL]) (by first | exact .inl rfl | exact .inr rfl | exact .inr scalB | exact .inr scalI | exact .inr scalT | exact .inr scalM | exact .inr scalMT | exact .inr scalE | exact .inr scalET | exact .inr scalN | exact .inr scalNT) ?_
  try simp -dsimp (maxSteps := 9^9) (disch := first | omega | decide +kernel) only [↓bp0, bd0, bd_PK, reduceIte, Nat.reduceEqDiff, evStore, Nat.reduceAdd, Nat.reduceMul, Int.reduceEq, Int.reduceLT, Int.reduceLE, Nat.reduceLeDiff, List.reduceReplicate, reduceCtorEq, evRange, Nat.reduceLT, newEvs]
  refine CallQ.imm (vA) (by rfl) (by first | rfl | (simp -dsimp (maxSteps := 9^9) (disch := first | omega | decide +kernel) only [↓bp0, bd0, bd_PK, reduceIte, Nat.reduceEqDiff, evStore, Nat.reduceAdd, Nat.reduceMul, Int.reduceEq, Int.reduceLT, Int.reduceLE, Nat.reduceLeDiff, List.reduceReplicate, reduceCtorEq, evRange, Nat.reduceLT, drcs, drc, flat]; done) | simp -dsimp [evl, drcs, drc, flat, i64, u32, bl, encL, encB, encLL]) (by first | exact .inl rfl | exact .inr rfl | exact .inr scalB | exact .inr scalI | exact .inr scalT | exact .inr scalM | exact .inr scalMT | exact .inr scalE | exact .inr scalET | exact .inr scalN | exact .inr scalNT) ?_
  have cB := n_lasts l eB W hz.known (by omega) (by omega)
  obtain ⟨f, hf⟩ : ∃ f, f = clsI l.known := ⟨_, rfl⟩
  have hBl : (lastsF f eB W).length ≤ 2^20 := Nat.le_trans lastsF_len hlB
  rw [← hf] at cB ⊢
  have cO := fun L h => n_lasts l eA L hz.known (by omega) h
  rw [← hf] at cO
  generalize hBH : lastsF f eB W = BH at cB hBl ⊢
  try simp -dsimp (maxSteps := 9^9) (disch := first | omega | decide +kernel) only [↓bp0, bd0, bd_PK, reduceIte, Nat.reduceEqDiff, evStore, Nat.reduceAdd, Nat.reduceMul, Int.reduceEq, Int.reduceLT, Int.reduceLE, Nat.reduceLeDiff, List.reduceReplicate, reduceCtorEq, evRange, Nat.reduceLT, newEvs]
  refine CallQ.imm (cB) (by rfl) (by first | rfl | (simp -dsimp (maxSteps := 9^9) (disch := first | omega | decide +kernel) only [↓bp0, bd0, bd_PK, reduceIte, Nat.reduceEqDiff, evStore, Nat.reduceAdd, Nat.reduceMul, Int.reduceEq, Int.reduceLT, Int.reduceLE, Nat.reduceLeDiff, List.reduceReplicate, reduceCtorEq, evRange, Nat.reduceLT, drcs, drc, flat, encL]; done) | simp -dsimp [evl, drcs, drc, flat, i64, u32, bl, encL, encB, encLL]) (by first | exact .inl rfl | exact .inr rfl | exact .inr scalB | exact .inr scalI | exact .inr scalT | exact .inr scalM | exact .inr scalMT | exact .inr scalE | exact .inr scalET | exact .inr scalN | exact .inr scalNT) ?_
  try simp -dsimp (maxSteps := 9^9) (disch := first | omega | decide +kernel) only [↓bp0, bd0, bd_PK, reduceIte, Nat.reduceEqDiff, evStore, Nat.reduceAdd, Nat.reduceMul, Int.reduceEq, Int.reduceLT, Int.reduceLE, Nat.reduceLeDiff, List.reduceReplicate, reduceCtorEq, evRange, Nat.reduceLT, newNts]
  refine CallQ.thaw (clN_I W (by omega)) (by rfl) (by first | rfl | (simp -dsimp (maxSteps := 9^9) (disch := first | omega | decide +kernel) only [↓bp0, bd0, bd_PK, reduceIte, Nat.reduceEqDiff, evStore, Nat.reduceAdd, Nat.reduceMul, Int.reduceEq, Int.reduceLT, Int.reduceLE, Nat.reduceLeDiff, List.reduceReplicate, reduceCtorEq, evRange, Nat.reduceLT, drcs, drc, flat, encL]; done)) flLitI ?_
  try simp -dsimp (maxSteps := 9^9) (disch := first | omega | decide +kernel) only [↓bp0, bd0, bd_PK, reduceIte, Nat.reduceEqDiff, evStore, Nat.reduceAdd, Nat.reduceMul, Int.reduceEq, Int.reduceLT, Int.reduceLE, Nat.reduceLeDiff, List.reduceReplicate, reduceCtorEq, evRange, Nat.reduceLT]
  refine CallQ.inm (d_DeleteFuncN BH (by omega) W (by omega) ((W.map fun n => [i64 n]).length) (by rw [List.length_map]) _ _ 2 1 0 ?_ ?_ (by decide)) (by rfl) ?_
  · try simp -dsimp (maxSteps := 9^9) (disch := first | omega | decide +kernel) only [↓bp0, bd0, bd_PK, reduceIte, Nat.reduceEqDiff, evStore, Nat.reduceAdd, Nat.reduceMul, Int.reduceEq, Int.reduceLT, Int.reduceLE, Nat.reduceLeDiff, List.reduceReplicate, reduceCtorEq, evRange, Nat.reduceLT]
  · try simp -dsimp (maxSteps := 9^9) (disch := first | omega | decide +kernel) only [↓bp0, bd0, bd_PK, reduceIte, Nat.reduceEqDiff, evStore, Nat.reduceAdd, Nat.reduceMul, Int.reduceEq, Int.reduceLT, Int.reduceLE, Nat.reduceLeDiff, List.reduceReplicate, reduceCtorEq, evRange, Nat.reduceLT, encNts]
  rintro r σ' nx1 ⟨hn1, E, hE, hEk, rfl, rfl⟩
  have hn1' : 3 ≤ nx1 := hn1
  have hKl : (keepN BH W).length ≤ W.length := List.length_filter_le _ _
  have hEm : List.take (keepN BH W).length (E.map fun n => [PV.lit (.int .i64 n)]) = (keepN BH W).map fun n => [PV.lit (.int .i64 n)] := by rw [← List.map_take, hEk]
  have hKE : (keepN BH W).length ≤ E.length := by omega
  have cO1 := cO (keepN BH W) (by omega)
  have hOl : (lastsF f eA (keepN BH W)).length ≤ 2^20 := Nat.le_trans lastsF_len hlA
  have hpw := lastsF_pw (f := f) (v := eA) (cs := keepN BH W)
  have hgo : goneO f eA eB W = (lastsF f eA (keepN BH W)).map negN := by rw [goneO, hBH]
  rw [hgo]
  generalize lastsF f eA (keepN BH W) = O at cO1 hOl hpw ⊢
  have E1 : (nx1 = 0) = False := eq_false (by omega)
  have E2 : (nx1 = 1) = False := eq_false (by omega)
  have E3 : (nx1 = 2) = False := eq_false (by omega)
  have F1 : (0 = nx1) = False := eq_false (by omega)
  have F2 : (1 = nx1) = False := eq_false (by omega)
  have F3 : (2 = nx1) = False := eq_false (by omega)
  try simp -dsimp (maxSteps := 9^9) (disch := first | omega | decide +kernel) only [↓bp0, bd0, bd_PK, reduceIte, Nat.reduceEqDiff, evStore, Nat.reduceAdd, Nat.reduceMul, Int.reduceEq, Int.reduceLT, Int.reduceLE, Nat.reduceLeDiff, List.reduceReplicate, reduceCtorEq, evRange, Nat.reduceLT, E1, E2, E3, F1, F2, F3]
  refine CallQ.thaw (cO1) (by rfl) (by first | rfl | (simp -dsimp (maxSteps := 9^9) (disch := first | omega | decide +kernel) only [↓bp0, bd0, bd_PK, reduceIte, Nat.reduceEqDiff, evStore, Nat.reduceAdd, Nat.reduceMul, Int.reduceEq, Int.reduceLT, Int.reduceLE, Nat.reduceLeDiff, List.reduceReplicate, reduceCtorEq, evRange, Nat.reduceLT, drcs, drc, flat, encL, hEm, hKE, List.length_map, List.drop_zero, Nat.zero_add, E1, E2, E3, F1, F2, F3]; done)) litNt ?_
  try simp -dsimp (maxSteps := 9^9) (disch := first | omega | decide +kernel) only [↓bp0, bd0, bd_PK, reduceIte, Nat.reduceEqDiff, evStore, Nat.reduceAdd, Nat.reduceMul, Int.reduceEq, Int.reduceLT, Int.reduceLE, Nat.reduceLeDiff, List.reduceReplicate, reduceCtorEq, evRange, Nat.reduceLT, E1, E2, E3, F1, F2, F3]
  have hpw' := neg_pw hpw
  refine LoopQ.rule (fun m st => ∃ i : Nat, i ≤ O.length ∧ m = O.length - i ∧
    st = ⟨mkE [(13, .ptr 1 0 0 0), (15, .own nx1 0 0 O.length false), (59, i64 O.length), (60, i64 i)], mkS [(1, .row 0 1 [[encNts BH]] false), (nx1, .row 0 4 ((negK O i).map cNt) false)], nx1 + 1⟩) _ _ (weak_of ?_)
    ⟨0, by omega, rfl, rfl⟩ ?_
  · first | (simp -dsimp (maxSteps := 9^9) (disch := first | omega | decide +kernel) only [↓bp0, bd0, bd_PK, reduceIte, Nat.reduceEqDiff, evStore, Nat.reduceAdd, Nat.reduceMul, Int.reduceEq, Int.reduceLT, Int.reduceLE, Nat.reduceLeDiff, List.reduceReplicate, reduceCtorEq, evRange, Nat.reduceLT, negK_zero, encNts, List.length_map, E1, E2, E3, F1, F2, F3]; done) | simp -dsimp [evl, putN, i64, u32, bl, encL, encB, encLL, negK_zero, encNts, List.length_map, E1, E2, E3, F1, F2, F3]
  rintro m st ⟨i, hi, rfl, rfl⟩
  try simp -dsimp (maxSteps := 9^9) (disch := first | omega | decide +kernel) only [↓bp0, bd0, bd_PK, reduceIte, Nat.reduceEqDiff, evStore, Nat.reduceAdd, Nat.reduceMul, Int.reduceEq, Int.reduceLT, Int.reduceLE, Nat.reduceLeDiff, List.reduceReplicate, reduceCtorEq, evRange, Nat.reduceLT, E1, E2, E3, F1, F2, F3]
  refine onC_nlt (fun h2 => ?_) (fun h2 => ?_)
  · obtain ⟨n, hx, _⟩ := get_of_lt h2
    have hx1 := negK_at hx
    have hst := negK_step hx
    have hnl := negK_len (O := O) (i := i)
    have hst' : ((negK O i).map cNt).set i [.lit (.int .i64 n.cls), .lit (.string n.chg), .lit (.int .u8 n.kind), .lit (.int .i64 (-1))] = (negK O (i + 1)).map cNt := by rw [← hst, List.map_set]; rfl
    try simp -dsimp (maxSteps := 9^9) (disch := first | omega | decide +kernel) only [↓bp0, bd0, bd_PK, reduceIte, Nat.reduceEqDiff, evStore, Nat.reduceAdd, Nat.reduceMul, Int.reduceEq, Int.reduceLT, Int.reduceLE, Nat.reduceLeDiff, List.reduceReplicate, reduceCtorEq, evRange, Nat.reduceLT, hx1, h2, hnl, cNt, E1, E2, E3, F1, F2, F3]
    refine ⟨_, _, ?_, weak_of ?_, i + 1, h2, rfl, rfl⟩
    · omega
    · first | (simp -dsimp (maxSteps := 9^9) (disch := first | omega | decide +kernel) only [↓bp0, bd0, bd_PK, reduceIte, Nat.reduceEqDiff, evStore, Nat.reduceAdd, Nat.reduceMul, Int.reduceEq, Int.reduceLT, Int.reduceLE, Nat.reduceLeDiff, List.reduceReplicate, reduceCtorEq, evRange, Nat.reduceLT, wrapS h2 (show O.length ≤ 9223372036854775807 by omega), hst', cNt, E1, E2, E3, F1, F2, F3]; done) | simp -dsimp [evl, putN, i64, u32, bl, encL, encB, encLL, wrapS h2 (show O.length ≤ 9223372036854775807 by omega), hst', cNt, E1, E2, E3, F1, F2, F3]
  · have hil : i = O.length := by omega
    subst hil
    rw [negK_end]
    have hol : (O.map negN).length = O.length := List.length_map _
    try simp -dsimp (maxSteps := 9^9) (disch := first | omega | decide +kernel) only [↓bp0, bd0, bd_PK, reduceIte, Nat.reduceEqDiff, evStore, Nat.reduceAdd, Nat.reduceMul, Int.reduceEq, Int.reduceLT, Int.reduceLE, Nat.reduceLeDiff, List.reduceReplicate, reduceCtorEq, evRange, Nat.reduceLT, E1, E2, E3, F1, F2, F3]
    refine CallQ.inm (n_sortN (O.map negN) (clsU_of hpw') O.length hol.symm (ver := 0) (id := nx1) ?_ (by omega)) (by rfl) ?_
    · try simp -dsimp (maxSteps := 9^9) (disch := first | omega | decide +kernel) only [↓bp0, bd0, bd_PK, reduceIte, Nat.reduceEqDiff, evStore, Nat.reduceAdd, Nat.reduceMul, Int.reduceEq, Int.reduceLT, Int.reduceLE, Nat.reduceLeDiff, List.reduceReplicate, reduceCtorEq, evRange, Nat.reduceLT, E1, E2, E3, F1, F2, F3]
    rintro r σ' nx2 ⟨rfl, rfl, rfl⟩
    have hsl := srtN_len (O.map negN)
    rw [hol] at hsl
    have hbd : (O.length + BH.length) * 40 ≤ 140737488355328 := by omega
    generalize srtN (O.map negN) = SO at hsl ⊢
    have hT : List.take (O.length + BH.length) (SO.map cNt ++ BH.map cNt) = SO.map cNt ++ BH.map cNt := List.take_of_length_le (by simp; omega)
    have hfl : ((SO.map cNt ++ BH.map cNt).all fun e => e.all flat) = true := by rw [List.all_append, flNt, flNt]; rfl
    simp -dsimp (maxSteps := 9^9) (disch := first | omega | decide +kernel) only [↓bp0, bd0, bd_PK, reduceIte, Nat.reduceEqDiff, evStore, Nat.reduceAdd, Nat.reduceMul, Int.reduceEq, Int.reduceLT, Int.reduceLE, Nat.reduceLeDiff, List.reduceReplicate, reduceCtorEq, evRange, Nat.reduceLT, retQ, resL, finL, newL, flat, tupOf, List.toList_toArray, Tryz.f36, encNts, allNt, hbd, hsl, hT, hfl, List.length_append, List.length_map, List.map_append, newNts, E1, E2, E3, F1, F2, F3]
    exact ⟨.rfl', .rfl', trivial⟩
end Go.Ab
end
