/- Abstract values: arguments, in their depth. -/
import Derived.Test.YtgcodedanljhpaaDoorAcDeep
import Derived.KernelRfl
set_option linter.unusedSimpArgs false
set_option linter.unusedVariables false
section
namespace Go.Ab
open Go
theorem RelList.deep {κ : Kn} {w : World} : ∀ {ps qs : List PV} {vs : List Value}, RelList κ w ps vs → leDs ps qs → RelList κ w qs vs
  | [], qs, vs, h, hl => by simp only [leDs] at hl; subst hl; exact h
  | p :: ps, qs, vs, h, hl => by
    simp only [leDs] at hl
    obtain ⟨q, qs', rfl, h1, h2⟩ := hl
    simp only [RelList] at h ⊢
    obtain ⟨v, vs', e, g1, g2⟩ := h
    exact ⟨v, vs', e, Rel.deep p q v g1 h1, RelList.deep g2 h2⟩
end Go.Ab
end

section
/- Abstract values: what texts of all seats use: encodings, small facts about lists, numbers, results. -/
set_option maxRecDepth 100000
namespace Go.Ab
open Go
def i64 (n : Int) : PV := .lit (.int .i64 n)
def u32 (n : Int) : PV := .lit (.int .u32 n)
def bl (b : Bool) : PV := .lit (.bool b)
def nn : PV := .lit (.slice none 0 0)
def encL (l : List Int) : PV := .imm (l.map fun i => [i64 i]) false
def encLL (l : List (List Int)) : PV := .imm (l.map fun x => [encL x]) false
def encB (l : List Bool) : PV := .imm (l.map fun b => [bl b]) false
def newB (l : List Bool) : PV := .new 1 (l.map fun b => [bl b])
def newI (l : List Int) : PV := .new 1 (l.map fun i => [i64 i])
def fi {α : Type} (p : α → Bool) : List α → Int
  | [] => -1
  | x :: l => if p x then 0 else if fi p l = -1 then -1 else fi p l + 1
theorem putN : ∀ {st : St} {p : PV}, st.put none p = st := rfl
theorem flI : ∀ {k : IntKind} {l : List Int}, ((l.map fun i => [PV.lit (Value.int k i)]).all fun e => e.all flat) = true := by
  intro k l; rw [List.all_map, List.all_eq_true]; intro x hx; rfl
theorem flB : ∀ {l : List Bool}, ((l.map fun i => [PV.lit (Value.bool i)]).all fun e => e.all flat) = true := by
  intro l; rw [List.all_map, List.all_eq_true]; intro x hx; rfl
theorem flU : ∀ {k : IntKind} {n : Nat} {l : List (BitVec n)}, ((l.map fun i => [PV.lit (Value.int k (i.toNat : Int))]).all fun e => e.all flat) = true := by
  intro k n l; rw [List.all_map, List.all_eq_true]; intro x hx; rfl
theorem flLitI {l : List Int} : (l.map fun i => [i64 i]).all (fun e => e.all isLit) = true := by
  rw [List.all_map, List.all_eq_true]; intro x hx; rfl
theorem takeI : ∀ {α β : Type} {l : List α} {f : α → β}, List.take l.length (l.map f) = l.map f := by
  intro α β l f; rw [List.take_of_length_le (by simp)]
theorem natK : (∀ k, natOf (.lit (.int k 0)) = some 0) ∧ (∀ k, natOf (.lit (.int k 1)) = some 1) ∧ (∀ k, natOf (.lit (.int k 2)) = some 2) := ⟨fun _ => rfl, fun _ => rfl, fun _ => rfl⟩
theorem get_of_lt {α : Type} {l : List α} {i : Nat} (h : i < l.length) : ∃ x, l[i]? = some x ∧ x ∈ l := ⟨l[i], by simp [h], List.getElem_mem h⟩
theorem onC_nlt {a b : Nat} {t e : Prop} (h1 : a < b → t) (h2 : b ≤ a → e) : onC (some (.lit (.bool (decide ((a : Int) < (b : Int)))))) t e :=
  onC_dec (fun h => h1 (by omega)) (fun h => h2 (by omega))
theorem fi_at {α : Type} (p : α → Bool) : ∀ (l : List α) (i : Nat) (x : α), l[i]? = some x → (∀ j, j < i → ∀ y, l[j]? = some y → p y = false) → p x = true → fi p l = i
  | [], i, x, h, _, _ => by simp at h
  | y :: l, 0, x, h, _, hp => by simp at h; subst h; simp [fi, hp]
  | y :: l, i + 1, x, h, hj, hp => by
    have h1 := fi_at p l i x (by simpa using h) (fun j hj' z hz => hj (j + 1) (by omega) z (by simpa using hz)) hp
    have h2 := hj 0 (by omega) y (by simp)
    rw [fi, h2, h1]
    simp only [Bool.false_eq_true, if_false]
    rw [if_neg (by omega)]
    omega
theorem fi_none {α : Type} (p : α → Bool) : ∀ (l : List α), (∀ (j : Nat) (y : α), l[j]? = some y → p y = false) → fi p l = -1
  | [], _ => rfl
  | y :: l, h => by
    rw [fi, h 0 y (by simp), fi_none p l fun j z hz => h (j + 1) z (by simpa using hz)]
    simp
theorem fi_lo {α : Type} (p : α → Bool) : ∀ (l : List α), -1 ≤ fi p l
  | [] => by simp [fi]
  | y :: l => by
    have := fi_lo p l
    rw [fi]; split
    · omega
    · split <;> omega
theorem fi_any {α : Type} (p : α → Bool) : ∀ (l : List α), (0 ≤ fi p l) ↔ l.any p = true
  | [] => by simp [fi]
  | y :: l => by
    have := fi_any p l
    have h2 := fi_lo p l
    rw [fi, List.any_cons]
    cases hp : p y
    · simp only [Bool.false_eq_true, if_false, Bool.false_or]
      rw [← this]; split <;> omega
    · simp
theorem fi_spec {α : Type} (p : α → Bool) (l : List α) : (fi p l = -1 ∧ ∀ x ∈ l, p x = false) ∨ ∃ (k : Nat) (x : α), fi p l = k ∧ l[k]? = some x ∧ p x = true ∧ ∀ j, j < k → ∀ y, l[j]? = some y → p y = false := by
  induction l with
  | nil => exact .inl ⟨rfl, by simp⟩
  | cons y l ih =>
    cases hp : p y
    · rcases ih with ⟨h1, h2⟩ | ⟨k, x, h1, h2, h3, h4⟩
      · exact .inl ⟨by rw [fi, hp, h1]; simp, fun x hx => by
        rcases List.mem_cons.1 hx with rfl | hx
        · exact hp
        · exact h2 x hx⟩
      · refine .inr ⟨k + 1, x, ?_, by simpa using h2, h3, fun j hj z hz => ?_⟩
        · rw [fi, hp, h1]; simp only [Bool.false_eq_true, if_false]; rw [if_neg (by omega)]; omega
        · cases j with
          | zero => simp at hz; subst hz; exact hp
          | succ j => exact h4 j (by omega) z (by simpa using hz)
    · exact .inr ⟨0, y, by simp [fi, hp], by simp, hp, by omega⟩
theorem wrapS {i n : Nat} (h : i < n) (hn : n ≤ 9223372036854775807) : IntKind.i64.wrap ((i : Int) + 1) = ((i + 1 : Nat) : Int) := by
  rw [IntWalk.i64_in _ (by omega)]; omega
theorem bl_eq {a b : Bool} (h : a = b) : le1 (.lit (.bool a)) (.lit (.bool b)) := h ▸ .rfl'
theorem int_eq {k : IntKind} {a b : Int} (h : a = b) : le1 (.lit (.int k a)) (.lit (.int k b)) := h ▸ .rfl'
theorem share {B G : Prop} (h : B → G) (hb : B) : G := h hb
theorem take_succ {α : Type} {l : List α} {i : Nat} {x : α} (h : l[i]? = some x) : l.take (i + 1) = l.take i ++ [x] := by
  rw [List.take_add_one, h]; rfl
theorem uUn : (∀ {P k a}, purely P (Op.unary .neg (.int k a)) = some (.int k (k.wrap (0 - a)))) ∧ (∀ {P b}, purely P (Op.unary .not (.bool b)) = some (.bool !b)) ∧
    (∀ {v}, conc (.lit v) = some v) ∧ (∀ {k n}, ofV (.int k n) = some (.lit (.int k n))) ∧ (∀ {b}, ofV (.bool b) = some (.lit (.bool b))) :=
  ⟨rfl, rfl, rfl, rfl, rfl⟩
theorem scalB {l : List Bool} : scal (newB l) = true := by
  simp only [newB, scal, scal1, List.all_map, List.all_eq_true]; intro x hx; rfl
theorem scalI {l : List Int} : scal (newI l) = true := by
  simp only [newI, scal, scal1, List.all_map, List.all_eq_true]; intro x hx; rfl
theorem scalT {l : List Int} {n : Int} : scal (.tup [newI l, i64 n]) = true := by
  have : (l.map fun i => [i64 i]).all (fun e => e.all isLit) = true := flLitI
  simp only [scal, scal1, newI, i64, List.all_cons, List.all_nil, Bool.and_true]
  exact this
def lst : Nat → List Bool → List Int
  | _, [] => []
  | i, b :: r => if b then (i : Int) :: lst (i + 1) r else lst (i + 1) r
theorem lst_snoc : ∀ (l : List Bool) (i : Nat) (b : Bool), lst i (l ++ [b]) = lst i l ++ if b then [((i + l.length : Nat) : Int)] else []
  | [], i, b => by simp [lst]
  | c :: l, i, b => by
    simp only [List.cons_append, lst, lst_snoc l (i + 1) b, List.length_cons]
    rw [show i + 1 + l.length = i + (l.length + 1) from by omega]
    split <;> simp
theorem lst_len : ∀ (l : List Bool) (i : Nat), (lst i l).length ≤ l.length
  | [], i => by simp [lst]
  | c :: l, i => by
    have := lst_len l (i + 1)
    simp only [lst]; split <;> simp <;> omega
theorem le1s_refl : ∀ ps : List PV, le1s ps ps
  | [] => by simp [le1s]
  | p :: ps => by simp only [le1s]; exact ⟨.rfl', le1s_refl ps⟩
theorem leT_refl (p : PV) : leT p p := by
  cases p <;> simp only [leT] <;> first | exact le1s_refl _ | exact .rfl'
theorem slc : (∀ {C e d}, bnd? C e d none = some d) ∧ (∀ {C e d x}, bnd? C e d (some x) = (rd C e x).bind natOf) ∧ (∀ {α β : Type} {a : α} {f : α → Option β}, (some a).bind f = f a) ∧ (∀ {a : Nat}, (0 ≤ a) = True) ∧ (∀ {b : Bool}, (false && b) = false) ∧ (∀ {k n}, natOf (.lit (.int k ((n : Nat) : Int))) = some n) :=
  ⟨rfl, rfl, rfl, by simp, rfl, natOf_cast⟩
theorem gR :
    (∀ {α : Type} {d : Decidable True} {a b : α}, @ite α True d a b = a) ∧ (∀ {α : Type} {d : Decidable False} {a b : α}, @ite α False d a b = b) ∧
    (∀ {α β : Type} {l : List α} {f : α → β}, (l.map f).length = l.length) ∧ (∀ {α β : Type} {l : List α} {f : α → β} {i : Nat}, (l.map f)[i]? = Option.map f l[i]?) ∧
    (∀ {α : Type} {a : α} {l : List α}, (a :: l).length = l.length + 1) ∧ (∀ {α : Type}, ([] : List α).length = 0) ∧
    ((false = true) = False) ∧ ((!true) = false) ∧ ((!false) = true) ∧ (∀ {α : Type} {a : α}, (a = a) = True) ∧
    (∀ {α : Type} {a : α} {l : List α} {p : α → Bool}, (a :: l).all p = (p a && l.all p)) ∧ (∀ {α : Type} {p : α → Bool}, ([] : List α).all p = true) ∧
    (∀ {b : Bool}, (b && true) = b) ∧ (∀ {b : Bool}, (b && b) = b) ∧ (∀ {n : Nat}, 0 + n = n) ∧ (∀ {n : Nat}, n + 0 = n) ∧ (∀ {n : Nat}, 0 * n = 0) ∧ (∀ {n : Nat}, 1 * n = n) ∧ (∀ {n : Nat}, n * 1 = n) ∧ (∀ {n : Nat}, (n ≤ n) = True) ∧
    (∀ {p : Prop}, (p ∧ p) = p) ∧ (∀ {p : Prop}, (True ∧ p) = p) ∧ (∀ {p : Prop}, (p ∧ True) = p) ∧ (∀ {p : Prop}, (p ∨ p) = p) ∧ (∀ {p : Prop}, (True ∨ p) = True) ∧ (∀ {p : Prop}, (p ∨ True) = True) ∧
    (∀ {α : Type} {a b : α} {l : List α}, (a :: l).set 0 b = b :: l) ∧ (∀ {α : Type} {l : List α}, l.drop 0 = l) ∧ (∀ {α : Type} {a : α} {l : List α} {n : Nat}, (a :: l).drop (n + 1) = l.drop n) ∧
    (∀ {d : Decidable True}, @decide True d = true) ∧ (∀ {d : Decidable False}, @decide False d = false) ∧
    (∀ {α : Type} {l : List α}, l ++ [] = l) ∧ (∀ {α : Type} {l : List α}, [] ++ l = l) ∧ (∀ {α : Type} {a : α} {l m : List α}, (a :: l) ++ m = a :: (l ++ m)) ∧
    (∀ {α : Type} {a b : α}, (a ≠ b) = ¬ a = b) ∧ ((¬ False) = True) ∧ ((¬ True) = False) ∧ (((0:Nat) < 1) = True) ∧ (((1:Nat) = 0) = False) ∧
    (∀ {α : Type} {a : α} {l : List α} {n : Nat}, (a :: l).take (n + 1) = a :: l.take n) ∧ (∀ {α : Type} {l : List α}, l.take 0 = []) ∧
    (∀ {α : Type} {l m : List α}, (l ++ m).length = l.length + m.length) ∧ (∀ {α β : Type} {l m : List α} {f : α → β}, (l ++ m).map f = l.map f ++ m.map f) ∧ (∀ {α β : Type} {a : α} {l : List α} {f : α → β}, (a :: l).map f = f a :: l.map f) ∧ (∀ {α β : Type} {f : α → β}, ([] : List α).map f = []) ∧
    ((true == true) = true) ∧ ((true == false) = false) ∧ ((false == true) = false) ∧ ((false == false) = true) ∧ (∀ {st : St} {p : PV}, st.put none p = st) ∧
    (∀ {k : IntKind} {l : List Int}, ((l.map fun i => [PV.lit (Value.int k i)]).all fun e => e.all flat) = true) ∧ (∀ {l : List Bool}, ((l.map fun i => [PV.lit (Value.bool i)]).all fun e => e.all flat) = true) ∧
    (∀ {k : IntKind} {n : Nat} {l : List (BitVec n)}, ((l.map fun i => [PV.lit (Value.int k (i.toNat : Int))]).all fun e => e.all flat) = true) ∧
    (∀ {α β : Type} {l : List α} {f : α → β}, List.take l.length (l.map f) = l.map f) ∧
    (((0:Nat) < 8) = True) ∧ (((0:Nat) < 4) = True) ∧ (((0:Nat) < 1) = True) ∧ (((0:Nat) < 2) = True) ∧ (((0:Nat) < 16) = True) ∧ (((0:Nat) < 24) = True) ∧ (((0:Nat) < 32) = True) ∧
    (∀ k, natOf (.lit (.int k 0)) = some 0) ∧ (∀ k, natOf (.lit (.int k 1)) = some 1) ∧ (∀ k, natOf (.lit (.int k 2)) = some 2) := by
  refine ⟨if_true _ _, if_false _ _, List.length_map _, List.getElem?_map, List.length_cons, List.length_nil, Bool.false_eq_true, Bool.not_true, Bool.not_false, eq_self _, List.all_cons, List.all_nil, Bool.and_true _, Bool.and_self _, Nat.zero_add _, Nat.add_zero _, Nat.zero_mul _, Nat.one_mul _, Nat.mul_one _, by simp, and_self _, true_and _, and_true _, or_self _, true_or _, or_true _, List.set_cons_zero, List.drop_zero, List.drop_succ_cons, by simp, by simp, List.append_nil _, List.nil_append _, List.cons_append, ne_eq _ _, not_false_eq_true, not_true_eq_false, by simp, by simp, List.take_succ_cons, List.take_zero, List.length_append, List.map_append, List.map_cons, List.map_nil, rfl, rfl, rfl, rfl, putN, flI, flB, flU, takeI, by simp, by simp, by simp, by simp, by simp, by simp, by simp, natK.1, natK.2.1, natK.2.2⟩
end Go.Ab
end
