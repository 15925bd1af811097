/- Abstract values: the rewriting rules by which code is walked. -/
import Derived.Test.YtgcodedanljhpaaDoorAcCall
set_option linter.unusedSimpArgs false
set_option linter.unusedVariables false
section
namespace Go.Ab
open Go
def mkE : List (Nat × PV) → Env
  | [], _ => none
  | (t', v) :: r, t => if t = t' then some v else mkE r t
def mkS : List (Nat × Blk) → Store
  | [], _ => none
  | (i', b) :: r, i => if i = i' then some b else mkS r i
def allE (e : Env) : List (Nat × PV) → Prop
  | [] => True
  | (t, v) :: r => e t = some v ∧ allE e r
def allS (s : Store) : List (Nat × Blk) → Prop
  | [] => True
  | (i, b) :: r => s i = some b ∧ allS s r
theorem allE_spec {e : Env} : ∀ (l : List (Nat × PV)), allE e l → ∀ t v, mkE l t = some v → e t = some v
  | [], _, t, v, h => by simp [mkE] at h
  | (t', v') :: r, ha, t, v, h => by
    simp only [mkE] at h
    split at h
    · rename_i e'; cases h; rw [e']; exact ha.1
    · exact allE_spec r ha.2 t v h
theorem allS_spec {s : Store} : ∀ (l : List (Nat × Blk)), allS s l → ∀ t v, mkS l t = some v → s t = some v
  | [], _, t, v, h => by simp [mkS] at h
  | (t', v') :: r, ha, t, v, h => by
    simp only [mkS] at h
    split at h
    · rename_i e'; cases h; rw [e']; exact ha.1
    · exact allS_spec r ha.2 t v h
theorem weak_of {st : St} {le : List (Nat × PV)} {ls : List (Nat × Blk)} {nx : Nat} (h : allE st.env le ∧ allS st.σ ls ∧ st.nx ≤ nx) : Weak st ⟨mkE le, mkS ls, nx⟩ :=
  ⟨allE_spec le h.1, allS_spec ls h.2.1, h.2.2⟩
def St.ghost (st : St) (t sz : Nat) : St := ⟨st.env.put t (.own st.nx 0 0 0 false), st.σ.put st.nx (.row 0 sz [] false), st.nx + 1⟩
theorem AbsW.ghost {C : Ctx} {N : Nat} {c : Code} {st : St} {Q : Exit → St → Prop} (t sz : Nat) (hn : st.env t = some (.lit (.slice none 0 0))) (h : AbsW C N c (st.ghost t sz) Q) : AbsW C N c st Q := by
  intro rd mm hr κ a w s
  have hm := s.made (sz := sz) (es := []) (L := ⟨false, 0, 0, sz, 0, 0⟩) (w' := w) (κ' := withLoc κ st.nx 0 ⟨false, 0, 0, sz, 0, 0⟩)
    (withLoc_le (s.fresh _ _ (Nat.le_refl _)).1) rfl rfl (fun _ _ => rfl) (Nat.le_refl _) (fun _ _ => rfl) (fun h => by cases h)
    ⟨⟨false, 0, 0, sz, 0, 0⟩, by simp [withLoc], rfl, rfl, .inr ⟨rfl, rfl⟩⟩
  have s1 := hm.1
  have hs : Sim C N (withLoc κ st.nx 0 ⟨false, 0, 0, sz, 0, 0⟩) (st.ghost t sz) a w := by
    refine ⟨s1.defers, s1.size, fun t' v hv => ?_, s1.blk, s1.dist, s1.nfz, s1.yfz, s1.fzlt, s1.fresh, s1.later, s1.glob⟩
    simp only [St.ghost, Env.put] at hv
    by_cases e : t' = t
    · subst e
      simp only [if_true, Option.some.injEq] at hv
      subst hv
      obtain ⟨g1, g2⟩ := s.env _ _ hn
      refine ⟨g1, ?_⟩
      simp only [Rel] at g2 ⊢
      rw [g2.1]
      exact ⟨none, 0, rfl, Nat.le_refl _, by simp, ⟨false, 0, 0, sz, 0, 0⟩, by simp [withLoc], .inr ⟨rfl, fun _ => Nat.le_refl _⟩⟩
    · rw [if_neg e] at hv
      exact s1.env t' v hv
  refine wpIn_mono (h rd mm hr _ a w hs) ?_
  rintro e a' w' ⟨κ', st', hq, s', ev, df⟩
  exact ⟨κ', st', hq, s', (hm.2 rfl rfl (.refl _)).trans ev, df⟩
theorem LoopQ.ghost {C : Ctx} {N : Nat} {c : Code} {st : St} {Q : Exit → St → Prop} (t sz : Nat) (hn : st.env t = some (.lit (.slice none 0 0))) (h : LoopQ C N c (st.ghost t sz) Q) : LoopQ C N c st Q :=
  fun ho => .ghost t sz hn (h ho)
section
variable {C : Ctx} {N : Nat} {st : St} {Q : Exit → St → Prop} {K : St → Prop} {d : Bool} {ops : Array Oper} {r : List Oper}
  {dst : Option Tmp} {ty : TypeId} {pos : String} {after : Array Edge} {guard : Option (Nat × Bool)}
theorem vcl :
    (∀ {C N a b st Q}, vc C N (.seq a b) st Q = vc C N a st (thenQ (fun s => vc C N b s Q) Q)) ∧
    (∀ {C N i l st Q}, vc C N (.region i (List.toArray l) false) st Q = vcOps C N false (List.toArray l) l st (Q .normal)) ∧
    (∀ {C N c a b st Q}, vc C N (.cond c a b) st Q = onC (rd C st.env c) (vc C N a st Q) (vc C N b st Q)) ∧
    (∀ {C N i c st Q}, vc C N (.block i c) st Q = vc C N c st (blockQ i Q)) ∧
    (∀ {C N i st Q}, vc C N (.exit i) st Q = Q (.exit i) st) ∧
    (∀ {C N st Q}, vc C N .ret st Q = Q .ret st) ∧
    (∀ {C N st Q}, vc C N .skip st Q = Q .normal st) ∧
    (∀ {C N c st Q}, vc C N (.loop c) st Q = LoopQ C N c st Q) ∧
    (∀ {C N g ps a c st Q}, vc C N (.rangeFunc g ps a c) st Q = RangeQ C N g ps a c st Q) ∧
    (∀ {C N d ops st K}, vcOps C N d ops [] st K = K st) ∧
    (∀ {C N d ops dst op ty pos after r st K}, vcOps C N d ops (⟨dst, op, ty, pos, after, none⟩ :: r) st K = vcOp C N d ops ⟨dst, op, ty, pos, after, none⟩ st fun s => vcOps C N d ops r s K) ∧
    (∀ {C N d ops dst op ty pos after g r st K}, vcOps C N d ops (⟨dst, op, ty, pos, after, some g⟩ :: r) st K = onB (wantd ops st.env ⟨dst, op, ty, pos, after, some g⟩) (vcOp C N d ops ⟨dst, op, ty, pos, after, some g⟩ st fun s => vcOps C N d ops r s K) (vcOps C N d ops r (st.put dst (.tup [])) K)) ∧
    (∀ {next Q s}, thenQ next Q .normal s = next s) ∧ (∀ {next Q s i}, thenQ next Q (.exit i) s = Q (.exit i) s) ∧ (∀ {next Q s}, thenQ next Q .ret s = Q .ret s) ∧
    (∀ {i Q s}, blockQ i Q .normal s = Q .normal s) ∧ (∀ {i Q s}, blockQ i Q .ret s = Q .ret s) ∧ (∀ {i j Q s}, blockQ i Q (.exit j) s = if j = i then Q .normal s else Q (.exit j) s) :=
  ⟨rfl, rfl, rfl, rfl, rfl, rfl, rfl, rfl, rfl, rfl, rfl, rfl, rfl, rfl, rfl, rfl, rfl, rfl⟩
theorem vck :
    (∀ {p k}, onQ (some p) k = k p) ∧ (∀ {p σ nx k}, onE (some (p, σ, nx)) k = k p σ nx) ∧ (∀ {t e}, onB (some true) t e = t) ∧ (∀ {t e}, onB (some false) t e = e) ∧
    (∀ {t e}, onC (some (.lit (.bool true))) t e = t) ∧ (∀ {t e}, onC (some (.lit (.bool false))) t e = e) ∧ (∀ {α : Type} {x : α} {k : α → Prop}, onL (some x) k = k x) :=
  ⟨rfl, rfl, rfl, rfl, rfl, rfl, rfl⟩
theorem vco :
    (∀ {C N d ops dst x ty pos after g st K}, vcOp C N d ops ⟨dst, .move x, ty, pos, after, g⟩ st K = onQ (rd C st.env x) fun p => K (st.put dst p)) ∧
    (∀ {C N d ops dst x ty pos after g st K}, vcOp C N d ops ⟨dst, .assign x, ty, pos, after, g⟩ st K = onQ (rd C st.env x) fun p => K (st.put dst p)) ∧
    (∀ {C N d ops dst a b c ty pos after g st K}, vcOp C N d ops ⟨dst, .pick a b c, ty, pos, after, g⟩ st K = onQ (evq C st.σ st.env (.pick a b c)) fun p => K (st.put dst p)) ∧
    (∀ {C N d ops dst op t x y t' ty pos after g st K}, vcOp C N d ops ⟨dst, .binOp op t x y t', ty, pos, after, g⟩ st K = onQ (evq C st.σ st.env (.binOp op t x y t')) fun p => K (st.put dst p)) ∧
    (∀ {C N d ops dst op t x ty pos after g st K}, vcOp C N d ops ⟨dst, .unOp op t x, ty, pos, after, g⟩ st K = onQ (evq C st.σ st.env (.unOp op t x)) fun p => K (st.put dst p)) ∧
    (∀ {C N d ops dst a b x ty pos after g st K}, vcOp C N d ops ⟨dst, .convert a b x, ty, pos, after, g⟩ st K = onQ (evq C st.σ st.env (.convert a b x)) fun p => K (st.put dst p)) ∧
    (∀ {C N d ops dst a x ty pos after g st K}, vcOp C N d ops ⟨dst, .makeInterface a x, ty, pos, after, g⟩ st K = onQ (evq C st.σ st.env (.makeInterface a x)) fun p => K (st.put dst p)) ∧
    (∀ {C N d ops dst a b c ty pos after g st K}, vcOp C N d ops ⟨dst, .makeFunc a b c, ty, pos, after, g⟩ st K = onQ (evq C st.σ st.env (.makeFunc a b c)) fun p => K (st.put dst p)) ∧
    (∀ {C N d ops dst a b c ty pos after g st K}, vcOp C N d ops ⟨dst, .field a b c, ty, pos, after, g⟩ st K = onQ (evq C st.σ st.env (.field a b c)) fun p => K (st.put dst p)) ∧
    (∀ {C N d ops dst a b c ty pos after g st K}, vcOp C N d ops ⟨dst, .fieldAddr a b c, ty, pos, after, g⟩ st K = onQ (evq C st.σ st.env (.fieldAddr a b c)) fun p => K (st.put dst p)) ∧
    (∀ {C N d ops dst a b c ty pos after g st K}, vcOp C N d ops ⟨dst, .indexAddr a b c, ty, pos, after, g⟩ st K = onQ (evq C st.σ st.env (.indexAddr a b c)) fun p => K (st.put dst p)) ∧
    (∀ {C N d ops dst a b c ty pos after g st K}, vcOp C N d ops ⟨dst, .index a b c, ty, pos, after, g⟩ st K = onQ (evq C st.σ st.env (.index a b c)) fun p => K (st.put dst p)) ∧
    (∀ {C N d ops dst a b ty pos after g st K}, vcOp C N d ops ⟨dst, .load a b, ty, pos, after, g⟩ st K = onQ (evq C st.σ st.env (.load a b)) fun p => K (st.put dst p)) ∧
    (∀ {C N d ops dst a b ty pos after g st K}, vcOp C N d ops ⟨dst, .extract a b, ty, pos, after, g⟩ st K = onQ (evq C st.σ st.env (.extract a b)) fun p => K (st.put dst p)) ∧
    (∀ {C N d ops dst a b c e f ty pos after g st K}, vcOp C N d ops ⟨dst, .slice a b c e f, ty, pos, after, g⟩ st K = onQ (evq C st.σ st.env (.slice a b c e f)) fun p => K (st.put dst p)) ∧
    (∀ {C N d ops dst a ty pos after g st K}, vcOp C N d ops ⟨dst, .nilCheck a, ty, pos, after, g⟩ st K = onQ (evq C st.σ st.env (.nilCheck a)) fun p => K (st.put dst p)) ∧
    (∀ {C N d ops dst a b ty pos after g st K}, vcOp C N d ops ⟨dst, .build a b, ty, pos, after, g⟩ st K = onQ (evq C st.σ st.env (.build a b)) fun p => K (st.put dst p)) ∧
    (∀ {C N d ops dst a ts ty pos after g st K}, vcOp C N d ops ⟨dst, .call ⟨.builtin .len, a, ts⟩, ty, pos, after, g⟩ st K = onQ (evq C st.σ st.env (.call ⟨.builtin .len, a, ts⟩)) fun p => K (st.put dst p)) ∧
    (∀ {C N d ops dst a ts ty pos after g st K}, vcOp C N d ops ⟨dst, .call ⟨.builtin .min, a, ts⟩, ty, pos, after, g⟩ st K = onQ (evq C st.σ st.env (.call ⟨.builtin .min, a, ts⟩)) fun p => K (st.put dst p)) ∧
    (∀ {C N d ops dst a ts ty pos after g st K}, vcOp C N d ops ⟨dst, .call ⟨.builtin .max, a, ts⟩, ty, pos, after, g⟩ st K = onQ (evq C st.σ st.env (.call ⟨.builtin .max, a, ts⟩)) fun p => K (st.put dst p)) ∧
    (∀ {C N d ops dst a ts ty pos after g st K}, vcOp C N d ops ⟨dst, .call ⟨.builtin .append, a, ts⟩, ty, pos, after, g⟩ st K = onE (eve C st (.call ⟨.builtin .append, a, ts⟩)) fun p σ nx => K (St.put ⟨st.env, σ, nx⟩ dst p)) ∧
    (∀ {C N d ops dst a ts ty pos after g st K}, vcOp C N d ops ⟨dst, .call ⟨.builtin .clear, a, ts⟩, ty, pos, after, g⟩ st K = onE (eve C st (.call ⟨.builtin .clear, a, ts⟩)) fun p σ nx => K (St.put ⟨st.env, σ, nx⟩ dst p)) ∧
    (∀ {C N d ops dst a b c ty pos after g st K}, vcOp C N d ops ⟨dst, .store a b c, ty, pos, after, g⟩ st K = onE (eve C st (.store a b c)) fun p σ nx => K (St.put ⟨st.env, σ, nx⟩ dst p)) ∧
    (∀ {C N d ops dst a b ty pos after g st K}, vcOp C N d ops ⟨dst, .box a b, ty, pos, after, g⟩ st K = onE (eve C st (.box a b)) fun p σ nx => K (St.put ⟨st.env, σ, nx⟩ dst p)) ∧
    (∀ {C N d ops dst a ty pos after g st K}, vcOp C N d ops ⟨dst, .alloc a, ty, pos, after, g⟩ st K = onE (eve C st (.alloc a)) fun p σ nx => K (St.put ⟨st.env, σ, nx⟩ dst p)) ∧
    (∀ {C N d ops dst a b c ty pos after g st K}, vcOp C N d ops ⟨dst, .buildSlice a b c, ty, pos, after, g⟩ st K = onE (eve C st (.buildSlice a b c)) fun p σ nx => K (St.put ⟨st.env, σ, nx⟩ dst p)) ∧
    (∀ {C N d ops dst a b c e ty pos after g st K}, vcOp C N d ops ⟨dst, .lookup a b c e, ty, pos, after, g⟩ st K = onQ (evq C st.σ st.env (.lookup a b c e)) fun p => K (st.put dst p)) ∧
    (∀ {C N d ops dst a ty pos after g st K}, vcOp C N d ops ⟨dst, .makeMap a none, ty, pos, after, g⟩ st K = onE (eve C st (.makeMap a none)) fun p σ nx => K (St.put ⟨st.env, σ, nx⟩ dst p)) ∧
    (∀ {C N d ops dst a b c e ty pos after g st K}, vcOp C N d ops ⟨dst, .insert a b c e, ty, pos, after, g⟩ st K = onE (eve C st (.insert a b c e)) fun p σ nx => K (St.put ⟨st.env, σ, nx⟩ dst p)) ∧
    (∀ {C N d ops dst a b c e ty pos after g st K}, vcOp C N d ops ⟨dst, .mapUpdate a b c e, ty, pos, after, g⟩ st K = onE (eve C st (.mapUpdate a b c e)) fun p σ nx => K (St.put ⟨st.env, σ, nx⟩ dst p)) ∧
    (∀ {C N d ops dst a b ty pos after g st K}, vcOp C N d ops ⟨dst, .range a b, ty, pos, after, g⟩ st K = onE (eve C st (.range a b)) fun p σ nx => K (St.put ⟨st.env, σ, nx⟩ dst p)) ∧
    (∀ {C N d ops dst a b ty pos after g st K}, vcOp C N d ops ⟨dst, .next a b, ty, pos, after, g⟩ st K = onE (eve C st (.next a b)) fun p σ nx => K (St.put ⟨st.env, σ, nx⟩ dst p)) ∧
    (∀ {C N d ops dst a b c ty pos after g st K}, vcOp C N d ops ⟨dst, .makeSlice a b c, ty, pos, after, g⟩ st K = onE (eve C st (.makeSlice a b c)) fun p σ nx => K (St.put ⟨st.env, σ, nx⟩ dst p)) ∧
    (∀ {C N ops dst f a ts ty pos after g st K}, vcOp C N false ops ⟨dst, .call ⟨.value f, a, ts⟩, ty, pos, after, g⟩ st K = CallQ C N ⟨dst, .call ⟨.value f, a, ts⟩, ty, pos, after, g⟩ st K) ∧
    (∀ {C N ops dst f a ts ty pos after g st K}, vcOp C N true ops ⟨dst, .call ⟨.value f, a, ts⟩, ty, pos, after, g⟩ st K = CallY C N ops ⟨dst, .call ⟨.value f, a, ts⟩, ty, pos, after, g⟩ st K) :=
  ⟨rfl, rfl, rfl, rfl, rfl, rfl, rfl, rfl, rfl, rfl, rfl, rfl, rfl, rfl, rfl, rfl, rfl, rfl, rfl, rfl, rfl, rfl, rfl, rfl, rfl, rfl, rfl, rfl, rfl, rfl, rfl, rfl, rfl, rfl, rfl⟩
theorem vcy {C : Ctx} {N i : Nat} {l : List Oper} {st : St} {Q : Exit → St → Prop} (h : (okDraw (List.toArray l) && callsB (List.toArray l)) = true) : vc C N (.region i (List.toArray l) true) st Q = vcOps C N true (List.toArray l) l st (Q .normal) := by
  simp only [vc, h, if_true]
theorem vcj :
    (∀ {C N J D E ops k dst x ty pos after g st K}, jcOp C N J D E ops k ⟨dst, .move x, ty, pos, after, g⟩ st K = if inD D k = true then onJ J (fun σ => rd C st.env x) st.σ (fun p => K (st.put dst p)) else onQ (rd C st.env x) fun p => K (st.put dst p)) ∧
    (∀ {C N J D E ops k dst x ty pos after g st K}, jcOp C N J D E ops k ⟨dst, .assign x, ty, pos, after, g⟩ st K = if inD D k = true then onJ J (fun σ => rd C st.env x) st.σ (fun p => K (st.put dst p)) else onQ (rd C st.env x) fun p => K (st.put dst p)) ∧
    (∀ {C N J D E ops k dst a b c ty pos after g st K}, jcOp C N J D E ops k ⟨dst, .pick a b c, ty, pos, after, g⟩ st K = if inD D k = true then onJ J (fun σ => evq C σ st.env (.pick a b c)) st.σ (fun p => K (st.put dst p)) else onQ (evq C st.σ st.env (.pick a b c)) fun p => K (st.put dst p)) ∧
    (∀ {C N J D E ops k dst op t x y t' ty pos after g st K}, jcOp C N J D E ops k ⟨dst, .binOp op t x y t', ty, pos, after, g⟩ st K = if inD D k = true then onJ J (fun σ => evq C σ st.env (.binOp op t x y t')) st.σ (fun p => K (st.put dst p)) else onQ (evq C st.σ st.env (.binOp op t x y t')) fun p => K (st.put dst p)) ∧
    (∀ {C N J D E ops k dst op t x ty pos after g st K}, jcOp C N J D E ops k ⟨dst, .unOp op t x, ty, pos, after, g⟩ st K = if inD D k = true then onJ J (fun σ => evq C σ st.env (.unOp op t x)) st.σ (fun p => K (st.put dst p)) else onQ (evq C st.σ st.env (.unOp op t x)) fun p => K (st.put dst p)) ∧
    (∀ {C N J D E ops k dst a b x ty pos after g st K}, jcOp C N J D E ops k ⟨dst, .convert a b x, ty, pos, after, g⟩ st K = if inD D k = true then onJ J (fun σ => evq C σ st.env (.convert a b x)) st.σ (fun p => K (st.put dst p)) else onQ (evq C st.σ st.env (.convert a b x)) fun p => K (st.put dst p)) ∧
    (∀ {C N J D E ops k dst a x ty pos after g st K}, jcOp C N J D E ops k ⟨dst, .makeInterface a x, ty, pos, after, g⟩ st K = if inD D k = true then onJ J (fun σ => evq C σ st.env (.makeInterface a x)) st.σ (fun p => K (st.put dst p)) else onQ (evq C st.σ st.env (.makeInterface a x)) fun p => K (st.put dst p)) ∧
    (∀ {C N J D E ops k dst a b c ty pos after g st K}, jcOp C N J D E ops k ⟨dst, .makeFunc a b c, ty, pos, after, g⟩ st K = if inD D k = true then onJ J (fun σ => evq C σ st.env (.makeFunc a b c)) st.σ (fun p => K (st.put dst p)) else onQ (evq C st.σ st.env (.makeFunc a b c)) fun p => K (st.put dst p)) ∧
    (∀ {C N J D E ops k dst a b c ty pos after g st K}, jcOp C N J D E ops k ⟨dst, .field a b c, ty, pos, after, g⟩ st K = if inD D k = true then onJ J (fun σ => evq C σ st.env (.field a b c)) st.σ (fun p => K (st.put dst p)) else onQ (evq C st.σ st.env (.field a b c)) fun p => K (st.put dst p)) ∧
    (∀ {C N J D E ops k dst a b c ty pos after g st K}, jcOp C N J D E ops k ⟨dst, .fieldAddr a b c, ty, pos, after, g⟩ st K = if inD D k = true then onJ J (fun σ => evq C σ st.env (.fieldAddr a b c)) st.σ (fun p => K (st.put dst p)) else onQ (evq C st.σ st.env (.fieldAddr a b c)) fun p => K (st.put dst p)) ∧
    (∀ {C N J D E ops k dst a b c ty pos after g st K}, jcOp C N J D E ops k ⟨dst, .indexAddr a b c, ty, pos, after, g⟩ st K = if inD D k = true then onJ J (fun σ => evq C σ st.env (.indexAddr a b c)) st.σ (fun p => K (st.put dst p)) else onQ (evq C st.σ st.env (.indexAddr a b c)) fun p => K (st.put dst p)) ∧
    (∀ {C N J D E ops k dst a b c ty pos after g st K}, jcOp C N J D E ops k ⟨dst, .index a b c, ty, pos, after, g⟩ st K = if inD D k = true then onJ J (fun σ => evq C σ st.env (.index a b c)) st.σ (fun p => K (st.put dst p)) else onQ (evq C st.σ st.env (.index a b c)) fun p => K (st.put dst p)) ∧
    (∀ {C N J D E ops k dst a b ty pos after g st K}, jcOp C N J D E ops k ⟨dst, .load a b, ty, pos, after, g⟩ st K = if inD D k = true then onJ J (fun σ => evq C σ st.env (.load a b)) st.σ (fun p => K (st.put dst p)) else onQ (evq C st.σ st.env (.load a b)) fun p => K (st.put dst p)) ∧
    (∀ {C N J D E ops k dst a b ty pos after g st K}, jcOp C N J D E ops k ⟨dst, .extract a b, ty, pos, after, g⟩ st K = if inD D k = true then onJ J (fun σ => evq C σ st.env (.extract a b)) st.σ (fun p => K (st.put dst p)) else onQ (evq C st.σ st.env (.extract a b)) fun p => K (st.put dst p)) ∧
    (∀ {C N J D E ops k dst a b c e f ty pos after g st K}, jcOp C N J D E ops k ⟨dst, .slice a b c e f, ty, pos, after, g⟩ st K = if inD D k = true then onJ J (fun σ => evq C σ st.env (.slice a b c e f)) st.σ (fun p => K (st.put dst p)) else onQ (evq C st.σ st.env (.slice a b c e f)) fun p => K (st.put dst p)) ∧
    (∀ {C N J D E ops k dst a ty pos after g st K}, jcOp C N J D E ops k ⟨dst, .nilCheck a, ty, pos, after, g⟩ st K = if inD D k = true then onJ J (fun σ => evq C σ st.env (.nilCheck a)) st.σ (fun p => K (st.put dst p)) else onQ (evq C st.σ st.env (.nilCheck a)) fun p => K (st.put dst p)) ∧
    (∀ {C N J D E ops k dst a b ty pos after g st K}, jcOp C N J D E ops k ⟨dst, .build a b, ty, pos, after, g⟩ st K = if inD D k = true then onJ J (fun σ => evq C σ st.env (.build a b)) st.σ (fun p => K (st.put dst p)) else onQ (evq C st.σ st.env (.build a b)) fun p => K (st.put dst p)) ∧
    (∀ {C N J D E ops k dst a ts ty pos after g st K}, jcOp C N J D E ops k ⟨dst, .call ⟨.builtin .len, a, ts⟩, ty, pos, after, g⟩ st K = if inD D k = true then onJ J (fun σ => evq C σ st.env (.call ⟨.builtin .len, a, ts⟩)) st.σ (fun p => K (st.put dst p)) else onQ (evq C st.σ st.env (.call ⟨.builtin .len, a, ts⟩)) fun p => K (st.put dst p)) ∧
    (∀ {C N J D E ops k dst a ts ty pos after g st K}, jcOp C N J D E ops k ⟨dst, .call ⟨.builtin .min, a, ts⟩, ty, pos, after, g⟩ st K = if inD D k = true then onJ J (fun σ => evq C σ st.env (.call ⟨.builtin .min, a, ts⟩)) st.σ (fun p => K (st.put dst p)) else onQ (evq C st.σ st.env (.call ⟨.builtin .min, a, ts⟩)) fun p => K (st.put dst p)) ∧
    (∀ {C N J D E ops k dst a ts ty pos after g st K}, jcOp C N J D E ops k ⟨dst, .call ⟨.builtin .max, a, ts⟩, ty, pos, after, g⟩ st K = if inD D k = true then onJ J (fun σ => evq C σ st.env (.call ⟨.builtin .max, a, ts⟩)) st.σ (fun p => K (st.put dst p)) else onQ (evq C st.σ st.env (.call ⟨.builtin .max, a, ts⟩)) fun p => K (st.put dst p)) ∧
    (∀ {C N J D E ops k dst a ts ty pos after g st K}, jcOp C N J D E ops k ⟨dst, .call ⟨.builtin .append, a, ts⟩, ty, pos, after, g⟩ st K = if inD E (1000 + k) = true then (if inD D k = true then onJ J (fun σ => evqB C σ st.env (.call ⟨.builtin .append, a, ts⟩)) st.σ (fun p => K (st.put dst p)) else onQ (evqB C st.σ st.env (.call ⟨.builtin .append, a, ts⟩)) fun p => K (st.put dst p)) else onE (eve C st (.call ⟨.builtin .append, a, ts⟩)) fun p σ nx => (lastE ops D k = true ∨ J σ) ∧ K (St.put ⟨st.env, σ, nx⟩ dst p)) ∧
    (∀ {C N J D E ops k dst a b c ty pos after g st K}, jcOp C N J D E ops k ⟨dst, .store a b c, ty, pos, after, g⟩ st K = onE (eve C st (.store a b c)) fun p σ nx => (lastE ops D k = true ∨ J σ) ∧ K (St.put ⟨st.env, σ, nx⟩ dst p)) ∧
    (∀ {C N J D E ops k dst a b ty pos after g st K}, jcOp C N J D E ops k ⟨dst, .box a b, ty, pos, after, g⟩ st K = onE (eve C st (.box a b)) fun p σ nx => (lastE ops D k = true ∨ J σ) ∧ K (St.put ⟨st.env, σ, nx⟩ dst p)) ∧
    (∀ {C N J D E ops k dst a ty pos after g st K}, jcOp C N J D E ops k ⟨dst, .alloc a, ty, pos, after, g⟩ st K = onE (eve C st (.alloc a)) fun p σ nx => (lastE ops D k = true ∨ J σ) ∧ K (St.put ⟨st.env, σ, nx⟩ dst p)) ∧
    (∀ {C N J D E ops k dst a b c ty pos after g st K}, jcOp C N J D E ops k ⟨dst, .buildSlice a b c, ty, pos, after, g⟩ st K = if inD E (1000 + k) = true then (if inD D k = true then onJ J (fun σ => evqB C σ st.env (.buildSlice a b c)) st.σ (fun p => K (st.put dst p)) else onQ (evqB C st.σ st.env (.buildSlice a b c)) fun p => K (st.put dst p)) else onE (eve C st (.buildSlice a b c)) fun p σ nx => (lastE ops D k = true ∨ J σ) ∧ K (St.put ⟨st.env, σ, nx⟩ dst p)) ∧
    (∀ {C N J D E ops k dst a b c ty pos after g st K}, jcOp C N J D E ops k ⟨dst, .makeSlice a b c, ty, pos, after, g⟩ st K = onE (eve C st (.makeSlice a b c)) fun p σ nx => (lastE ops D k = true ∨ J σ) ∧ K (St.put ⟨st.env, σ, nx⟩ dst p)) ∧
    (∀ {C N J D E ops k dst f a ts ty pos after g st K}, jcOp C N J D E ops k ⟨dst, .call ⟨.value f, a, ts⟩, ty, pos, after, g⟩ st K = if inD E k = true then EffQ C ⟨dst, .call ⟨.value f, a, ts⟩, ty, pos, after, g⟩ st (fun p σ nx => (lastE ops D k = true ∨ J σ) ∧ K (St.put ⟨st.env, σ, nx⟩ dst p)) else if inD D k = true then CallJ C N J ops ⟨dst, .call ⟨.value f, a, ts⟩, ty, pos, after, g⟩ st K else CallY0 C N ops ⟨dst, .call ⟨.value f, a, ts⟩, ty, pos, after, g⟩ st K) ∧
    (∀ {C N J D E ops k st K}, vcJ C N J D E ops k [] st K = K st) ∧
    (∀ {C N J D E ops k dst op ty pos after r st K}, vcJ C N J D E ops k (⟨dst, op, ty, pos, after, none⟩ :: r) st K = jcOp C N J D E ops k ⟨dst, op, ty, pos, after, none⟩ st fun s => vcJ C N J D E ops (k + 1) r s K) ∧
    (∀ {C N J D E ops k dst op ty pos after g r st K}, vcJ C N J D E ops k (⟨dst, op, ty, pos, after, some g⟩ :: r) st K = onB (wantd ops st.env ⟨dst, op, ty, pos, after, some g⟩) (jcOp C N J D E ops k ⟨dst, op, ty, pos, after, some g⟩ st fun s => vcJ C N J D E ops (k + 1) r s K) (vcJ C N J D E ops (k + 1) r (st.put dst (.tup [])) K)) ∧
    (∀ {J f σ k}, onJ J f σ k = onQ (f σ) fun p => (∀ σ, J σ → f σ = some p) ∧ k p) ∧
    (∀ {k}, inD [] k = false) ∧ (∀ {d D k}, inD (d :: D) k = if d = k then true else inD D k) :=
  ⟨rfl, rfl, rfl, rfl, rfl, rfl, rfl, rfl, rfl, rfl, rfl, rfl, rfl, rfl, rfl, rfl, rfl, rfl, rfl, rfl, rfl, rfl, rfl, rfl, rfl, rfl, rfl, rfl, rfl, rfl, rfl, rfl, rfl⟩
theorem ofV_int {k : IntKind} {n : Int} : ofV (.int k n) = some (.lit (.int k n)) := rfl
theorem ofV_bool {b : Bool} : ofV (.bool b) = some (.lit (.bool b)) := rfl
theorem natOf_cast {k : IntKind} {n : Nat} : natOf (.lit (.int k (n : Int))) = some n := by simp [natOf]
theorem st_put_σ {st : St} {d : Option Nat} {p : PV} : (st.put d p).σ = st.σ := by cases d <;> rfl
theorem st_put_nx {st : St} {d : Option Nat} {p : PV} : (st.put d p).nx = st.nx := by cases d <;> rfl
theorem evBin_add {C : Ctx} {t : TypeId} {x y : Operand} {k : IntKind} {a b : Int} : evBin C .add t x y (.lit (.int k a)) (.lit (.int k b)) = some (.lit (.int k (k.wrap (a + b)))) := by simp [evBin, conc, eqGuard, binOp, Op.intArith, bind, Sem.bind, pure, purely, ofV_int]
theorem evBin_sub {C : Ctx} {t : TypeId} {x y : Operand} {k : IntKind} {a b : Int} : evBin C .sub t x y (.lit (.int k a)) (.lit (.int k b)) = some (.lit (.int k (k.wrap (a - b)))) := by simp [evBin, conc, eqGuard, binOp, Op.intArith, bind, Sem.bind, pure, purely, ofV_int]
theorem evBin_mul {C : Ctx} {t : TypeId} {x y : Operand} {k : IntKind} {a b : Int} : evBin C .mul t x y (.lit (.int k a)) (.lit (.int k b)) = some (.lit (.int k (k.wrap (a * b)))) := by simp [evBin, conc, eqGuard, binOp, Op.intArith, bind, Sem.bind, pure, purely, ofV_int]
theorem evBin_lss {C : Ctx} {t : TypeId} {x y : Operand} {k : IntKind} {a b : Int} : evBin C .lss t x y (.lit (.int k a)) (.lit (.int k b)) = some (.lit (.bool (decide (a < b)))) := by simp [evBin, conc, eqGuard, binOp, Op.intCmp, bind, Sem.bind, pure, purely, ofV_bool]
theorem evBin_leq {C : Ctx} {t : TypeId} {x y : Operand} {k : IntKind} {a b : Int} : evBin C .leq t x y (.lit (.int k a)) (.lit (.int k b)) = some (.lit (.bool (decide (a ≤ b)))) := by simp [evBin, conc, eqGuard, binOp, Op.intCmp, bind, Sem.bind, pure, purely, ofV_bool]
theorem evBin_gtr {C : Ctx} {t : TypeId} {x y : Operand} {k : IntKind} {a b : Int} : evBin C .gtr t x y (.lit (.int k a)) (.lit (.int k b)) = some (.lit (.bool (decide (b < a)))) := by simp [evBin, conc, eqGuard, binOp, Op.intCmp, bind, Sem.bind, pure, purely, ofV_bool]
theorem evBin_geq {C : Ctx} {t : TypeId} {x y : Operand} {k : IntKind} {a b : Int} : evBin C .geq t x y (.lit (.int k a)) (.lit (.int k b)) = some (.lit (.bool (decide (b ≤ a)))) := by simp [evBin, conc, eqGuard, binOp, Op.intCmp, bind, Sem.bind, pure, purely, ofV_bool]
theorem evBin_eql {C : Ctx} {t : TypeId} {x y : Operand} {k : IntKind} {a b : Int} : evBin C .eql t x y (.lit (.int k a)) (.lit (.int k b)) = some (.lit (.bool (decide (a = b)))) := by
  simp [evBin, conc, eqGuard, binOp, Op.intCmp, bind, Sem.bind, pure, purely, ofV_bool]
  rfl
theorem evBin_neq {C : Ctx} {t : TypeId} {x y : Operand} {k : IntKind} {a b : Int} : evBin C .neq t x y (.lit (.int k a)) (.lit (.int k b)) = some (.lit (.bool (!decide (a = b)))) := by
  simp [evBin, conc, eqGuard, binOp, Op.intCmp, bind, Sem.bind, pure, purely, ofV_bool, bne]
  rfl
theorem evl :
    (∀ {C σ e x}, evq C σ e (.move x) = rd C e x) ∧ (∀ {C σ e x}, evq C σ e (.assign x) = rd C e x) ∧
    (∀ {C σ e c a b}, evq C σ e (.pick c a b) = match rd C e c with
      | some (.lit (.bool t)) => if t then rd C e a else rd C e b
      | _ => none) ∧
    (∀ {C σ e op t x y t'}, evq C σ e (.binOp op t x y t') = match rd C e x, rd C e y with
      | some p, some q => evBin C op t x y p q
      | _, _ => none) ∧
    (∀ {C σ e op t x}, evq C σ e (.unOp op t x) = match rd C e x with
      | some p => (conc p).bind fun u => (purely C.P (Op.unary op u)).bind ofV
      | none => none) ∧
    (∀ {C σ e a b x}, evq C σ e (.convert a b x) = match rd C e x with
      | some p => evConv C σ a b p
      | none => none) ∧
    (∀ {C σ e t x}, evq C σ e (.makeInterface t x) = match ti C.P t, rd C e x with
      | some i, some p => (match i.desc with | .interface _ => none | _ => some (.ifc t p))
      | _, _ => none) ∧
    (∀ {C σ e fn f c}, evq C σ e (.makeFunc fn (List.toArray f) (List.toArray c)) = match rds C e f, rds C e c with
      | some ps, some qs => some (.clo fn ps qs)
      | _, _ => none) ∧
    (∀ {C σ e t x f}, evq C σ e (.field t x f) = match rd C e x with
      | some p => evFld C t p f
      | none => none) ∧
    (∀ {C σ e t x f}, evq C σ e (.fieldAddr t x f) = match rd C e x with
      | some p => evFldA C t p f
      | none => none) ∧
    (∀ {C σ e t x ix}, evq C σ e (.indexAddr t x ix) = match rd C e x, rd C e ix with
      | some p, some q => evIdxA C σ t p q
      | _, _ => none) ∧
    (∀ {C σ e t x ix}, evq C σ e (.index t x ix) = match rd C e x, rd C e ix with
      | some p, some q => evIdx C t p q
      | _, _ => none) ∧
    (∀ {C σ e t x}, evq C σ e (.load t x) = match rd C e x with
      | some p => evLoad C σ t p
      | none => none) ∧
    (∀ {C σ e x i}, evq C σ e (.extract x i) = match rd C e x with
      | some (.tup ps) => ps[i]?
      | _ => none) ∧
    (∀ {C σ e t x lo hi mx}, evq C σ e (.slice t x lo hi mx) = match rd C e x with
      | some p => evSlice C σ e t p lo hi mx
      | none => none) ∧
    (∀ {C σ e t x i ok}, evq C σ e (.lookup t x i ok) = match rd C e x, rd C e i with
      | some p, some q => evLookup C σ t p q ok
      | _, _ => none) ∧
    (∀ {C σ e x}, evq C σ e (.nilCheck x) = match rd C e x with
      | some (.ptr id ver i off) => some (.ptr id ver i off)
      | some (.cptr cs) => some (.cptr cs)
      | some (.ifc t p) => some (.ifc t p)
      | some (.clo (.func f) a b) => some (.clo (.func f) a b)
      | _ => none) ∧
    (∀ {C σ e t ps}, evq C σ e (.build t (List.toArray ps)) = match rdParts C e ps with
      | some ps => evBuild C t ps
      | none => none) ∧
    (∀ {C σ e b as ts}, evq C σ e (.call ⟨.builtin b, List.toArray as, ts⟩) = match rds C e as with
      | some ps => evBuiltin C σ b ts ps
      | none => none) ∧
    (∀ {C e t}, rd C e (.tmp t) = e t) ∧ (∀ {C e k n}, rd C e (.const (.int k n)) = some (.lit (.int k n))) ∧ (∀ {C e b}, rd C e (.const (.bool b)) = some (.lit (.bool b))) ∧
    (∀ {C e s}, rd C e (.const (.string s)) = some (.lit (.string s))) ∧ (∀ {C e}, rd C e (.const (.slice none 0 0)) = some (.lit (.slice none 0 0))) ∧ (∀ {C e}, rd C e (.const (.map none)) = some (.lit (.map none))) ∧ (∀ {C e}, rd C e (.const .nilIface) = some (.lit .nilIface)) ∧
    (∀ {C e}, rd C e (.const (.pointer none)) = some (.lit (.pointer none))) ∧ (∀ {C e}, rd C e (.const .nilFunc) = some (.lit .nilFunc)) ∧
    (∀ {C e g}, rd C e (.global g) = (C.G g).map .cptr) ∧ (∀ {C e f}, rd C e (.func f) = some (.clo (.func f) [] [])) ∧
    (∀ {C e}, rds C e [] = some []) ∧ (∀ {C e x r}, rds C e (x :: r) = match rd C e x, rds C e r with
      | some p, some ps => some (p :: ps)
      | _, _ => none) ∧
    (∀ {C e}, rdParts C e [] = some []) ∧ (∀ {C e i x r}, rdParts C e ((i, x) :: r) = match rd C e x, rdParts C e r with
      | some p, some ps => some ((i, p) :: ps)
      | _, _ => none) ∧
    (∀ {st : St} {d t : Nat} {p : PV}, (st.put (some d) p).env t = if t = d then some p else st.env t) ∧ (∀ {st : St} {d : Option Nat} {p : PV}, (st.put d p).σ = st.σ) ∧ (∀ {st : St} {d : Option Nat} {p : PV}, (st.put d p).nx = st.nx) ∧
    (∀ {t}, mkE [] t = none) ∧ (∀ {t t' v r}, mkE ((t', v) :: r) t = if t = t' then some v else mkE r t) ∧ (∀ {t}, mkS [] t = none) ∧ (∀ {t t' v r}, mkS ((t', v) :: r) t = if t = t' then some v else mkS r t) ∧
    (∀ {σ i B k}, Store.put σ i B k = if k = i then some B else σ k) ∧
    (∀ {e}, allE e [] = True) ∧ (∀ {e t v r}, allE e ((t, v) :: r) = (e t = some v ∧ allE e r)) ∧ (∀ {e}, allS e [] = True) ∧ (∀ {e t v r}, allS e ((t, v) :: r) = (e t = some v ∧ allS e r)) ∧
    (∀ {l t}, argEnv l t = l[t]?) ∧ (∀ {es c}, PV.cellsP (.imm es c) = [.imm es c]) ∧ (∀ {v}, PV.cellsP (.lit v) = [.lit v]) ∧ (∀ {cs}, PV.cellsP (.agg cs) = cs) ∧ (∀ {a b c d e}, PV.cellsP (.own a b c d e) = [.own a b c d e]) ∧
    (∀ {a b c d}, PV.cellsP (.ptr a b c d) = [.ptr a b c d]) ∧ (∀ {cs}, PV.cellsP (.cptr cs) = [.cptr cs]) ∧ (∀ {a b c}, PV.cellsP (.clo a b c) = [.clo a b c]) ∧ (∀ {a b}, PV.cellsP (.ifc a b) = [.ifc a b]) ∧ (∀ {a}, PV.cellsP (.mp a) = [.mp a]) ∧
    (∀ {k} {n : Nat}, natOf (.lit (.int k (n : Int))) = some n) ∧ (∀ {α β : Type} {a : α} {f : α → Option β}, (some a).bind f = f a) ∧ (∀ {α β : Type} {a : α} {f : α → β}, Option.map f (some a) = some (f a)) ∧
    (∀ {α : Type} {a : α} {l : List α}, (a :: l)[0]? = some a) ∧ (∀ {α : Type} {a : α} {l : List α} {i : Nat}, (a :: l)[i + 1]? = l[i]?) ∧ (∀ {α : Type} {l : List α} {i : Nat}, (List.toArray l)[i]? = l[i]?) ∧ (∀ {α : Type} {i : Nat}, ([] : List α)[i]? = none) ∧
    (∀ {α : Type} {l : List α}, (List.toArray l).toList = l) :=
  ⟨rfl, rfl, rfl, rfl, rfl, rfl, rfl, rfl, rfl, rfl, rfl, rfl, rfl, rfl, rfl, rfl, rfl, rfl, rfl, rfl, rfl, rfl, rfl, rfl, rfl, rfl, rfl, rfl, rfl, rfl, rfl, rfl, rfl, rfl, rfl, st_put_σ, st_put_nx, rfl, rfl, rfl, rfl, rfl, rfl, rfl, rfl, rfl, rfl, rfl, rfl, rfl, rfl, rfl, rfl, rfl, rfl, rfl, natOf_cast, rfl, rfl, rfl, rfl, by simp, by simp, rfl⟩
theorem evb :
    (∀ {C t x y k a b}, evBin C .add t x y (.lit (.int k a)) (.lit (.int k b)) = some (.lit (.int k (k.wrap (a + b))))) ∧
    (∀ {C t x y k a b}, evBin C .sub t x y (.lit (.int k a)) (.lit (.int k b)) = some (.lit (.int k (k.wrap (a - b))))) ∧
    (∀ {C t x y k a b}, evBin C .mul t x y (.lit (.int k a)) (.lit (.int k b)) = some (.lit (.int k (k.wrap (a * b))))) ∧
    (∀ {C t x y k a b}, evBin C .lss t x y (.lit (.int k a)) (.lit (.int k b)) = some (.lit (.bool (decide (a < b))))) ∧
    (∀ {C t x y k a b}, evBin C .leq t x y (.lit (.int k a)) (.lit (.int k b)) = some (.lit (.bool (decide (a ≤ b))))) ∧
    (∀ {C t x y k a b}, evBin C .gtr t x y (.lit (.int k a)) (.lit (.int k b)) = some (.lit (.bool (decide (b < a))))) ∧
    (∀ {C t x y k a b}, evBin C .geq t x y (.lit (.int k a)) (.lit (.int k b)) = some (.lit (.bool (decide (b ≤ a))))) ∧
    (∀ {C t x y k a b}, evBin C .eql t x y (.lit (.int k a)) (.lit (.int k b)) = some (.lit (.bool (decide (a = b))))) ∧
    (∀ {C t x y k a b}, evBin C .neq t x y (.lit (.int k a)) (.lit (.int k b)) = some (.lit (.bool (!decide (a = b))))) :=
  ⟨evBin_add, evBin_sub, evBin_mul, evBin_lss, evBin_leq, evBin_gtr, evBin_geq, evBin_eql, evBin_neq⟩
theorem onC_dec {c : Prop} [Decidable c] {t e : Prop} (h1 : c → t) (h2 : ¬ c → e) : onC (some (.lit (.bool (decide c)))) t e := by
  by_cases h : c
  · rw [decide_eq_true h]; exact h1 h
  · rw [decide_eq_false h]; exact h2 h
theorem onC_bool {b : Bool} {t e : Prop} (h1 : b = true → t) (h2 : b = false → e) : onC (some (.lit (.bool b))) t e := by
  cases b
  · exact h2 rfl
  · exact h1 rfl
end
end Go.Ab
end

section
/- Abstract values: what a tree says, another one says too, in its depth. -/
namespace Go.Ab
open Go
mutual
def leD : PV → PV → Prop
  | .imm es c, q => ∃ es' c', q = .imm es' c' ∧ (c' = c ∨ c' = false) ∧ leDR es es'
  | .lit v, q => q = .lit v ∨ (v = .slice none 0 0 ∧ q = .imm [] false)
  | p, q => p = q
def leDs : List PV → List PV → Prop
  | [], qs => qs = []
  | p :: ps, qs => ∃ q qs', qs = q :: qs' ∧ leD p q ∧ leDs ps qs'
def leDR : List (List PV) → List (List PV) → Prop
  | [], qs => qs = []
  | p :: ps, qs => ∃ q qs', qs = q :: qs' ∧ leDs p q ∧ leDR ps qs'
end
mutual
theorem leD_refl : ∀ p : PV, leD p p
  | .imm es c => by unfold leD; exact ⟨es, c, rfl, .inl rfl, leDR_refl es⟩
  | .lit v => by unfold leD; exact .inl rfl
  | .own .. => by simp [leD]
  | .cptr _ => by simp [leD]
  | .ptr .. => by simp [leD]
  | .clo .. => by simp [leD]
  | .ifc .. => by simp [leD]
  | .agg _ => by simp [leD]
  | .tup _ => by simp [leD]
  | .mp _ => by simp [leD]
  | .new .. => by simp [leD]
theorem leDs_refl : ∀ ps : List PV, leDs ps ps
  | [] => by simp [leDs]
  | p :: ps => by simp only [leDs]; exact ⟨p, ps, rfl, leD_refl p, leDs_refl ps⟩
theorem leDR_refl : ∀ ps : List (List PV), leDR ps ps
  | [] => by simp [leDR]
  | p :: ps => by simp only [leDR]; exact ⟨p, ps, rfl, leDs_refl p, leDR_refl ps⟩
end
theorem leD_one {p q : PV} (h : leD p q) (ho : p.one = true) : q.one = true := by
  cases p <;> simp only [leD] at h
  case imm => obtain ⟨_, _, rfl, _⟩ := h; rfl
  case lit => rcases h with rfl | ⟨_, rfl⟩ <;> rfl
  all_goals (subst h; exact ho)
theorem leDs_len : ∀ {ps qs : List PV}, leDs ps qs → qs.length = ps.length
  | [], qs, h => by simp only [leDs] at h; subst h; rfl
  | p :: ps, qs, h => by
    simp only [leDs] at h
    obtain ⟨q, qs', rfl, _, h2⟩ := h
    simp [leDs_len h2]
theorem leDR_len : ∀ {ps qs : List (List PV)}, leDR ps qs → qs.length = ps.length
  | [], qs, h => by simp only [leDR] at h; subst h; rfl
  | p :: ps, qs, h => by
    simp only [leDR] at h
    obtain ⟨q, qs', rfl, _, h2⟩ := h
    simp [leDR_len h2]
mutual
theorem Rel.deep {κ : Kn} {w : World} : ∀ (p q : PV) (v : Value), Rel κ w p v → leD p q → Rel κ w q v
  | .imm es c, q, v, h, hl => by
    simp only [leD] at hl
    obtain ⟨es', c', rfl, hc, hr⟩ := hl
    simp only [Rel] at h ⊢
    obtain ⟨A, len, cap, h1, h2, h3, h4, h5⟩ := h
    have hlen := leDR_len hr
    refine ⟨A, len, cap, h1, by omega, h3, fun e => ?_, ?_⟩
    · rcases hc with rfl | rfl
      · exact h4 e
      · cases e
    · rcases h5 with rfl | ⟨b, o, s, h6, h7, h8⟩
      · exact .inl (List.eq_nil_of_length_eq_zero (by simpa using hlen))
      · exact .inr ⟨b, o, s, h6, h7, RelRows.deep es es' b o s h8 hr⟩
  | .lit u, q, v, h, hl => by
    simp only [leD] at hl
    rcases hl with rfl | ⟨rfl, rfl⟩
    · exact h
    · simp only [Rel] at h ⊢
      obtain ⟨rfl, _⟩ := h
      exact ⟨none, 0, 0, rfl, rfl, Nat.le_refl _, by simp, .inl trivial⟩
  | .own .., q, v, h, hl => by simp only [leD] at hl; subst hl; exact h
  | .cptr _, q, v, h, hl => by simp only [leD] at hl; subst hl; exact h
  | .ptr .., q, v, h, hl => by simp only [leD] at hl; subst hl; exact h
  | .clo .., q, v, h, hl => by simp only [leD] at hl; subst hl; exact h
  | .ifc .., q, v, h, hl => by simp only [leD] at hl; subst hl; exact h
  | .agg _, q, v, h, hl => by simp only [leD] at hl; subst hl; exact h
  | .tup _, q, v, h, hl => by simp only [leD] at hl; subst hl; exact h
  | .mp _, q, v, h, hl => by simp only [leD] at hl; subst hl; exact h
  | .new .., q, v, h, hl => by simp only [leD] at hl; subst hl; exact h
theorem RelCells.deep {κ : Kn} {w : World} : ∀ (ps qs : List PV) (b o : Nat), RelCells κ w b o ps → leDs ps qs → RelCells κ w b o qs
  | [], qs, b, o, h, hl => by simp only [leDs] at hl; subst hl; exact h
  | p :: ps, qs, b, o, h, hl => by
    simp only [leDs] at hl
    obtain ⟨q, qs', rfl, h1, h2⟩ := hl
    simp only [RelCells] at h ⊢
    obtain ⟨⟨v, g1, g2, g3⟩, g4⟩ := h
    exact ⟨⟨v, g1, leD_one h1 g2, Rel.deep p q v g3 h1⟩, RelCells.deep ps qs' b (o + 1) g4 h2⟩
theorem RelRows.deep {κ : Kn} {w : World} : ∀ (ps qs : List (List PV)) (b o s : Nat), RelRows κ.bare w b o s ps → leDR ps qs → RelRows κ.bare w b o s qs
  | [], qs, b, o, s, h, hl => by simp only [leDR] at hl; subst hl; exact h
  | p :: ps, qs, b, o, s, h, hl => by
    simp only [leDR] at hl
    obtain ⟨q, qs', rfl, h1, h2⟩ := hl
    simp only [RelRows] at h ⊢
    exact ⟨by rw [leDs_len h1]; exact h.1, RelCells.deep p q b o h.2.1 h1, RelRows.deep ps qs' b (o + s) s h.2.2 h2⟩
end
theorem CallSpec.deep {C : Ctx} {f : FuncId} {args : List PV} {es : List (List PV)} {c : Bool} {r' : PV} (h : CallSpec C f args (.imm es c)) (hl : leD (.imm es c) r') : CallSpec C f args r' :=
  ⟨h.1, fun w fz vs h1 h2 h3 => (h.2 w fz vs h1 h2 h3).mono fun e w' ⟨v, us, g1, g2, g3, g4, g5⟩ => ⟨v, us, g1, g2, g3, g4, by
    have g6 : us = [] ∧ Rel _ w' (.imm es c) v := g5
    have g7 := Rel.deep _ _ _ g6.2 hl
    simp only [leD] at hl
    obtain ⟨es', c', rfl, _⟩ := hl
    exact ⟨g6.1, g7⟩⟩⟩
end Go.Ab
end
