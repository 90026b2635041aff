/- Structs and arrays of int are compared cell by cell. -/
import Derived.Test.YtlebgbcoljnejaaShSeat
import Derived.ChangeKeysEq
namespace Go.Proofs.Ytlebgbcoljnejaa.Sh
open Go
set_option linter.unusedVariables false

def intT (P : Program) (t : Nat) : Bool := match P.underlying t with
  | some (.int _) => true
  | _ => false
theorem intT_iff {P : Program} {t : Nat} (h : intT P t = true) : ∃ k, P.underlying t = some (.int k) := by
  unfold intT at h
  split at h
  · exact ⟨_, by assumption⟩
  · cases h
theorem intT_plain {P : Program} {t : Nat} (h : intT P t = true) : P.plainKey t = true := by
  obtain ⟨k, hk⟩ := intT_iff h
  simp [Program.plainKey, hk]
def intFields (P : Program) : List Field → Nat → Bool
  | [], _ => true
  | f :: fs, off => ((f.name != "_") && Nat.beq f.offset off && intT P f.type) && intFields P fs (off + 1)
theorem drop_eq_iff {ns ms : List Int} {off : Nat} (h1 : off < ns.length) (h2 : off < ms.length) : decide (ns.drop off = ms.drop off) = (decide (ns[off] = ms[off]) && decide (ns.drop (off + 1) = ms.drop (off + 1))) := by
  rw [List.drop_eq_getElem_cons h1, List.drop_eq_getElem_cons h2, ← Bool.decide_and]
  exact decide_eq_decide.2 (by rw [List.cons.injEq])
theorem eqFields_ints {P : Program} (w : World) (d : Nat) {ns ms : List Int} : ∀ (fs : List Field) (off : Nat), intFields P fs off = true → ns.length = off + fs.length → ms.length = off + fs.length →
    (Op.eqFields (d + 1) (ns.map (Value.int .i64)).toArray (ms.map (Value.int .i64)).toArray fs).run P w = .ok (decide (ns.drop off = ms.drop off)) w
  | [], off, h, h1, h2 => by
    rw [List.drop_eq_nil_of_le (by simp at h1; omega), List.drop_eq_nil_of_le (by simp at h2; omega)]
    simp [Op.eqFields]
  | f :: fs, off, h, h1, h2 => by
    unfold intFields at h
    simp only [Bool.and_eq_true] at h
    obtain ⟨⟨⟨hname, hoff⟩, hint⟩, hrest⟩ := h
    have hoff := Nat.eq_of_beq_eq_true hoff
    have l1 : off < ns.length := by simp at h1; omega
    have l2 : off < ms.length := by simp at h2; omega
    obtain ⟨k, hk⟩ := intT_iff hint
    have g1 := run_part_plain w (intT_plain hint) (xs := (ns.map (Value.int .i64)).toArray) (off := f.offset) (v := .int .i64 ns[off]) (by subst hoff; simp [l1])
    have g2 := run_part_plain w (intT_plain hint) (xs := (ms.map (Value.int .i64)).toArray) (off := f.offset) (v := .int .i64 ms[off]) (by subst hoff; simp [l2])
    have ih := eqFields_ints (P := P) w d (ns := ns) (ms := ms) fs (off + 1) hrest (by simp at h1; omega) (by simp at h2; omega)
    have hne : f.name ≠ "_" := by simpa using hname
    rw [Op.eqFields, if_pos hne]
    simp only [Sem.run_bind, g1, g2, Result.andThen_ok, run_equalIn_int w d f.type .i64 k _ _ hk]
    rw [drop_eq_iff l1 l2]
    by_cases he : ns[off] = ms[off]
    · simp only [he, beq_self_eq_true, Bool.not_true, Bool.false_eq_true, if_false, decide_true, Bool.true_and]
      exact ih
    · simp [he]
theorem eqOk_struct {P : Program} {t : Nat} (hS : P.underlying t = some (.struct (P.fieldsOf t))) (hp : P.stoodInHeld t = false) (hm : P.eqGuardType P.depth t = false) (hf : intFields P (P.fieldsOf t).toList 0 = true) :
    EqOk P t (P.fieldsOf t).toList.length := by
  intro ns ms h1 h2 w
  refine ⟨?_, fun op x y => run_eqGuard_agg w op t x y _ _ hm⟩
  rw [show Op.equal t = Op.equalIn 10000 t from rfl, show (10000 : Nat) = 9998 + 1 + 1 from rfl, run_equalIn_struct w (9998 + 1) t _ _ hS hp]
  have := eqFields_ints (P := P) w 9998 (ns := ns) (ms := ms) (P.fieldsOf t).toList 0 hf (by omega) (by omega)
  simpa using this
theorem eqItems_ints {P : Program} (w : World) (d : Nat) {e : Nat} (he : intT P e = true) (hc : P.cellsOf e = 1) {ns ms : List Int} : ∀ (n off : Nat), ns.length = off + n → ms.length = off + n →
    (Op.eqItems (d + 1) e (P.cellsOf e) (ns.map (Value.int .i64)).toArray (ms.map (Value.int .i64)).toArray (List.range' off n)).run P w = .ok (decide (ns.drop off = ms.drop off)) w
  | 0, off, h1, h2 => by
    rw [List.drop_eq_nil_of_le (by omega), List.drop_eq_nil_of_le (by omega)]
    simp [Op.eqItems]
  | n + 1, off, h1, h2 => by
    have l1 : off < ns.length := by omega
    have l2 : off < ms.length := by omega
    obtain ⟨k, hk⟩ := intT_iff he
    have g1 := run_part_plain w (intT_plain he) (xs := (ns.map (Value.int .i64)).toArray) (off := off * P.cellsOf e) (v := .int .i64 ns[off]) (by rw [hc, Nat.mul_one]; simp [l1])
    have g2 := run_part_plain w (intT_plain he) (xs := (ms.map (Value.int .i64)).toArray) (off := off * P.cellsOf e) (v := .int .i64 ms[off]) (by rw [hc, Nat.mul_one]; simp [l2])
    have ih := eqItems_ints (P := P) w d he hc (ns := ns) (ms := ms) n (off + 1) (by omega) (by omega)
    rw [List.range'_succ, Op.eqItems]
    simp only [Sem.run_bind, g1, g2, Result.andThen_ok, run_equalIn_int w d e .i64 k _ _ hk]
    rw [drop_eq_iff l1 l2]
    by_cases he : ns[off] = ms[off]
    · simp only [he, beq_self_eq_true, Bool.not_true, Bool.false_eq_true, if_false, decide_true, Bool.true_and]
      exact ih
    · simp [he]
theorem eqOk_a {P : Program} {t n : Nat} (e : Nat) (hu : P.underlying t = some (.array n e)) (hs : (P.info? e).isSome = true) (he : intT P e = true) (hc : P.cellsOf e = 1) (hm : P.eqGuardType P.depth t = false) : EqOk P t n := by
  intro ns ms h1 h2 w
  obtain ⟨i, hi⟩ := Option.isSome_iff_exists.1 hs
  refine ⟨?_, fun op x y => run_eqGuard_agg w op t x y _ _ hm⟩
  rw [show Op.equal t = Op.equalIn 10000 t from rfl, show (10000 : Nat) = 9998 + 1 + 1 from rfl, run_equalIn_array w (9998 + 1) _ _ hu hi, List.range_eq_range']
  have := eqItems_ints (P := P) w 9998 he hc (ns := ns) (ms := ms) n 0 (by omega) (by omega)
  simpa using this
def EqsOk (P : Program) (sz : Nat → Nat) : List Nat → Prop
  | [] => True
  | t :: ts => EqOk P t (sz t) ∧ EqsOk P sz ts
theorem EqsOk.all {P : Program} {sz : Nat → Nat} : ∀ {l : List Nat}, EqsOk P sz l → ∀ t ∈ l, EqOk P t (sz t)
  | [], _, _, h => by cases h
  | t :: ts, ⟨h, hs⟩, u, hu => by
    rcases List.mem_cons.1 hu with rfl | hu
    · exact h
    · exact EqsOk.all hs u hu
theorem eqOk_s {P : Program} {t n : Nat} (hn : n = (P.fieldsOf t).toList.length) (hS : P.underlying t = some (.struct (P.fieldsOf t))) (hp : P.stoodInHeld t = false) (hm : P.eqGuardType P.depth t = false) (hf : intFields P (P.fieldsOf t).toList 0 = true) : EqOk P t n := by
  subst hn
  exact eqOk_struct hS hp hm hf

end Go.Proofs.Ytlebgbcoljnejaa.Sh
