/- One operation that does more than yield a value. -/
import Derived.Test.YtjoiadaogppmkaaShOp
namespace Go.Proofs.Ytjoiadaogppmkaa.Sh
open Go
set_option linter.unusedVariables false
set_option linter.unusedSimpArgs false

/-- may write what was there -/
def effB : Op → Bool
  | .store .. => true
  | .call c => match c.callee with
    | .builtin .append => true
    | .builtin .copy => true
    | .builtin .clear => true
    | _ => false
  | _ => false

theorem run_zeroValue {P : Program} {t : Nat} {i : TypeInfo} {z : Value} (h : P.info? t = some i) (hz : i.zero = some z) (w : World) : (zeroValue t).run P w = .ok z w := by
  simp [zeroValue, typeInfo, h, hz]
theorem run_callFunc {P : Program} {f : Nat} {fn : Func} (hf : P.funcs[f]? = some fn) (hn : (fn.name == "runtime.NumGoroutine") = false) (hb : fn.body.isNone = false) (args : Array Value) (w : World) : (callFunc f args).run P w = .ok (.enter f args) w := by
  simp only [callFunc, Sem.run_bind, run_program, Result.andThen_ok, hf, hn, hb, Bool.false_eq_true, if_false]
  rfl

theorem opK_loud {E : Env} (hE : EOk E) {H : Hint} {dr : Bool} {o : Oper} {X : Ctx} {ρ : Rho} {σ : St} {a : Act} {w : World} {K : St → Prop} (hq : quietB o.op = false) (hd : ∀ k, o.dst = some k → k < X.N)
    (hF : RelF X ρ σ a w) (hK : opK E H dr o σ K) {next : Act → World → Prop} {Q : Exit → Act → World → Prop}
    (hn : ∀ σ' ρ' a' w', K σ' → RelF X ρ' σ' a' w' → (effB o.op = false → dr = true → Mono w w') → next a' w') :
    o.upon E.P a next Q ((execOp a.eval o).run E.P w) := by
  obtain ⟨dst, op, ty, pos, after, guard⟩ := o
  have hev := ev_sound hF
  have calls : ∀ {f : Nat} {args : List W} {vs : Array Value}, All2 (RelW w (avs X.A ρ σ.h) ρ σ.h) args vs.toList → callK E dr f args σ (fun σ v => K (σ.put dst v)) → effB op = false →
      (execOp a.eval ⟨dst, op, ty, pos, after, guard⟩).run E.P w = (callFunc f vs).run E.P w →
      Oper.upon E.P ⟨dst, op, ty, pos, after, guard⟩ a next Q ((execOp a.eval ⟨dst, op, ty, pos, after, guard⟩).run E.P w) := by
    intro f args vs hargs hc he hrun
    have hs : ∃ s, E.sig f = some s := by
      unfold callK at hc
      split at hc
      · exact hc.elim
      · exact ⟨_, by assumption⟩
    obtain ⟨s, hs⟩ := hs
    obtain ⟨fn, h1, h2, h3⟩ := hE.fns f s hs
    rw [hrun, run_callFunc h1 h2 h3]
    refine Calls.mono (callK_sound hF hargs hc) ?_
    rintro e w' ⟨v, ρ', σ', x, rfl, g1, g2, g3, g4⟩
    exact hn _ _ _ _ g2 (g1.put g3 hd) (fun _ => g4)
  cases op <;> simp only [quietB] at hq <;> try cases hq
  case alloc e =>
    simp only [opK] at hK
    split at hK
    · rename_i ti hti
      obtain ⟨i, z, h1, h2, h3, h4, h5, h6, h7⟩ := (hE.T _ _ hti).info
      have hrun : (execOp a.eval ⟨dst, .alloc e, ty, pos, after, guard⟩).run E.P w = .ok (.value (.pointer (some ⟨w.heap.size, 0, none⟩))) (w.alloc (.cells z.cells e)) := by
        refine run_value ?_
        simp only [Instr.alloc, Sem.run_bind, run_zeroValue h1 h2, Result.andThen_ok, newVar, newRow, run_newObj]
        rfl
      rw [hrun]
      have hF' := alloc_sound hF (constAll h5 w (avs X.A ρ σ.h) ρ σ.h) e
      exact hn _ _ _ _ hK (hF'.put (v := .w (.one (.ptr σ.h.length 0 0))) (u := .pointer (some ⟨w.heap.size, 0, none⟩)) (push_ptr (w := w) (av := X.A)) hd) (fun _ _ => (alloc_pushed w _).frame)
    · exact hK.elim
  case box e x =>
    simp only [opK] at hK
    split at hK
    · rename_i y hy
      have hr := hev x
      rw [hy] at hr
      have hrun : (execOp a.eval ⟨dst, .box e x, ty, pos, after, guard⟩).run E.P w = .ok (.value (.pointer (some ⟨w.heap.size, 0, none⟩))) (w.alloc (.cells (a.eval x).cells e)) := by
        refine run_value ?_
        simp only [Instr.box, Sem.run_bind, Result.andThen_ok, newVar, newRow, run_newObj]
        rfl
      rw [hrun]
      have hF' := alloc_sound hF (RelW.cells hr).1 e
      exact hn _ _ _ _ hK (hF'.put (v := .w (.one (.ptr σ.h.length 0 0))) (u := .pointer (some ⟨w.heap.size, 0, none⟩)) (push_ptr (w := w) (av := X.A)) hd) (fun _ _ => (alloc_pushed w _).frame)
    · exact hK.elim
  case buildSlice t n ps =>
    simp only [opK] at hK
    obtain ⟨σ', c, v, w', ρ', h1, h2, h3, h4, h5⟩ := buildSliceK_sound hE.T hF hev hK
    have hrun : (execOp a.eval ⟨dst, .buildSlice t n ps, ty, pos, after, guard⟩).run E.P w = .ok (.value v) w' := by
      simp only [execOp, parts_map]
      exact run_value h2
    rw [hrun]
    exact hn _ _ _ _ h1 (h4.put (v := .w (.one c)) h5 hd) (fun _ _ => h3)
  case makeSlice t l cp =>
    simp only [opK] at hK
    obtain ⟨σ', c, v, w', ρ', h1, h2, h3, h4, h5⟩ := makeK_sound hE.T hF hK (hev l) (hev cp)
    have hrun : (execOp a.eval ⟨dst, .makeSlice t l cp, ty, pos, after, guard⟩).run E.P w = .ok (.value v) w' := run_value h2
    rw [hrun]
    exact hn _ _ _ _ h1 (h4.put (v := .w (.one c)) h5 hd) (fun _ _ => h3)
  case store t x y =>
    simp only [opK] at hK
    split at hK
    · rename_i c u hc hu
      obtain ⟨σ', w', h1, h2, h3⟩ := storeK_sound hE.T hF hK (asC_rel hc (hev x)) (asW_rel hu (hev y))
      have hrun : (execOp a.eval ⟨dst, .store t x y, ty, pos, after, guard⟩).run E.P w = .ok .skip w' := run_unit h2
      rw [hrun]
      refine hn _ _ _ _ h1 (h3.put (v := .tup []) (u := undef) ⟨#[], rfl, .nil⟩ hd) (fun he => ?_)
      cases he
    · exact hK.elim
  case call c =>
    obtain ⟨callee, args, argTypes⟩ := c
    cases callee with
    | value f =>
      simp only [opK] at hK
      split at hK
      · rename_i g caps ws hf hws
        have hr := asC_rel hf (hev f)
        obtain ⟨arr, e, ha⟩ := hr
        have hargs := evWs_sound hF hws
        refine calls (vs := args.map a.eval ++ arr) ?_ hK rfl ?_
        · rw [Array.toList_append, Array.toList_map]
          refine hargs.append (All2.map ha ?_)
          rintro b u _ ⟨blk, r, base, q1, q2, q3⟩
          exact ⟨blk, r, base, q1, q2, by simpa using q3⟩
        · simp only [execOp, resolve, e, Deferred.ofValue, Sem.run_bind, Sem.run_pure, Result.andThen_ok, invoke, Array.empty_append]
      · exact hK.elim
    | invoke r name =>
      simp only [opK] at hK
      split at hK
      · rename_i t x d ws hr hws
        split at hK
        · rename_i f hfd
          obtain ⟨hm, hK⟩ := hK
          have hv := hev r
          rw [hr] at hv
          obtain ⟨u, e, hu⟩ := hv
          have hargs := evWs_sound hF hws
          refine calls (vs := #[u] ++ args.map a.eval) ?_ hK rfl ?_
          · rw [Array.toList_append, Array.toList_map]
            exact .cons hu hargs
          · have hm := hm u w
            simp only [execOp, resolve, e, Sem.run_bind, Sem.run_pure, Result.andThen_ok, invoke]
            have h0 : (#[Value.iface t u] ++ Array.map a.eval args)[0]? = some (.iface t u) := by
              rw [← Array.getElem?_toList]; simp
            have h1 : (#[Value.iface t u] ++ Array.map a.eval args).extract 1 (#[Value.iface t u] ++ Array.map a.eval args).size = args.map a.eval := by
              apply Array.toList_inj.1
              rw [Array.toList_extract]
              simp [List.extract]
              rw [List.take_of_length_le (by simp)]
            rw [h0, h1]
            simp only [callMethod, Sem.run_bind, run_program, Result.andThen_ok, hm]
        · exact hK.elim
      · exact hK.elim
    | builtin b =>
      simp only [opK] at hK
      split at hK
      · rename_i ws hws
        have hr := evWs_sound hF hws
        have hargs : ∀ vs, args.toList.map a.eval = vs → args.map a.eval = vs.toArray := by
          intro vs e
          rw [← e]
          cases args; simp
        have hty : ∀ l, argTypes.toList = l → argTypes = l.toArray := fun l e => by rw [← e]
        generalize hvs : args.toList.map a.eval = vs at hr
        have hav := hargs _ hvs
        have run : ∀ {w' : World} {v : Value}, (builtin b argTypes ty (args.map fun | .const _ => true | _ => false) vs.toArray).run E.P w = .ok (.value v) w' → (execOp a.eval ⟨dst, .call ⟨.builtin b, args, argTypes⟩, ty, pos, after, guard⟩).run E.P w = .ok (.value v) w' := by
          intro w' v h
          simp only [execOp, resolve, hav, Sem.run_bind, Sem.run_pure, Result.andThen_ok, invoke]
          exact h
        split at hK <;> try (first | cases hq | exact hK.elim)
        · rename_i s x t t' hts
          have hts := hty _ hts
          subst hts
          cases hr with
          | cons h1 h2 =>
            cases h2 with
            | cons h2 h3 =>
              cases h3
              split at hK
              · rename_i ex _ _ _ _ _ hs
                obtain ⟨d, hdd, hk, _⟩ := (hE.T _ _ hs).desc
                simp only [kindOk] at hk
                subst hk
                obtain ⟨σ', c, v, w', ρ', g1, g2, g3, g4⟩ := appendK_sound hE.T hF hK hdd h1 h2
                rw [run (run_value g2)]
                refine hn _ _ _ _ g1 (g3.put (v := .w (.one c)) g4 hd) (fun he => ?_)
                cases he
              · rename_i kx _ _ hs
                obtain ⟨d, hdd, hk, _, hi, _⟩ := (hE.T _ _ hs).desc
                have hdk := hi kx rfl
                subst hdk
                split at hK
                · obtain rfl := (h2 : _ = Value.int .i64 _)
                  obtain ⟨σ', c, v, w', ρ', g1, g2, g3, g4⟩ := appendZ_sound hE.T hF hK hdd h1
                  rw [run (run_value g2)]
                  refine hn _ _ _ _ g1 (g3.put (v := .w (.one c)) g4 hd) (fun he => ?_)
                  cases he
                · exact hK.elim
              · exact hK.elim
        · rename_i dd s t t' hts
          have hts := hty _ hts
          subst hts
          cases hr with
          | cons h1 h2 =>
            cases h2 with
            | cons h2 h3 =>
              cases h3
              split at hK
              · rename_i e _ _ _ _ _ hs
                obtain ⟨d, hdd, hk, _⟩ := (hE.T _ _ hs).desc
                simp only [kindOk] at hk
                subst hk
                obtain ⟨σ', y, v, w', g1, g2, g3, g4⟩ := copyK_sound hE.T hF hdd hK h1 h2
                rw [run (run_value g2)]
                refine hn _ _ _ _ g1 (g3.put g4 hd) (fun he => ?_)
                cases he
              · exact hK.elim
        · rename_i dd t hts
          have hts := hty _ hts
          subst hts
          cases hr with
          | cons h1 h2 =>
            cases h2
            split at hK
            · rename_i e _ _ _ _ _ hs
              obtain ⟨d, hdd, hk, _⟩ := (hE.T _ _ hs).desc
              simp only [kindOk] at hk
              subst hk
              obtain ⟨σ', w', g1, g2, g3⟩ := clearK_sound hE.T hF hdd hK h1
              rw [run (run_value g2)]
              refine hn _ _ _ _ g1 (g3.put (v := .tup []) ⟨#[], rfl, .nil⟩ hd) (fun he => ?_)
              cases he
            · exact hK.elim
      · exact hK.elim
  all_goals (simp only [opK] at hK)

end Go.Proofs.Ytjoiadaogppmkaa.Sh
