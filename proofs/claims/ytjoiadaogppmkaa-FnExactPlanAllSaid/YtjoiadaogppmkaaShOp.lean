/- One operation that yields its value and does no more. -/
import Derived.Test.YtjoiadaogppmkaaShCall3
namespace Go.Proofs.Ytjoiadaogppmkaa.Sh
open Go
set_option linter.unusedVariables false
set_option linter.unusedSimpArgs false

/-- yields a value and does nothing else -/
def quietB : Op → Bool
  | .move _ | .assign _ | .pick .. | .build .. | .load .. | .nilCheck .. | .binOp .. | .unOp .. | .convert .. | .makeFunc .. | .slice .. | .fieldAddr .. | .field .. | .indexAddr .. | .index .. | .extract .. | .makeInterface .. => true
  | .call c => match c.callee with
    | .builtin .len => true
    | .builtin .cap => true
    | .builtin .min => true
    | .builtin .max => true
    | _ => false
  | _ => false
def readsB : Op → Bool
  | .load .. => true
  | _ => false

theorem asC_rel {w : World} {av : Nat → Prop} {ρ : Rho} {h : Heap} {x : V} {c : Cell} {v : Value} (he : asC x = some c) (hx : RelV w av ρ h x v) : RelC w av ρ h c v := by
  unfold asC at he
  split at he
  · cases he; exact hx
  · cases he
theorem asW_rel {w : World} {av : Nat → Prop} {ρ : Rho} {h : Heap} {x : V} {c : W} {v : Value} (he : asW x = some c) (hx : RelV w av ρ h x v) : RelW w av ρ h c v := by
  unfold asW at he
  split at he
  · cases he; exact hx
  · cases he
theorem asI_rel {w : World} {av : Nat → Prop} {ρ : Rho} {h : Heap} {x : V} {n : Int} {v : Value} (he : asI x = some n) (hx : RelV w av ρ h x v) : ∃ k, v = .int k n := by
  unfold asI at he
  split at he
  · cases he; exact ⟨_, hx⟩
  · cases he

theorem run_value {P : Program} {s : Sem Value} {v : Value} {w w' : World} (h : s.run P w = .ok v w') : (do pure (Next.value (← s)) : Sem Next).run P w = .ok (.value v) w' := by
  rw [Sem.run_bind, h]; rfl
theorem run_unit {P : Program} {s : Sem Unit} {w w' : World} (h : s.run P w = .ok () w') : (do s; pure Next.skip : Sem Next).run P w = .ok .skip w' := by
  rw [Sem.run_bind, h]; rfl

theorem parts_map (a : Act) (ps : Array (Nat × Operand)) : (ps.map fun (i, x) => (i, a.eval x)) = (ps.toList.map fun p => (p.1, a.eval p.2)).toArray := by
  cases ps with
  | mk l => simp

theorem capsOf_sound {X : Ctx} {ρ : Rho} {σ : St} {a : Act} {w : World} (hF : RelF X ρ σ a w) : ∀ {cs : List Operand} {caps : List Nat}, capsOf σ cs = some caps →
    All2 (fun b u => ∃ blk r base, σ.h[b]? = some blk ∧ ρ b = some (r, base) ∧ u = .pointer (some ⟨r, base, none⟩)) caps (cs.map a.eval)
  | [], caps, h => by simp [capsOf] at h; subst h; exact .nil
  | x :: r, caps, h => by
    simp only [capsOf] at h
    split at h
    · rename_i b s hx hs
      cases h
      have hv := ev_sound hF x
      rw [hx] at hv
      obtain ⟨blk, rr, base, h1, h2, h3⟩ := hv
      refine .cons ⟨blk, rr, base, h1, h2, by simpa using h3⟩ (capsOf_sound hF hs)
    · cases h

theorem evWs_sound {X : Ctx} {ρ : Rho} {σ : St} {a : Act} {w : World} (hF : RelF X ρ σ a w) : ∀ {xs : List Operand} {ws : List W}, evWs σ xs = some ws → All2 (RelW w (avs X.A ρ σ.h) ρ σ.h) ws (xs.map a.eval)
  | [], ws, h => by simp [evWs] at h; subst h; exact .nil
  | x :: r, ws, h => by
    simp only [evWs] at h
    split at h
    · rename_i y s hy hs
      cases h
      exact .cons (asW_rel hy (ev_sound hF x)) (evWs_sound hF hs)
    · cases h

theorem lenC_slice {w : World} {av : Nat → Prop} {ρ : Rho} {h : Heap} {c : Cell} {n : Nat} {v : Value} (hn : lenC h c = some n) (hc : RelC w av ρ h c v) : ∃ ad cp, v = .slice ad n cp := by
  cases c <;> simp only [lenC] at hn <;> try cases hn
  case nil.refl => exact ⟨_, _, hc⟩
  case ro.refl =>
    obtain ⟨ad, cap, e1, _⟩ := hc
    simp at e1
    exact ⟨ad, cap, e1⟩
  case sl b wn =>
    obtain ⟨t, l, s, o, m, ad, cp, hb, hw, _, e, _⟩ := hc
    cases wn with
    | none =>
      simp only [hb] at hn
      simp at hw
      have hn := Option.some.inj hn
      exact ⟨ad, cp, by rw [e, hw.2, hn]⟩
    | some p =>
      obtain ⟨o', n'⟩ := p
      simp at hw
      simp only at hn
      have hn := Option.some.inj hn
      exact ⟨ad, cp, by rw [e, hw.2, hn]⟩

theorem slice_arr {P : Program} {T : Nat → Option TI} (hT : TOk P T) {X : Ctx} {ρ : Rho} {σ : St} {a : Act} {w : World} (hF : RelF X ρ σ a w) {tid n e : Nat} (hd : P.underlying tid = some (.array n e)) {b i : Nat} {u : Ty} {l : List u.D}
    (hb : σ.h[b]? = some (.row u l .var)) (hsz : u.size = sizeT T e) (hle : i + n ≤ l.length) {v : Value} (hv : RelC w (avs X.A ρ σ.h) ρ σ.h (.ptr b i 0) v) :
    ∃ y, (∀ w', (Instr.sliceAt tid v none none none).run P w' = .ok y w') ∧ SlOk w ρ σ.h b (some (i, n)) y := by
  obtain ⟨blk, r, base, h1, h2, rfl⟩ := hv
  rw [hb] at h1
  have h1 := Option.some.inj h1
  subst h1
  obtain ⟨j, hj, hjs⟩ := info_of hT (t := e) (by have := u.size_pos; omega)
  obtain ⟨cs, ee, hw, _, hroom⟩ := block_row (hF.H.blk b _ hb) h2
  refine ⟨.slice (some (if n = 0 then (⟨r, base + (i * u.size + 0), none⟩ : Addr) else (⟨r, base + (i * u.size + 0), none⟩ : Addr).add (0 * j.size))) (n - 0) (n - 0), fun w' => ?_, u, l, .var, i, n, _, n, hb, rfl, hle, rfl, Nat.le_refl _, ?_⟩
  · simp [Instr.sliceAt, run_underlying hd, Instr.sureAddr, Instr.sliceBounds, run_sizeOf hj, blkStride]
  · rcases Nat.eq_zero_or_pos n with h0 | h0
    · exact .inl h0
    · refine .inr ⟨r, base, cs, ee, (0, 0), h2, ?_, hw, ?_⟩
      · rw [if_neg (by omega), Nat.zero_mul, add_at]
        simp
      · have := hroom (i + n - 1) (by omega)
        have e1 : (i + n) * u.size = (i + n - 1) * u.size + u.size := by
          rw [← Nat.succ_mul]
          congr 1
          omega
        omega

theorem opK_take {E : Env} (hE : EOk E) {H : Hint} {dr : Bool} {o : Oper} {X : Ctx} {ρ : Rho} {σ : St} {a : Act} {w : World} {K : St → Prop} (hq : quietB o.op = true) (hF : RelF X ρ σ a w) (hK : opK E H dr o σ K) :
    ∃ x v, K (σ.put o.dst x) ∧ (∀ w', (readsB o.op = true → Mono w w') → (execOp a.eval o).run E.P w' = .ok (.value v) w') ∧ RelV w (avs X.A ρ σ.h) ρ σ.h x v := by
  obtain ⟨dst, op, ty, pos, after, guard⟩ := o
  have hev := ev_sound hF
  cases op <;> simp only [quietB] at hq <;> try cases hq
  case move x => exact ⟨_, _, hK, fun w' _ => rfl, hev x⟩
  case assign x => exact ⟨_, _, hK, fun w' _ => rfl, hev x⟩
  case pick c x y =>
    simp only [opK] at hK
    split at hK
    · rename_i t ht
      have hc := hev c
      rw [ht] at hc
      simp only [RelV, RelW, RelC] at hc
      cases t with
      | true => exact ⟨_, a.eval x, hK, fun w' _ => by simp [execOp, hc, asBool], hev x⟩
      | false => exact ⟨_, a.eval y, hK, fun w' _ => by simp [execOp, hc, asBool], hev y⟩
    · exact hK.elim
  case build t ps =>
    simp only [opK] at hK
    obtain ⟨y, v, h1, h2, h3⟩ := buildK_sound hE.T (P := E.P) hev hK
    refine ⟨_, v, h1, fun w' _ => ?_, h3⟩
    simp only [execOp, parts_map]
    exact run_value (h2 w')
  case load t x =>
    simp only [opK] at hK
    split at hK
    · rename_i c hc
      obtain ⟨y, v, h1, h2, h3⟩ := loadK_sound hE.T hF.H hK (asC_rel hc (hev x))
      exact ⟨_, v, h1, fun w' hw => run_value (h2 w' (hw rfl)), h3⟩
    · exact hK.elim
  case nilCheck x =>
    simp only [opK] at hK
    split at hK
    · rename_i b i o hc
      have hr := asC_rel hc (hev x)
      refine ⟨_, a.eval x, hK, fun w' _ => ?_, hr⟩
      obtain ⟨_, _, _, _, _, e⟩ := hr
      simp [execOp, e]
    · rename_i t y o hc
      have hr := asC_rel hc (hev x)
      refine ⟨_, a.eval x, hK, fun w' _ => ?_, hr⟩
      obtain ⟨_, _, _, _, _, _, e⟩ := hr
      simp [execOp, e]
    · exact hK.elim
  case binOp op xt x y yt =>
    simp only [opK] at hK
    obtain ⟨z, r, h1, h2, h3⟩ := binK_sound hE hK (ox := x) (oy := y) (hev x) (hev y)
    exact ⟨z, r, h1, fun w' _ => run_value (h2 w'), h3⟩
  case unOp op xt x =>
    simp only [opK] at hK
    obtain ⟨z, r, h1, h2, h3⟩ := unK_sound (P := E.P) hK (hev x)
    exact ⟨z, r, h1, fun w' _ => run_value (h2 w'), h3⟩
  case convert s d x =>
    simp only [opK] at hK
    split at hK
    · rename_i k0 n hx
      split at hK
      · rename_i ti k hs hd
        have hr := hev x
        rw [hx] at hr
        simp only [RelV, RelW, RelC] at hr
        obtain ⟨ti', hti', hty⟩ := tyOf_some hd
        obtain ⟨d1, e1, _⟩ := (hE.T _ _ hs).desc
        obtain ⟨d2, e2, _, _, e3, _⟩ := (hE.T _ _ hti').desc
        have e3 := e3 k hty
        subst e3
        refine ⟨_, .int k (k.wrap n), hK, fun w' _ => run_value ?_, rfl⟩
        simp [convert, run_underlying e1, run_underlying e2, hr, Conv.intToInt]
      · exact hK.elim
    · exact hK.elim
  case makeFunc fn fs cs =>
    cases fn <;> simp only [opK] at hK <;> try exact hK.elim
    case func f =>
      split at hK
      · rename_i caps hfs hcs
        refine ⟨_, .func (.func f) #[] (cs.map a.eval), hK, fun w' _ => ?_, (cs.map a.eval), rfl, ?_⟩
        · have : fs = #[] := by cases fs; simp at hfs; simp [hfs]
          subst this
          simp [execOp, Instr.makeFunc]
        · rw [Array.toList_map]
          exact capsOf_sound hF hcs
      · exact hK.elim
  case slice t x lo hi mx =>
    simp only [opK] at hK
    have opt : ∀ y : Option Operand, ((y.map (ev σ)) = none ∧ (y.map a.eval) = none) ∨ ∃ z v, (y.map (ev σ)) = some z ∧ (y.map a.eval) = some v ∧ RelV w (avs X.A ρ σ.h) ρ σ.h z v := by
      intro y
      cases y with
      | none => exact .inl ⟨rfl, rfl⟩
      | some y => exact .inr ⟨_, _, rfl, rfl, hev y⟩
    split at hK
    · rename_i e _ _ _ _ _ hs
      obtain ⟨d, hd, hk, _⟩ := (hE.T _ _ hs).desc
      simp only [kindOk] at hk
      subst hk
      split at hK
      · rename_i c hc
        obtain ⟨hb, hK⟩ := Ck_iff hK
        obtain ⟨y, v, h1, h2, h3⟩ := sliceK_sound hE.T hd hK (asC_rel hc (hev x)) (opt lo) (opt hi) (opt mx) (by
          intro v hv
          cases mx with
          | none => cases hv
          | some m => cases hi with
            | none => simp at hb
            | some h => exact ⟨_, rfl⟩)
        exact ⟨_, v, h1, fun w' _ => run_value (h2 w'), h3⟩
      · exact hK.elim
    · rename_i n e _ _ _ _ _ hs
      obtain ⟨d, hd, hk, _⟩ := (hE.T _ _ hs).desc
      simp only [kindOk] at hk
      subst hk
      split at hK
      · rename_i b i hc
        split at hK
        · rename_i u l hb
          obtain ⟨c1, hK⟩ := Ck_iff hK
          obtain ⟨c2, hK⟩ := Ck_iff hK
          obtain ⟨y, h1, h2⟩ := slice_arr hE.T hF hd hb (beq_iff c1) (ble_iff c2) (asC_rel hc (hev x))
          exact ⟨_, y, hK, fun w' _ => run_value (h1 w'), h2⟩
        · exact hK.elim
      · exact hK.elim
    · exact hK.elim
  case fieldAddr s x f =>
    simp only [opK] at hK
    split at hK
    · rename_i c hc
      obtain ⟨y, v, h1, h2, h3⟩ := fieldAddrK_sound hE.T hK (asC_rel hc (hev x))
      exact ⟨_, v, h1, fun w' _ => run_value (h2 w'), h3⟩
    · exact hK.elim
  case field s x f =>
    simp only [opK] at hK
    obtain ⟨y, v, h1, h2, h3⟩ := fieldK_sound hE.T hK (hev x)
    exact ⟨_, v, h1, fun w' _ => run_value (h2 w'), h3⟩
  case indexAddr t x i =>
    simp only [opK] at hK
    split at hK
    · rename_i c n hc hn
      obtain ⟨k, hi⟩ := asI_rel hn (hev i)
      obtain ⟨y, v, h1, h2, h3⟩ := indexAddrK_sound hE.T hK (k := k) (asC_rel hc (hev x))
      exact ⟨_, v, h1, fun w' _ => run_value (by rw [hi]; exact h2 w'), h3⟩
    · exact hK.elim
  case index t x i =>
    simp only [opK] at hK
    split at hK
    · rename_i n hn
      obtain ⟨k, hi⟩ := asI_rel hn (hev i)
      split at hK
      · rename_i str
        obtain ⟨hu, hK⟩ := hK
        obtain ⟨h0, hK⟩ := Ck_iff hK
        have h0 := of_decide_eq_true h0
        split at hK
        · rename_i b hb
          refine ⟨_, .int .u8 b.toNat, hK, fun w' _ => run_value ?_, rfl⟩
          rw [hi]
          have hx : a.eval (.const (.string str)) = .string str := rfl
          rw [hx]
          simp [Instr.index, asIntOf, run_underlying hu, h0, hb]
        · exact hK.elim
      · obtain ⟨y, v, h1, h2, h3⟩ := indexK_sound hE.T hK (k := k) (hev x)
        exact ⟨_, v, h1, fun w' _ => run_value (by rw [hi]; exact h2 w'), h3⟩
    · exact hK.elim
  case extract x i =>
    simp only [opK] at hK
    split at hK
    · rename_i xs hx
      split at hK
      · rename_i y hy
        have hr := hev x
        rw [hx] at hr
        obtain ⟨arr, e, ha⟩ := hr
        obtain ⟨v, hv, hyv⟩ := ha.get i y hy
        rw [Array.getElem?_toList] at hv
        refine ⟨_, v, hK, fun w' _ => run_value ?_, hyv⟩
        simp [Instr.extract, e, hv]
      · exact hK.elim
    · exact hK.elim
  case makeInterface t x =>
    simp only [opK] at hK
    split at hK
    · rename_i y ti hy hti
      have hr := hev x
      rw [hy] at hr
      obtain ⟨d, hd, _⟩ := (hE.T _ _ hti).desc
      have hc := (hE.T _ _ hti).conc
      refine ⟨_, .iface t (a.eval x), hK, fun w' _ => run_value ?_, _, rfl, hr⟩
      simp only [Instr.makeInterface, Sem.run_bind, run_underlying hd, Result.andThen_ok]
      cases d <;> first | rfl | (exact absurd hd (hc _))
    · exact hK.elim
  case call c =>
    obtain ⟨callee, args, argTypes⟩ := c
    cases callee with
    | value f => cases hq
    | invoke r n => cases hq
    | builtin b =>
      simp only [opK] at hK
      split at hK
      · rename_i ws hws
        have hr := evWs_sound hF hws
        have hargs : ∀ vs, args.toList.map a.eval = vs → args.map a.eval = vs.toArray := by
          intro vs e
          rw [← e]
          cases args; simp
        have hty : ∀ l, argTypes.toList = l → argTypes = l.toArray := fun l e => by rw [← e]
        generalize hvs : args.toList.map a.eval = vs at hr
        have hav := hargs _ hvs
        have run : ∀ {w' : World} {v : Value}, (builtin b argTypes ty (args.map fun | .const _ => true | _ => false) vs.toArray).run E.P w' = .ok (.value v) w' → (execOp a.eval ⟨dst, .call ⟨.builtin b, args, argTypes⟩, ty, pos, after, guard⟩).run E.P w' = .ok (.value v) w' := by
          intro w' v h
          simp only [execOp, resolve, hav, Sem.run_bind, Sem.run_pure, Result.andThen_ok, invoke]
          exact h
        split at hK
        · rename_i x t hts
          have hts := hty _ hts
          subst hts
          cases hr with
          | cons h1 h2 =>
            cases h2
            split at hK
            · rename_i e _ _ _ _ _ hs
              obtain ⟨d, hd, hk, _⟩ := (hE.T _ _ hs).desc
              simp only [kindOk] at hk
              subst hk
              split at hK
              · rename_i c
                split at hK
                · rename_i n hn
                  have key := lenC_slice hn h1
                  obtain ⟨ad, cp, rfl⟩ := key
                  refine ⟨_, .int .i64 n, hK, fun w' _ => run (run_value ?_), rfl⟩
                  simp [Builtin.len_, run_underlying hd, goInt]
                · exact hK.elim
              · exact hK.elim
            · rename_i n e _ _ _ _ _ hs
              obtain ⟨d, hd, hk, _⟩ := (hE.T _ _ hs).desc
              simp only [kindOk] at hk
              subst hk
              refine ⟨_, .int .i64 n, hK, fun w' _ => run (run_value ?_), rfl⟩
              simp [Builtin.len_, run_underlying hd, goInt]
            · exact hK.elim
        · rename_i t hts
          have hts := hty _ hts
          subst hts
          cases hr with
          | cons h1 h2 =>
            cases h2
            split at hK
            · rename_i e _ _ _ _ _ hs
              obtain ⟨d, hd, hk, _⟩ := (hE.T _ _ hs).desc
              simp only [kindOk] at hk
              subst hk
              simp only [RelW, RelC] at h1
              subst h1
              refine ⟨_, .int .i64 0, hK, fun w' _ => run (run_value ?_), rfl⟩
              simp [Builtin.cap_, run_underlying hd, goInt]
            · exact hK.elim
        · cases hq
        · cases hq
        · cases hq
        · rename_i k n k2 m
          obtain ⟨hk, hK2⟩ := Ck_iff hK
          have hk := of_decide_eq_true hk
          subst hk
          cases hr with
          | cons h1 h2 =>
            cases h2 with
            | cons h2 h3 =>
              cases h3
              simp only [RelW, RelC] at h1 h2
              subst h1; subst h2
              refine ⟨_, .int k (min n m), hK2, fun w' _ => run (run_value ?_), rfl⟩
              have : (if m < n then m else n) = min n m := by omega
              simp [Builtin.min_, Builtin.min2, this]
        · rename_i k n k2 m
          obtain ⟨hk, hK2⟩ := Ck_iff hK
          have hk := of_decide_eq_true hk
          subst hk
          cases hr with
          | cons h1 h2 =>
            cases h2 with
            | cons h2 h3 =>
              cases h3
              simp only [RelW, RelC] at h1 h2
              subst h1; subst h2
              refine ⟨_, .int k (max n m), hK2, fun w' _ => run (run_value ?_), rfl⟩
              have : (if m > n then m else n) = max n m := by omega
              simp [Builtin.max_, Builtin.max2, this]
        · exact hK.elim
      · exact hK.elim

end Go.Proofs.Ytjoiadaogppmkaa.Sh
