/- A call, whole. -/
import Derived.Test.YtjoiadaogppmkaaShCall2
namespace Go.Proofs.Ytjoiadaogppmkaa.Sh
open Go
set_option linter.unusedVariables false
set_option linter.unusedSimpArgs false

theorem lend_rel {X : Ctx} {ρ : Rho} {σ : St} {a : Act} {w : World} (hF : RelF X ρ σ a w) {ids bs : List Nat} (hlt : ∀ b ∈ ids, b < σ.h.length)
    {c : Cell} {v : Value} (hc : RelC w (avs X.A ρ σ.h) ρ σ.h c v) :
    RelC w (avs (offOf' X.A ρ σ.h bs) (rhoOf ρ ids) (lentOf σ.h ids)) (rhoOf ρ ids) (lentOf σ.h ids) (renC (fun b => idx b ids) c) v := by
  have hav : ∀ r, avs (offOf' X.A ρ σ.h bs) (rhoOf ρ ids) (lentOf σ.h ids) r → avs X.A ρ σ.h r := by
    intro r h
    rcases h with h | h
    · exact h.imp id (·.1)
    · obtain ⟨b, x, base, _, hx, hz, hρ⟩ := own_lent hlt h
      exact .inr ⟨b, x, base, hx, hz, hρ⟩
  exact RelC.ren (fun r _ h => hav r h) (fun r o v _ h => h) _ (fun b _ b' e => Sim.lent hlt e) hc

theorem relW_of {w w' : World} {av av' : Nat → Prop} {ρ ρ' : Rho} {h h' : Heap} {g : Cell → Cell} {gw : W → W} (g1 : ∀ c, gw (.one c) = .one (g c)) (g2 : ∀ cs, gw (.agg cs) = .agg (cs.map g))
    {x : W} {v : Value} (hx : RelW w av ρ h x v) (hc : ∀ c ∈ x.cells, ∀ u, RelC w av ρ h c u → RelC w' av' ρ' h' (g c) u) : RelW w' av' ρ' h' (gw x) v := by
  cases x with
  | one c => rw [g1]; exact hc c (by simp [W.cells]) v hx
  | agg cs =>
    obtain ⟨arr, e, ha⟩ := hx
    rw [g2]
    exact ⟨arr, e, All2.map ha fun c u hcm hcu => hc c hcm u hcu⟩

theorem refsC_view {h : Heap} {c : Cell} {b : Nat} (hb : b ∈ refsC (viewC h c)) : b ∈ refsC c := by
  cases c with
  | sl b' wn =>
    simp only [viewC] at hb
    split at hb <;> simp [refsC] at hb
  | _ => exact hb
theorem refsW_view {h : Heap} {x : W} {b : Nat} (hb : b ∈ refsW (viewW h x)) : b ∈ refsW x := by
  cases x with
  | one c =>
    simp only [viewW, refsW, W.cells, refsCs, List.flatMap_cons, List.flatMap_nil, List.append_nil] at hb ⊢
    exact refsC_view hb
  | agg cs =>
    simp only [viewW, refsW, W.cells, refsCs, List.mem_flatMap, List.mem_map] at hb ⊢
    obtain ⟨_, ⟨c, hc, rfl⟩, hb⟩ := hb
    exact ⟨c, hc, refsC_view hb⟩

theorem callWith_sound {X : Ctx} {ρ : Rho} {σ : St} {a : Act} {w : World} (hF : RelF X ρ σ a w) {P : Program} {dr : Bool} {s : Sig} {f : Nat} {args' : List W} {viewed : List Nat} {K : St → V → Prop} {vs : Array Value}
    (hK : callWith P dr s f args' viewed σ K) (hrf : ∀ b ∈ args'.flatMap refsW, b < σ.h.length)
    (hargs : ∀ ids : List Nat, (∀ b ∈ ids, b < σ.h.length) → (∀ b ∈ viewed, b ∉ ids) →
      All2 (RelW w (avs (offOf' X.A ρ σ.h (ids ++ viewed)) (rhoOf ρ ids) (lentOf σ.h ids)) (rhoOf ρ ids) (lentOf σ.h ids)) (args'.map (renW fun b => idx b ids)) vs.toList) :
    Calls P f vs w fun e w' => ∃ v ρ' σ' x, e = .returned v ∧ RelF X ρ' σ' a w' ∧ K σ' x ∧ RelV w' (avs X.A ρ' σ'.h) ρ' σ'.h x v ∧ (dr = true → Mono w w') := by
  unfold callWith at hK
  dsimp only at hK
  generalize hids : reach σ.h fuelR (args'.flatMap refsW) [] = ids at hK
  obtain ⟨hd, hK⟩ := Ck_iff hK
  obtain ⟨hdr, x, hK⟩ := Ck_iff hK
  generalize hgn : buildG s.cps x ids.length = gn at hK
  obtain ⟨gs, news⟩ := gn
  dsimp only at hK
  generalize hbb : backBlks s.lent (lentOf σ.h ids) gs = bb at hK
  obtain ⟨lent1, gs'⟩ := bb
  dsimp only at hK
  obtain ⟨hlen, hSC, hK⟩ := Ck_iff hK
  have hlen := beq_iff hlen
  have hnd : ids.Nodup := by rw [← hids]; exact reach_nodup _ _ _ _ List.nodup_nil
  have hlt : ∀ b ∈ ids, b < σ.h.length := by
    rw [← hids]
    refine reach_lt (fun b hb c hc => ?_) _ _ _ hrf (by simp)
    rw [List.getElem?_eq_getElem hb] at hc
    exact (hF.H.blk b _ (List.getElem?_eq_getElem hb)).refs_lt c hc
  have hdis := disj_spec hd
  have hH := lent_rel hF (ids := ids) (bs := ids ++ viewed) hnd hlt (fun b hb => List.mem_append_left _ hb)
  refine Calls.mono (hSC w vs _ _ hH (hargs ids hlt hdis)) ?_
  rintro e w' ⟨v, ρ', rfl, h1, h2, h3, h4, h5, h6, h7, h8⟩
  have hB : Back (offOf' X.A ρ σ.h (ids ++ viewed)) (rhoOf ρ ids) (lentOf σ.h ids) w ρ' (lent1 ++ news) w' := ⟨h1, h3, h4, h5, h6, h7, h8⟩
  have hmono : dr = true → Mono w w' := by
    intro hdr'
    rw [hdr'] at hdr
    simp at hdr
    have hnil : ids = [] := hdr
    subst hnil
    refine ⟨h3.os, h3.tape, h3.output, h3.size, fun k hk _ => h3.block k hk ?_, h3.room⟩
    rintro ⟨b, y, base, hy, _⟩
    simp [lentOf] at hy
  have key : ∀ h1 : Heap, ((backRes s.ret gs').all flatW = true ∧ (lent1 ++ news).all flatB = true ∧ h1 = σ.h) ∨ (h1 = freezeAll σ.h viewed ∧ ∀ b ∈ viewed, canFreeze σ.h b = true) →
      K ⟨eraseM (movedIds ids lent1) σ.m, mergeB ids (backMap ids σ.h.length) lent1 0 (eraseH (movedIds ids lent1) h1) ++ news.map (renB (backMap ids σ.h.length))⟩ (resV ((backRes s.ret gs').map (renW (backMap ids σ.h.length)))) →
      ∃ v' ρ'' σ' x, Ending.returned v = .returned v' ∧ RelF X ρ'' σ' a w' ∧ K σ' x ∧ RelV w' (avs X.A ρ'' σ'.h) ρ'' σ'.h x v' ∧ (dr = true → Mono w w') := by
    intro h1 hcase hK
    obtain ⟨g1, g2⟩ := after_call hF hnd hlt hdis (by rw [hlen]) hB hcase
    refine ⟨v, _, _, _, rfl, g1, hK, ?_, hmono⟩
    generalize backRes s.ret gs' = res at h2 g2
    match res, h2, g2 with
    | [], h2, g2 =>
      obtain ⟨arr, e, ha⟩ := h2
      refine ⟨arr, e, ?_⟩
      cases ha' : arr.toList with
      | nil => exact .nil
      | cons _ _ => rw [ha'] at ha; cases ha
    | [y], h2, g2 => exact g2 y v (by simp) h2
    | y :: z :: r, h2, g2 =>
      obtain ⟨arr, e, ha⟩ := h2
      exact ⟨arr, e, All2.map ha fun c u hc hu => g2 c u hc hu⟩
  unfold afterCall at hK
  cases hfl : ((backRes s.ret gs').all flatW && (lent1 ++ news).all flatB) with
  | true =>
    rw [hfl] at hK
    rw [Bool.and_eq_true] at hfl
    exact key σ.h (.inl ⟨hfl.1, hfl.2, rfl⟩) hK
  | false =>
    rw [hfl] at hK
    obtain ⟨hv, hK⟩ := Ck_iff hK
    exact key _ (.inr ⟨rfl, fun b hb => List.all_eq_true.1 hv b hb⟩) hK

theorem callK_sound {E : Env} {X : Ctx} {ρ : Rho} {σ : St} {a : Act} {w : World} (hF : RelF X ρ σ a w) {dr : Bool} {f : Nat} {args : List W} {K : St → V → Prop} {vs : Array Value}
    (hargs : All2 (RelW w (avs X.A ρ σ.h) ρ σ.h) args vs.toList) (hK : callK E dr f args σ K) :
    Calls E.P f vs w fun e w' => ∃ v ρ' σ' x, e = .returned v ∧ RelF X ρ' σ' a w' ∧ K σ' x ∧ RelV w' (avs X.A ρ' σ'.h) ρ' σ'.h x v ∧ (dr = true → Mono w w') := by
  unfold callK at hK
  have hrefs : ∀ {args : List W} {vs : List Value}, All2 (RelW w (avs X.A ρ σ.h) ρ σ.h) args vs → ∀ x ∈ args, ∀ b ∈ refsW x, b < σ.h.length := by
    intro args vs h
    induction h with
    | nil => simp
    | cons h1 _ ih =>
      intro x hx
      rcases List.mem_cons.1 hx with rfl | hx
      · exact h1.refs_lt
      · exact ih x hx
  cases hs : E.sig f with
  | none => rw [hs] at hK; exact hK.elim
  | some s =>
    rw [hs] at hK
    dsimp only at hK
    cases hl : s.lend with
    | true =>
      rw [hl] at hK
      refine callWith_sound hF hK (fun b hb => ?_) (fun ids hlt hdis => ?_)
      · obtain ⟨x, hx, hb⟩ := List.mem_flatMap.1 hb
        exact hrefs hargs x hx b hb
      · exact All2.map hargs fun x v _ hx => relW_of (fun c => rfl) (fun cs => rfl) hx fun c _ u hc => lend_rel hF hlt hc
    | false =>
      rw [hl] at hK
      refine callWith_sound hF hK (fun b hb => ?_) (fun ids hlt hdis => ?_)
      · obtain ⟨x, hx, hb⟩ := List.mem_flatMap.1 hb
        obtain ⟨y, hy, rfl⟩ := List.mem_map.1 hx
        exact hrefs hargs y hy b (refsW_view hb)
      · rw [List.map_map]
        refine All2.map hargs fun x v hxm hx => relW_of (g := fun c => renC (fun b => idx b ids) (viewC σ.h c)) (gw := (renW fun b => idx b ids) ∘ viewW σ.h) (fun c => rfl) (fun cs => ?_) hx fun c hcm u hc =>
          view_rel hF hlt (fun b hb => List.mem_append_right _ hb) hdis (fun b hb => ?_) hc
        · simp [viewW, renW]
        · exact List.mem_flatMap.2 ⟨x, hxm, List.mem_flatMap.2 ⟨c, hcm, hb⟩⟩

end Go.Proofs.Ytjoiadaogppmkaa.Sh
