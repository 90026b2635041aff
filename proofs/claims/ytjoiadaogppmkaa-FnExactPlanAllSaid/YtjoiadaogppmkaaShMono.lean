/- What holds behind a step may be weakened. -/
import Derived.Test.YtjoiadaogppmkaaShWp
namespace Go.Proofs.Ytjoiadaogppmkaa.Sh
open Go
set_option linter.unusedVariables false
set_option linter.unusedSimpArgs false

theorem Ck_mono {b : Bool} {K K' : Prop} (hk : K → K') (h : Ck b K) : Ck b K' := by
  cases b
  · exact h
  · exact hk h
theorem Br_mono {b : Bool} {A B A' B' : Prop} (ha : A → A') (hb : B → B') (h : Br b A B) : Br b A' B' := by
  cases b
  · exact hb h
  · exact ha h
theorem Ck_and {b : Bool} {K : Prop} (h : Ck b K) : b = true ∧ K := by
  cases b
  · exact h.elim
  · exact ⟨rfl, h⟩

theorem partD_mono {t : Ty} {x : t.D} {o n : Nat} {agg : Bool} {K K' : W → Prop} (hk : ∀ y, K y → K' y) (h : partD t x o n agg K) : partD t x o n agg K' := by
  unfold partD at h ⊢
  repeat' (first | split at h | (have ⟨_, h⟩ := Ck_and h))
  all_goals first
    | exact h.elim
    | (simp only [*, Ck] <;> done)
    | (simp only [*, Ck]; exact hk _ h)
    | exact hk _ h

theorem storeK_mono {T : Nat → Option TI} {σ : St} {tid : Nat} {p : Cell} {v : W} {K K' : St → Prop} (hk : ∀ y, K y → K' y) (h : storeK T σ tid p v K) : storeK T σ tid p v K' := by
  unfold storeK at h ⊢
  repeat' (first | split at h | (have ⟨_, h⟩ := Ck_and h))
  all_goals first
    | exact h.elim
    | (simp only [*, Ck] <;> done)
    | (simp only [*, Ck]; exact hk _ h)
    | exact hk _ h

theorem fieldAddrK_mono {T : Nat → Option TI} {h0 : Heap} {s : Nat} {p : Cell} {f : Nat} {K K' : Cell → Prop} (hk : ∀ y, K y → K' y) (h : fieldAddrK T h0 s p f K) : fieldAddrK T h0 s p f K' := by
  unfold fieldAddrK at h ⊢
  repeat' (first | split at h | (have ⟨_, h⟩ := Ck_and h))
  all_goals first
    | exact h.elim
    | (simp only [*, Ck] <;> done)
    | (simp only [*, Ck]; exact hk _ h)
    | exact hk _ h

theorem indexAddrK_mono {T : Nat → Option TI} {h0 : Heap} {tid : Nat} {p : Cell} {i : Int} {K K' : Cell → Prop} (hk : ∀ y, K y → K' y) (h : indexAddrK T h0 tid p i K) : indexAddrK T h0 tid p i K' := by
  unfold indexAddrK at h ⊢
  repeat' (first | split at h | (have ⟨_, h⟩ := Ck_and h))
  all_goals first
    | exact h.elim
    | (simp only [*, Ck] <;> done)
    | (simp only [*, Ck]; exact hk _ h)
    | exact hk _ h

theorem arithK_mono {op : BinOp} {k : IntKind} {a b : Int} {K K' : V → Prop} (hk : ∀ y, K y → K' y) (h : arithK op k a b K) : arithK op k a b K' := by
  unfold arithK at h ⊢
  repeat' (first | split at h | (have ⟨_, h⟩ := Ck_and h))
  all_goals first
    | exact h.elim
    | (simp only [*, Ck] <;> done)
    | (simp only [*, Ck]; exact hk _ h)
    | exact hk _ h

theorem unK_mono {op : UnOp} {x : V} {K K' : V → Prop} (hk : ∀ y, K y → K' y) (h : unK op x K) : unK op x K' := by
  unfold unK at h ⊢
  repeat' (first | split at h | (have ⟨_, h⟩ := Ck_and h))
  all_goals first
    | exact h.elim
    | (simp only [*, Ck] <;> done)
    | (simp only [*, Ck]; exact hk _ h)
    | exact hk _ h

theorem fieldK_mono {T : Nat → Option TI} {s : Nat} {x : V} {f : Nat} {K K' : W → Prop} (hk : ∀ y, K y → K' y) (h : fieldK T s x f K) : fieldK T s x f K' := by
  unfold fieldK at h ⊢
  repeat' (first | split at h | (have ⟨_, h⟩ := Ck_and h))
  all_goals first
    | exact h.elim
    | (simp only [*, Ck] <;> done)
    | (simp only [*, Ck]; exact hk _ h)
    | exact hk _ h

theorem indexK_mono {T : Nat → Option TI} {tid : Nat} {x : V} {i : Int} {K K' : W → Prop} (hk : ∀ y, K y → K' y) (h : indexK T tid x i K) : indexK T tid x i K' := by
  unfold indexK at h ⊢
  repeat' (first | split at h | (have ⟨_, h⟩ := Ck_and h))
  all_goals first
    | exact h.elim
    | (simp only [*, Ck] <;> done)
    | (simp only [*, Ck]; exact hk _ h)
    | exact hk _ h

theorem buildK_mono {T : Nat → Option TI} {σ : St} {tid : Nat} {ps : List (Nat × Operand)} {K K' : W → Prop} (hk : ∀ y, K y → K' y) (h : buildK T σ tid ps K) : buildK T σ tid ps K' := by
  unfold buildK at h ⊢
  repeat' (first | (have ⟨_, h⟩ := Ck_and h) | split at h)
  all_goals first
    | exact h.elim
    | (simp only [*, Ck] <;> done)
    | (simp only [*, Ck]; exact hk _ h)
    | exact hk _ h

theorem loadK_mono {T : Nat → Option TI} {h0 : Heap} {tid : Nat} {p : Cell} {K K' : W → Prop} (hk : ∀ y, K y → K' y) (h : loadK T h0 tid p K) : loadK T h0 tid p K' := by
  unfold loadK at h ⊢
  repeat' (first | split at h | (have ⟨_, h⟩ := Ck_and h))
  all_goals first
    | exact h.elim
    | (simp only [*, Ck] <;> done)
    | exact partD_mono hk h
    | (simp only [*]; exact partD_mono hk h)
    | (simp only [*, Ck]; exact partD_mono hk h)
    | (simp only [*, Ck]; exact hk _ h)

theorem optI_mono {x : Option V} {d : Int} {K K' : Int → Prop} (hk : ∀ y, K y → K' y) (h : optI x d K) : optI x d K' := by
  unfold optI at h ⊢
  repeat' (split at h)
  all_goals first
    | exact h.elim
    | (simp only [*] <;> done)
    | exact hk _ h
theorem sliceK_mono {es : Nat} {h0 : Heap} {c : Cell} {lo hi mx : Option V} {K K' : Cell → Prop} (hk : ∀ y, K y → K' y) (h : sliceK es h0 c lo hi mx K) : sliceK es h0 c lo hi mx K' := by
  unfold sliceK at h ⊢
  refine Ck_mono (fun h => ?_) h
  split at h
  · exact h.elim
  · first | exact optI_mono (fun m h => optI_mono (fun hi h => optI_mono (fun lo h => Ck_mono (Ck_mono (Ck_mono (Ck_mono (hk _)))) h) h) h) h | (simp only [*]; exact optI_mono (fun m h => optI_mono (fun hi h => optI_mono (fun lo h => Ck_mono (Ck_mono (Ck_mono (Ck_mono (hk _)))) h) h) h) h) | (simp only [*] <;> done)
theorem nilK_mono {h0 : Heap} {c : Cell} {K K' : Bool → Prop} (hk : ∀ y, K y → K' y) (h : nilK h0 c K) : nilK h0 c K' := by
  unfold nilK at h ⊢
  split at h
  · exact hk _ h
  · split at h
    · first | exact fun b hb => hk _ (h b hb) | (simp only [*]; exact fun b hb => hk _ (h b hb)) | (simp only [*] <;> done)
    · exact h.elim
theorem binK_mono {T : Nat → Option TI} {eqs : List Nat} {h0 : Heap} {op : BinOp} {xt : Nat} {x y : V} {K K' : V → Prop} (hk : ∀ y, K y → K' y) (h : binK T eqs h0 op xt x y K) : binK T eqs h0 op xt x y K' := by
  unfold binK at h ⊢
  repeat' (first | (have ⟨_, h⟩ := Ck_and h) | split at h)
  all_goals first
    | exact h.elim
    | (simp only [*]; exact arithK_mono hk h)
    | (simp only [*]; exact nilK_mono (fun _ => hk _) h)
    | exact nilK_mono (fun _ => hk _) h
    | (simp only [*, Ck] <;> done)
    | (simp only [*, Ck]; exact hk _ h)
    | exact hk _ h
theorem appendK_mono {T : Nat → Option TI} {σ : St} {tid : Nat} {s x : Cell} {K K' : St → Cell → Prop} (hk : ∀ y z, K y z → K' y z) (h : appendK T σ tid s x K) : appendK T σ tid s x K' := by
  unfold appendK appendL at h ⊢
  repeat' (first | (have ⟨_, h⟩ := Ck_and h) | split at h)
  all_goals first
    | exact h.elim
    | (simp only [*, Ck] <;> done)
    | (simp only [*, Ck]; exact hk _ _ h)
theorem appendL_mono {T : Nat → Option TI} {σ : St} {e : Nat} {t : Ty} {new : List t.D} {s : Cell} {K K' : St → Cell → Prop} (hk : ∀ y z, K y z → K' y z) (h : appendL T σ e t new s K) : appendL T σ e t new s K' := by
  unfold appendL at h ⊢
  repeat' (first | (have ⟨_, h⟩ := Ck_and h) | split at h)
  all_goals first
    | exact h.elim
    | (simp only [*, Ck] <;> done)
    | (simp only [*, Ck]; exact hk _ _ h)
theorem appendZ_mono {T : Nat → Option TI} {σ : St} {tid : Nat} {s : Cell} {n : Int} {K K' : St → Cell → Prop} (hk : ∀ y z, K y z → K' y z) (h : appendZ T σ tid s n K) : appendZ T σ tid s n K' := by
  unfold appendZ at h ⊢
  split at h
  · exact h.elim
  · split at h
    · exact h.elim
    · exact Ck_mono (appendL_mono hk) h
theorem makeK_mono {T : Nat → Option TI} {σ : St} {tid : Nat} {s x : V} {K K' : St → Cell → Prop} (hk : ∀ y z, K y z → K' y z) (h : makeK T σ tid s x K) : makeK T σ tid s x K' := by
  unfold makeK at h ⊢
  repeat' (first | (have ⟨_, h⟩ := Ck_and h) | split at h)
  all_goals first
    | exact h.elim
    | (simp only [*, Ck] <;> done)
    | (simp only [*, Ck]; exact hk _ _ h)
theorem buildSliceK_mono {T : Nat → Option TI} {σ : St} {tid n : Nat} {ps : List (Nat × Operand)} {K K' : St → Cell → Prop} (hk : ∀ y z, K y z → K' y z) (h : buildSliceK T σ tid n ps K) : buildSliceK T σ tid n ps K' := by
  unfold buildSliceK at h ⊢
  repeat' (first | (have ⟨_, h⟩ := Ck_and h) | split at h)
  all_goals first
    | exact h.elim
    | (simp only [*, Ck] <;> done)
    | (simp only [*, Ck]; exact hk _ _ h)
theorem copyK_mono {σ : St} {d s : Cell} {K K' : St → V → Prop} (hk : ∀ y z, K y z → K' y z) (h : copyK σ d s K) : copyK σ d s K' := by
  unfold copyK at h ⊢
  repeat' (split at h)
  all_goals first
    | exact h.elim
    | (unfold copyWin at h ⊢
       split at h <;> exact hk _ _ h)
    | (simp only [*]
       unfold copyWin at h ⊢
       split at h <;> exact hk _ _ h)
theorem clearK_mono {σ : St} {d : Cell} {K K' : St → Prop} (hk : ∀ y, K y → K' y) (h : clearK σ d K) : clearK σ d K' := by
  unfold clearK at h ⊢
  repeat' (split at h)
  all_goals first
    | exact h.elim
    | (unfold clearWin at h ⊢
       split at h <;> exact hk _ h)
    | (simp only [*]
       unfold clearWin at h ⊢
       split at h <;> exact hk _ h)
theorem afterCall_mono {σ : St} {viewed ids : List Nat} {lent1 news : Heap} {res : List W} {K K' : St → V → Prop} (hk : ∀ y z, K y z → K' y z) (h : afterCall σ viewed ids lent1 news res K) : afterCall σ viewed ids lent1 news res K' := by
  unfold afterCall at h ⊢
  split at h
  · first | exact hk _ _ h | (simp only [*]; exact hk _ _ h) | (simp only [*] <;> done)
  · first | exact Ck_mono (hk _ _) h | (simp only [*]; exact Ck_mono (hk _ _) h) | (simp only [*] <;> done)
theorem callWith_mono {P : Program} {dr : Bool} {s : Sig} {f : Nat} {args' : List W} {viewed : List Nat} {σ : St} {K K' : St → V → Prop} (hk : ∀ y z, K y z → K' y z) (h : callWith P dr s f args' viewed σ K) : callWith P dr s f args' viewed σ K' := by
  unfold callWith at h ⊢
  dsimp only at h ⊢
  exact Ck_mono (Ck_mono fun ⟨x, h⟩ => ⟨x, Ck_mono (fun ⟨h1, h2⟩ => ⟨h1, afterCall_mono hk h2⟩) h⟩) h
theorem callK_mono {E : Env} {dr : Bool} {f : Nat} {args : List W} {σ : St} {K K' : St → V → Prop} (hk : ∀ y z, K y z → K' y z) (h : callK E dr f args σ K) : callK E dr f args σ K' := by
  unfold callK at h ⊢
  split at h
  · exact h.elim
  · rename_i s hs
    try simp only [hs]
    split at h
    · rename_i hl
      first | exact callWith_mono hk h | (simp only [hl]; exact callWith_mono hk h)
    · rename_i hl
      first | exact callWith_mono hk h | (simp only [hl]; exact callWith_mono hk h)

theorem opK_mono {E : Env} {H : Hint} {dr : Bool} {o : Oper} {σ : St} {K K' : St → Prop} (hk : ∀ y, K y → K' y) (h : opK E H dr o σ K) : opK E H dr o σ K' := by
  obtain ⟨dst, op, ty, pos, after, guard⟩ := o
  cases op <;> simp only [opK] at h ⊢
  case move => exact hk _ h
  case assign => exact hk _ h
  case pick c x y =>
    split at h
    · first | exact Br_mono (hk _) (hk _) h | (simp only [*]; exact Br_mono (hk _) (hk _) h) | (simp only [*] <;> done)
    · exact h.elim
  case alloc =>
    split at h
    · first | exact hk _ h | (simp only [*]; exact hk _ h) | (simp only [*] <;> done)
    · exact h.elim
  case box =>
    split at h
    · first | exact hk _ h | (simp only [*]; exact hk _ h) | (simp only [*] <;> done)
    · exact h.elim
  case build => exact buildK_mono (fun _ => hk _) h
  case buildSlice => exact buildSliceK_mono (fun _ _ => hk _) h
  case load =>
    split at h
    · first | exact loadK_mono (fun _ => hk _) h | (simp only [*]; exact loadK_mono (fun _ => hk _) h) | (simp only [*] <;> done)
    · exact h.elim
  case store =>
    split at h
    · first | exact storeK_mono (fun _ => hk _) h | (simp only [*]; exact storeK_mono (fun _ => hk _) h) | (simp only [*] <;> done)
    · exact h.elim
  case nilCheck =>
    split at h
    · first | exact hk _ h | (simp only [*]; exact hk _ h) | (simp only [*] <;> done)
    · first | exact hk _ h | (simp only [*]; exact hk _ h) | (simp only [*] <;> done)
    · exact h.elim
  case binOp => exact binK_mono (fun _ => hk _) h
  case unOp => exact unK_mono (fun _ => hk _) h
  case convert =>
    split at h
    · split at h
      · first | exact hk _ h | (simp only [*]; exact hk _ h) | (simp only [*] <;> done)
      · exact h.elim
    · exact h.elim
  case makeFunc fn fs cs =>
    cases fn <;> simp only [opK] at h ⊢ <;> try exact h.elim
    split at h
    · first | exact hk _ h | (simp only [*]; exact hk _ h) | (simp only [*] <;> done)
    · exact h.elim
  case makeSlice => exact makeK_mono (fun _ _ => hk _) h
  case slice =>
    repeat' (split at h)
    all_goals first
      | exact h.elim
      | exact Ck_mono (sliceK_mono (fun _ => hk _)) h
      | exact Ck_mono (Ck_mono (hk _)) h
      | (simp only [*]; exact Ck_mono (sliceK_mono (fun _ => hk _)) h)
      | (simp only [*]; exact Ck_mono (Ck_mono (hk _)) h)
  case fieldAddr =>
    split at h
    · first | exact fieldAddrK_mono (fun _ => hk _) h | (simp only [*]; exact fieldAddrK_mono (fun _ => hk _) h) | (simp only [*] <;> done)
    · exact h.elim
  case field => exact fieldK_mono (fun _ => hk _) h
  case indexAddr =>
    split at h
    · first | exact indexAddrK_mono (fun _ => hk _) h | (simp only [*]; exact indexAddrK_mono (fun _ => hk _) h) | (simp only [*] <;> done)
    · exact h.elim
  case index =>
    split at h
    · rename_i i' hi'
      try simp only [hi']
      split at h
      · obtain ⟨h0, h⟩ := h
        refine ⟨h0, Ck_mono (fun h => ?_) h⟩
        split at h
        · rename_i b hb
          try simp only [hb]
          exact hk _ h
        · exact h.elim
      · exact indexK_mono (fun _ => hk _) h
    · exact h.elim
  case extract =>
    split at h
    · split at h
      · first | exact hk _ h | (simp only [*]; exact hk _ h) | (simp only [*] <;> done)
      · exact h.elim
    · exact h.elim
  case makeInterface =>
    split at h
    · first | exact hk _ h | (simp only [*]; exact hk _ h) | (simp only [*] <;> done)
    · exact h.elim
  case call c =>
    obtain ⟨callee, args, argTypes⟩ := c
    cases callee with
    | value f =>
      simp only [opK] at h ⊢
      split at h
      · first | exact callK_mono (fun _ _ => hk _) h | (simp only [*]; exact callK_mono (fun _ _ => hk _) h) | (simp only [*] <;> done)
      · exact h.elim
    | invoke r name =>
      simp only [opK] at h ⊢
      split at h
      · split at h
        · first | exact ⟨h.1, callK_mono (fun _ _ => hk _) h.2⟩ | (simp only [*]; exact ⟨h.1, callK_mono (fun _ _ => hk _) h.2⟩) | (simp only [*] <;> done)
        · exact h.elim
      · exact h.elim
    | builtin b =>
      simp only [opK] at h ⊢
      split at h
      · rename_i ws hws
        try simp only [hws]
        split at h
        · repeat' (split at h)
          all_goals first
            | exact h.elim
            | exact hk _ h
            | (simp only [*] <;> done)
            | (simp only [*]; exact hk _ h)
        · split at h
          · first | exact hk _ h | (simp only [*]; exact hk _ h) | (simp only [*] <;> done)
          · exact h.elim
        · split at h
          · first | exact appendK_mono (fun _ _ => hk _) h | (simp only [*]; exact appendK_mono (fun _ _ => hk _) h) | (simp only [*] <;> done)
          · split at h
            · first | exact appendZ_mono (fun _ _ => hk _) h | (simp only [*]; exact appendZ_mono (fun _ _ => hk _) h) | (simp only [*] <;> done)
            · exact h.elim
          · exact h.elim
        · split at h
          · first | exact Ck_mono (copyK_mono (fun _ _ => hk _)) h | (simp only [*]; exact Ck_mono (copyK_mono (fun _ _ => hk _)) h) | (simp only [*] <;> done)
          · exact h.elim
        · split at h
          · first | exact Ck_mono (Ck_mono (clearK_mono (fun _ => hk _))) h | (simp only [*]; exact Ck_mono (Ck_mono (clearK_mono (fun _ => hk _))) h) | (simp only [*] <;> done)
          · exact h.elim
        · first | exact Ck_mono (hk _) h | (simp only [*]; exact Ck_mono (hk _) h) | (simp only [*] <;> done)
        · first | exact Ck_mono (hk _) h | (simp only [*]; exact Ck_mono (hk _) h) | (simp only [*] <;> done)
        · exact h.elim
      · exact h.elim

theorem opsK_mono {E : Env} {H : Hint} {dr : Bool} {all : List Oper} {K K' : St → Prop} (hk : ∀ y, K y → K' y) : ∀ (l : List Oper) (σ : St), opsK E H dr all l σ K → opsK E H dr all l σ K'
  | [], σ, h => hk _ h
  | o :: r, σ, h => by
    have ih := opsK_mono (E := E) (H := H) (dr := dr) (all := all) hk r
    simp only [opsK] at h ⊢
    split at h
    · first | exact opK_mono ih h | (simp only [*]; exact opK_mono ih h) | (simp only [*] <;> done)
    · rename_i j want hg
      try simp only [hg]
      split at h
      · rename_i g hgj
        try simp only [hgj]
        split at h
        · rename_i d hd
          try simp only [hd]
          split at h
          · rename_i t ht
            try simp only [ht]
            cases want
            · exact Br_mono (ih _) (opK_mono ih) h
            · exact Br_mono (opK_mono ih) (ih _) h
          · rename_i ht
            try simp only [ht]
            exact ih _ h
          · exact h.elim
        · exact h.elim
      · exact h.elim

theorem treeK_mono {E : Env} {H : Hint} {dr : Bool} {all : List Oper} {K K' : St → Prop} (hk : ∀ y, K y → K' y) : ∀ (t : OT) (σ : St), treeK E H dr all t σ K → treeK E H dr all t σ K'
  | .lin l, σ, h => opsK_mono hk _ _ h
  | .fork l i a j b, σ, h => opsK_mono (fun σ h => ⟨opsK_mono (fun σ h => treeK_mono hk a σ h) _ _ h.1, opsK_mono (fun σ h => treeK_mono hk b σ h) _ _ h.2⟩) _ _ h
  | .fork3 l i a j b k c, σ, h => opsK_mono (fun σ h => ⟨opsK_mono (fun σ h => treeK_mono hk a σ h) _ _ h.1, opsK_mono (fun σ h => treeK_mono hk b σ h) _ _ h.2.1, opsK_mono (fun σ h => treeK_mono hk c σ h) _ _ h.2.2⟩) _ _ h
theorem regK_mono {E : Env} {H : Hint} {id : Nat} {dr : Bool} {ops : List Oper} {K K' : St → Prop} (hk : ∀ y, K y → K' y) {σ : St} (h : regK E H id dr ops σ K) : regK E H id dr ops σ K' := by
  unfold regK at h ⊢
  cases hf : forkOf id H.forks with
  | some t => rw [hf] at h; exact treeK_mono hk _ _ h
  | none => rw [hf] at h; exact opsK_mono hk _ _ h
theorem thenK_mono {n n' : St → Prop} {q q' : Q} (hn : ∀ σ, n σ → n' σ) (hq : ∀ e σ, q e σ → q' e σ) : ∀ e σ, thenK n q e σ → thenK n' q' e σ
  | .normal, σ, h => hn σ h
  | .exit _, σ, h => hq _ _ h
  | .ret, σ, h => hq _ _ h
theorem blockK_mono {id : Nat} {q q' : Q} (hq : ∀ e σ, q e σ → q' e σ) : ∀ e σ, blockK id q e σ → blockK id q' e σ
  | .normal, σ, h => hq _ _ h
  | .ret, σ, h => hq _ _ h
  | .exit id', σ, h => by
    simp only [blockK] at h ⊢
    split at h <;> first | exact hq _ _ h | (simp only [*]; exact hq _ _ h)

theorem swp_mono {E : Env} {n : Nat} {H : Hint} : ∀ (c : Code) (k : Nat) (q q' : Q) (σ : St), (∀ e σ, q e σ → q' e σ) → swp E n H k c q σ → swp E n H k c q' σ := by
  intro c
  induction c with
  | skip => intro k q q' σ hq h; exact hq _ _ h
  | region id ops dr => intro k q q' σ hq h; exact regK_mono (fun σ h => hq .normal σ h) h
  | seq a b iha ihb => intro k q q' σ hq h; exact iha _ _ _ _ (thenK_mono (fun σ h => ihb _ _ _ _ hq h) hq) h
  | cond c a b iha ihb =>
    intro k q q' σ hq h
    simp only [swp] at h ⊢
    split at h
    · first | exact Br_mono (iha _ _ _ _ hq) (ihb _ _ _ _ hq) h | (simp only [*]; exact Br_mono (iha _ _ _ _ hq) (ihb _ _ _ _ hq) h) | (simp only [*] <;> done)
    · exact h.elim
  | block id c ih => intro k q q' σ hq h; exact ih _ _ _ _ (blockK_mono hq) h
  | loop c ih =>
    intro k q q' σ hq h R hR
    exact h R fun σ hσ => hR σ (ih _ _ _ _ (thenK_mono (fun _ h => h) hq) hσ)
  | exit id => intro k q q' σ hq h; exact hq _ _ h
  | ret => intro k q q' σ hq h; exact hq _ _ h
  | _ => intro k q q' σ hq h; exact h

/-- A round makes the loop. -/
theorem LoopWp_round {E : Env} {n : Nat} {H : Hint} {c : Code} {k : Nat} {g : St → St} {q : Q} {σ : St} (h : swp E n H k c (thenK (fun σ' => LoopWp (swp E n H k c) g q (g σ')) q) σ) : LoopWp (swp E n H k c) g q σ :=
  fun R hR => hR σ (swp_mono c k _ _ σ (thenK_mono (fun σ' h => h R hR) (fun _ _ h => h)) h)

theorem atLoop_of1 {E : Env} {n : Nat} {H : Hint} (j : Nat) : ∀ (c : Code) (k : Nat) (q : Q) (σ : St), atLoop1 E n H j k c q σ → atLoop E n H j k c q σ := by
  intro c
  induction c with
  | seq a b iha ihb =>
    intro k q σ h
    simp only [atLoop, atLoop1] at h ⊢
    split at h
    · first | exact iha _ _ _ h | (simp only [*]; exact iha _ _ _ h) | (simp only [*] <;> done)
    · first | exact ihb _ _ _ h | (simp only [*]; exact ihb _ _ _ h) | (simp only [*] <;> done)
  | cond c a b iha ihb =>
    intro k q σ h
    simp only [atLoop, atLoop1] at h ⊢
    split at h
    · first | exact iha _ _ _ h | (simp only [*]; exact iha _ _ _ h) | (simp only [*] <;> done)
    · first | exact ihb _ _ _ h | (simp only [*]; exact ihb _ _ _ h) | (simp only [*] <;> done)
  | block id c ih => intro k q σ h; exact ih _ _ _ h
  | loop c ih =>
    intro k q σ h
    simp only [atLoop, atLoop1] at h ⊢
    split at h
    · first | exact LoopWp_round h | (simp only [*]; exact LoopWp_round h) | (simp only [*] <;> done)
    · first | exact ih _ _ _ h | (simp only [*]; exact ih _ _ _ h) | (simp only [*] <;> done)
  | _ => intro k q σ h; exact h

theorem FL_of1 {E : Env} {H : Hint} {fn : Func} {n : Nat} {r : List W} {lent' : Heap} {j : Nat} {σ : St} (h : FL1 E H fn n r lent' j σ) : FL E H fn n r lent' j σ := by
  unfold FL FL1 at *
  split at h
  · first | exact atLoop_of1 j _ _ _ _ h | (simp only [*]; exact atLoop_of1 j _ _ _ _ h) | (simp only [*] <;> done)
  · exact h.elim

end Go.Proofs.Ytjoiadaogppmkaa.Sh
