/-
  Panics, deferred closures that recover, calls of bound methods, iterators over strings. Plain lemmas, no program in sight.
-/
import Derived.Test.YtijpdbjcmnpobaaDoorHf
import Derived.Test.YtijpdbjcmnpobaaDoorHstr
import Derived.Recover
import Derived.Laws.RangeString
namespace Go.Proofs.YtijpdbjcmnpobaaDoor
set_option linter.unusedSimpArgs false
set_option linter.unusedVariables false
open Go.RowKit

/-! Calls. -/
theorem HFun.mono {P : Program} {f : FuncId} {c : Nat} {args : List HV} {pre : List (Nat × HObj)} {Post Post' : HEnd → List (Nat × HObj) → Nat → Prop} (h : HFun P f c args pre Post) (hi : ∀ e kp c', Post e kp c' → Post' e kp c') : HFun P f c args pre Post' :=
  ⟨h.1, fun X vs ok hX hr hG => (h.2 X vs ok hX hr hG).mono (by rintro e w' ⟨x, kp, c', E', hP, rest⟩; exact ⟨x, kp, c', E', hi _ _ _ hP, rest⟩)⟩
theorem hupd_same {h : Nat → Option HObj} : ∀ {p : List (Nat × HObj)}, (∀ q ∈ p, h q.1 = some q.2) → hupd h p = h
  | [], _ => rfl
  | q :: p, hq => by
    show hset (hupd h p) q.1 q.2 = h
    rw [hupd_same (fun x hx => hq x (List.mem_cons_of_mem _ hx))]
    funext k
    unfold hset
    split
    · rename_i e; subst e; exact (hq q (List.mem_cons_self ..)).symm
    · rfl
theorem clocks_self (pre : List (Nat × HObj)) : Clocks pre pre := fun id o h => ⟨_, hget_mem h, rfl⟩
section
variable {P : Program} {ops : Array Oper} {ov : Nat → Option HV} {g : Nat} {d : Option Tmp} {ty : TypeId} {pos : String} {af : Array Edge} {gd : Option (Nat × Bool)}
theorem hop_funD {f : FuncId} {args : List Operand} {at_ : Array TypeId} {xs : List HV} {pre post : List (Nat × HObj)} {r : HV} (hc : HFunD P f xs pre r post) (hk : Clocks pre post) (hx : ovAll ov args xs) :
    HOp P ⟨d, .call ⟨.value (.func f), args.toArray, at_⟩, ty, pos, af, gd⟩ ov g pre r post := by
  intro K w0 F0 E hh a w Q N rr ht hG hBd hpre hN
  have hrep := hx.rep (w := w) (E := E) (ρ := a.eval) (fun x hv hx h => ht x hv (by simp [Op.operands, Call.operands]; exact .inr hx) h)
  unfold Oper.wp execOp
  have hargs : args.toArray.map a.eval = (args.map a.eval).toArray := by simp
  simp only [resolve, Act.eval, Deferred.ofValue, invoke, Sem.run_bind, Sem.run_pure, Result.andThen_ok, Array.empty_append, Array.append_empty]
  rw [run_callFunc (hc 0).1]
  simp only [Oper.upon]
  have h := hc.sem hk rr hpre (args.map a.eval) hrep hBd
  rw [← hargs] at h
  refine Calls.mono h ?_
  rintro e w' ⟨v, E', rfl, e', r', hg', hv⟩
  exact hN v w' E' e' r' (fun g' h => .inl (hg' g' h)) hv
/-- It looks at what it is handed, and leaves it. -/
theorem hop_funR {f : FuncId} {args : List Operand} {at_ : Array TypeId} {xs : List HV} {pre : List (Nat × HObj)} {r : HV} (hc : HFunD P f xs pre r pre) (hx : ovAll ov args xs) :
    HOp P ⟨d, .call ⟨.value (.func f), args.toArray, at_⟩, ty, pos, af, gd⟩ ov g pre r [] := by
  intro K w0 F0 E hh a w Q N rr ht hG hBd hpre hN
  have hrep := hx.rep (w := w) (E := E) (ρ := a.eval) (fun x hv hx h => ht x hv (by simp [Op.operands, Call.operands]; exact .inr hx) h)
  unfold Oper.wp execOp
  have hargs : args.toArray.map a.eval = (args.map a.eval).toArray := by simp
  simp only [resolve, Act.eval, Deferred.ofValue, invoke, Sem.run_bind, Sem.run_pure, Result.andThen_ok, Array.empty_append, Array.append_empty]
  rw [run_callFunc (hc 0).1]
  simp only [Oper.upon]
  have h := hc.sem (clocks_self pre) rr hpre (args.map a.eval) hrep hBd
  rw [← hargs] at h
  refine Calls.mono h ?_
  rintro e w' ⟨v, E', rfl, e', r', hg', hv⟩
  rw [hupd_same hpre] at r'
  exact hN v w' E' e' r' (fun g' h => .inl (hg' g' h)) hv
end

/-- An object told in weaker words. -/
theorem hsub_ob {C : Ctx} {n clk : Nat} {tm : List (Nat × TV)} {hp : List (Nat × HObj)} (id : Nat) (o' : HObj) {o : HObj} (h : hget hp id = some o) (hs : OSub o o') : HSub C ⟨n, tm, hp, clk⟩ ⟨n, tm, (id, o') :: hp, clk⟩ := by
  intro a w ⟨E, e0, r, hG, hsz, hdf, ht⟩
  refine ⟨E, e0, r.weak (fun k x hx => ?_), hG, hsz, hdf, ht⟩
  obtain ⟨o1, h1, h2⟩ := HpSub.cons h hs (HpSub.refl hp) k x hx
  exact ⟨o1, h1, h2⟩

/-! A method value: its call, and the panic of the text's own. -/
section
variable {P : Program} {ops : Array Oper} {Q : Exit → Act → World → Prop} {C : Ctx} {n clk : Nat} {tm : List (Nat × TV)} {hp : List (Nat × HObj)} {rest : List Oper} {ty : TypeId} {pos : String} {af : Array Edge}
theorem hop_makeBound {ov : Nat → Option HV} {g : Nat} {d : Option Tmp} {gd : Option (Nat × Bool)} {f : FuncId} {x : Operand} {hv : HV} (hx : ovl ov x = some hv) : HOp P ⟨d, .makeFunc (.func f) #[x] #[], ty, pos, af, gd⟩ ov g [] (.bnd (.func f) hv) [] :=
  hop_pure fun w E ρ hr => ⟨.func (.func f) #[ρ x] #[], by simp [execOp, Instr.makeFunc], .bnd _ _ _ (hr x hv (by simp [Op.operands]) hx)⟩
theorem pview_rep {w : World} {E : Env} {a : Act} {args : List Operand} {xs : List HV} (ht : ∀ t x, tget tm t = some x → TVRep w E a (a.tmps.getD t undef) x) (hx : ovAll (pview (tget tm)) args xs) : RepAll w E (args.map a.eval) xs :=
  hx.rep (w := w) (E := E) (ρ := a.eval) (fun x hv hx' h => by
    cases x with
    | tmp t =>
      simp only [ovl, pview] at h
      cases hq : tget tm t with
      | none => rw [hq] at h; cases h
      | some u => rw [hq] at h; cases u with
        | v y => injection h with h; subst h; exact ht t _ hq
        | un j b y => cases h
    | const v => exact rep_cst w E _ v _ h
    | global k => injection h with h; subst h; exact .imm _
    | func f => injection h with h; subst h; exact .fn (.func f) #[] 0 _ (fun _ => undef) rfl (fun i hi => absurd hi (Nat.not_lt_zero _)) (fun i hi => absurd hi (Nat.not_lt_zero _)))
theorem hf_callB {f : FuncId} {t : Nat} {args : List Operand} {at_ : Array TypeId} {y : HV} {xs : List HV} {pre : List (Nat × HObj)} {Post : HEnd → List (Nat × HObj) → Nat → Prop} (d : Nat)
    (hc : HFun P f clk (y :: xs) pre Post) (h0 : tget tm t = some (.v (.bnd (.func f) y))) (hx : ovAll (pview (tget tm)) args xs) (hpre : ∀ p ∈ pre, hget hp p.1 = some p.2) (hlt : Nat.blt d n = true) (hk : nokey tm d = true)
    (h : ∀ r kp c', Post (.ret r) kp c' → HSeq C P ops rest ⟨n, (d, .v r) :: tm, kp ++ hp, c'⟩ Q) (hpan : ∀ x kp c', Post (.pan x) kp c' → HPan C Q ⟨n, tm, kp ++ hp, c'⟩ x) :
    HSeq C P ops (⟨some d, .call ⟨.value (.tmp t), args.toArray, at_⟩, ty, pos, af, none⟩ :: rest) ⟨n, tm, hp, clk⟩ Q := by
  intro a w ⟨E, e0, r, hG, hsz, hdf, ht⟩
  have hlt : d < n := by simpa [Nat.blt_eq] using hlt
  unfold wpSeq
  rw [if_pos (by simp [Region.wanted])]
  have hrep := pview_rep ht hx
  have hfn : Rep w E (a.eval (.tmp t)) (.bnd (.func f) y) := ht t _ h0
  unfold Oper.wp execOp
  generalize hρ : a.eval (.tmp t) = u at hfn
  cases hfn with
  | bnd _ v0 _ hv0 =>
    have hargs : #[v0] ++ args.toArray.map a.eval = (v0 :: args.map a.eval).toArray := by simp
    simp only [resolve, hρ, Deferred.ofValue, invoke, Sem.run_bind, Sem.run_pure, Result.andThen_ok, Array.empty_append, Array.append_empty]
    rw [run_callFunc hc.1]
    simp only [Oper.upon]
    have hcalls := hc.2 ⟨C.K, C.w0, C.E0.F, E, hget hp, w, pre⟩ (v0 :: args.map a.eval) ⟨r, fun id o ho => hpre (id, o) (hget_mem ho)⟩ rfl ⟨hv0, hrep⟩ hG
    rw [← hargs] at hcalls
    refine Calls.mono hcalls ?_
    rintro e w' ⟨x, kp, c', E', hP, e', r', hG', _, hv⟩
    cases e with
    | returned v =>
      cases x with
      | pan x => exact hv.elim
      | ret x =>
        refine h x kp c' hP _ w' ⟨E', e0.trans e', by simp only [hget_append]; exact r', hG', by simp [Act.put, hsz], hdf.ext e', fun t y hy => ?_⟩
        simp only [tget_cons] at hy
        split at hy
        · rename_i htd
          subst htd
          injection hy with hy
          subst hy
          rw [getD_put_same (by rw [hsz]; exact hlt)]
          exact hv
        · rename_i htd
          rw [getD_put_ne htd]
          have := (ht t y hy).ext e'
          cases y with
          | v z => exact this
          | un j b z =>
            have hne := nokey_spec hk t j b z hy
            simp only [TVRep, getD_put_ne hne] at this ⊢; exact this
    | panicked ch =>
      cases x with
      | ret x => exact hv.elim
      | pan x =>
        obtain ⟨v, rfl, hv⟩ := hv
        exact hpan x kp c' hP a w' E' v (e0.trans e') (by simp only [hget_append]; exact r') hG' hsz (hdf.ext e') (fun t y hy => (ht t y hy).ext e') hv
    | outgrown => cases x <;> exact hv.elim
theorem hf_callBRP {α β : Type} {I : α → Nat → Prop} {r : α → HV} {kpf : α → List (Nat × HObj)} {J : β → Nat → Prop} {q : β → HV} {kqf : β → List (Nat × HObj)} {f : FuncId} {t : Nat} {args : List Operand} {at_ : Array TypeId} {y : HV} {xs : List HV} {pre : List (Nat × HObj)} (d : Nat)
    (hc : HFun P f clk (y :: xs) pre (RoP I r kpf J q kqf)) (h0 : tget tm t = some (.v (.bnd (.func f) y))) (hx : ovAll (pview (tget tm)) args xs) (hpre : ∀ p ∈ pre, hget hp p.1 = some p.2) (hlt : Nat.blt d n = true) (hk : nokey tm d = true)
    (hpan : ∀ y c', J y c' → HPan C Q ⟨n, tm, kqf y ++ hp, c'⟩ (q y))
    (h : ∀ x c', I x c' → HSeq C P ops rest ⟨n, (d, .v (r x)) :: tm, kpf x ++ hp, c'⟩ Q) :
    HSeq C P ops (⟨some d, .call ⟨.value (.tmp t), args.toArray, at_⟩, ty, pos, af, none⟩ :: rest) ⟨n, tm, hp, clk⟩ Q :=
  hf_callB d hc h0 hx hpre hlt hk (fun _ _ c' hP => by
    rcases hP with ⟨x, hI, he, hk⟩ | ⟨_, _, he, _⟩
    · injection he with he; subst he; subst hk; exact h x c' hI
    · cases he) (fun _ _ c' hP => by
    rcases hP with ⟨_, _, he, _⟩ | ⟨y, hJ, he, hk⟩
    · cases he
    · injection he with he; subst he; subst hk; exact hpan y c' hJ)
theorem hf_callBR {α : Type} {I : α → Nat → Prop} {r : α → HV} {kpf : α → List (Nat × HObj)} {f : FuncId} {t : Nat} {args : List Operand} {at_ : Array TypeId} {y : HV} {xs : List HV} {pre : List (Nat × HObj)} (d : Nat)
    (hc : HFun P f clk (y :: xs) pre (RetP I r kpf)) (h0 : tget tm t = some (.v (.bnd (.func f) y))) (hx : ovAll (pview (tget tm)) args xs) (hpre : ∀ p ∈ pre, hget hp p.1 = some p.2) (hlt : Nat.blt d n = true) (hk : nokey tm d = true)
    (h : ∀ x c', I x c' → HSeq C P ops rest ⟨n, (d, .v (r x)) :: tm, kpf x ++ hp, c'⟩ Q) :
    HSeq C P ops (⟨some d, .call ⟨.value (.tmp t), args.toArray, at_⟩, ty, pos, af, none⟩ :: rest) ⟨n, tm, hp, clk⟩ Q :=
  hf_callB d hc h0 hx hpre hlt hk (fun _ _ c' ⟨x, hI, he, hk⟩ => by injection he with he; subst he; subst hk; exact h x c' hI) (fun _ _ _ ⟨_, _, he, _⟩ => by cases he)
theorem tk_nil {tm0 : List (Nat × TV)} : ∀ t x, tget [] t = some x → tget tm0 t = some x := fun t x h => by cases h
theorem tk_cons {tm0 r : List (Nat × TV)} {k : Nat} {y : TV} (h : tget tm0 k = some y) (hr : ∀ t x, tget r t = some x → tget tm0 t = some x) : ∀ t x, tget ((k, y) :: r) t = some x → tget tm0 t = some x := fun t x hx => by
  rw [tget_cons] at hx
  split at hx
  · rename_i e; subst e; injection hx with hx; subst hx; exact h
  · exact hr t x hx
theorem hpan_then {N : Act → World → Prop} {s : HSt} {x : HV} (h : HPan C Q s x) : HPan C (Exit.then N Q) s x := h
theorem hpan_block {id : Nat} {s : HSt} {x : HV} (h : HPan C Q s x) : HPan C (Exit.inBlock id Q) s x := h
@[reducible] def PanP {β : Type} (J : β → Nat → Prop) (q : β → HV) (kq : β → List (Nat × HObj)) : HEnd → List (Nat × HObj) → Nat → Prop := fun e o c' => ∃ y, J y c' ∧ e = .pan (q y) ∧ o = kq y
/-- A call that never returns. -/
theorem hf_callP {β : Type} {J : β → Nat → Prop} {q : β → HV} {kqf : β → List (Nat × HObj)} {d : Option Nat} {f : FuncId} {args : List Operand} {at_ : Array TypeId} {xs : List HV} {pre : List (Nat × HObj)}
    (hc : HFun P f clk xs pre (PanP J q kqf)) (hx : ovAll (pview (tget tm)) args xs) (hpre : ∀ p ∈ pre, hget hp p.1 = some p.2) (hpan : ∀ y c', J y c' → HPan C Q ⟨n, tm, kqf y ++ hp, c'⟩ (q y)) :
    HSeq C P ops (⟨d, .call ⟨.value (.func f), args.toArray, at_⟩, ty, pos, af, none⟩ :: rest) ⟨n, tm, hp, clk⟩ Q := by
  intro a w ⟨E, e0, r, hG, hsz, hdf, ht⟩
  unfold wpSeq
  rw [if_pos (by simp [Region.wanted])]
  have hrep := pview_rep ht hx
  unfold Oper.wp execOp
  have hargs : args.toArray.map a.eval = (args.map a.eval).toArray := by simp
  simp only [resolve, Act.eval, Deferred.ofValue, invoke, Sem.run_bind, Sem.run_pure, Result.andThen_ok, Array.empty_append, Array.append_empty]
  rw [run_callFunc hc.1]
  simp only [Oper.upon]
  have hcalls := hc.2 ⟨C.K, C.w0, C.E0.F, E, hget hp, w, pre⟩ (args.map a.eval) ⟨r, fun id o ho => hpre (id, o) (hget_mem ho)⟩ rfl hrep hG
  rw [← hargs] at hcalls
  refine Calls.mono hcalls ?_
  rintro e w' ⟨x, kp, c', E', ⟨y, hJ, rfl, rfl⟩, e', r', hG', _, hv⟩
  cases e with
  | returned v => exact hv.elim
  | panicked ch =>
    obtain ⟨v, rfl, hv⟩ := hv
    exact hpan y c' hJ a w' E' v (e0.trans e') (by simp only [hget_append]; exact r') hG' hsz (hdf.ext e') (fun t y hy => (ht t y hy).ext e') hv
  | outgrown => exact hv.elim
theorem hf_panP {β : Type} {J : β → Nat → Prop} {q : β → HV} {kqf : β → List (Nat × HObj)} {X : Clr} (ok : X.Ok) {pre : List (Nat × HObj)} (hX : X.pre = pre) {fn : Func} {s : HSt} {v : HV} (y : β) (hJ : J y s.clk) (hpk : (pre.all fun p => (hget (kqf y) p.1).isSome) = true) (hz : Kz (kqf y) [] v (q y)) (hkp : Kept (kqf y) [] s.hp (kqf y)) :
    HPan X.ctx (bodyPost P fn (FunPost X (PanP J q kqf))) s v :=
  hf_pan ok (kqf y) (by rw [hX]; exact hpk) hkp hz ⟨y, hJ, rfl, rfl⟩
theorem HFun.pan {β : Type} {J : β → Nat → Prop} {q : β → HV} {kqf : β → List (Nat × HObj)} {f : FuncId} {c : Nat} {args : List HV} {pre : List (Nat × HObj)} {α : Type} {I : α → Nat → Prop} {r : α → HV} {kpf : α → List (Nat × HObj)} (h : HFun P f c args pre (PanP J q kqf)) : HFun P f c args pre (RoP I r kpf J q kqf) :=
  h.mono fun _ _ _ ⟨y, h1, h2, h3⟩ => .inr ⟨y, h1, h2, h3⟩
theorem hseq_panic {x : Operand} {t : TypeId} {y : HV} (hx : ovl (pview (tget tm)) x = some (.ifc t y)) (h : HPan C Q ⟨n, tm, hp, clk⟩ (.ifc t y)) : HSeq C P ops (⟨none, .panic x, ty, pos, af, none⟩ :: rest) ⟨n, tm, hp, clk⟩ Q := by
  intro a w ⟨E, e0, r, hG, hsz, hdf, ht⟩
  unfold wpSeq
  rw [if_pos (by simp [Region.wanted])]
  have hv : Rep w E (a.eval x) (.ifc t y) := (pview_rep (args := [x]) (xs := [.ifc t y]) ht ⟨hx, trivial⟩).1
  unfold Oper.wp execOp
  generalize hρ : a.eval x = u at hv
  cases hv with
  | ifc _ v _ hv =>
    simp only [Sem.run_bind, run_panic_iface, hρ]
    exact h a w E _ e0 r hG hsz hdf ht (.ifc _ _ _ hv)
end

/-! A drawn region in which a call panics: the operations behind it wait for it, those ahead of it make nothing. -/
theorem hrun_nil {ss : List HSpec} {h0 : Nat → Option HObj} {S : Nat → Bool} : ∀ m, (∀ k, k < m → (spAt ss k).post = []) → hrun ss h0 S m = h0
  | 0, _ => rfl
  | m + 1, h => by
    have ih := hrun_nil (ss := ss) (h0 := h0) (S := S) m (fun k hk => h k (by omega))
    simp only [hrun, h m (by omega), ih, hupd, List.foldr]
    split <;> rfl
theorem trun_miss {l : List Oper} {ss : List HSpec} {t0 : Nat → Option TV} {S : Nat → Bool} {t : Nat} : ∀ m, (∀ k, k < m → dstAt l k ≠ some t) → trun l ss t0 S m t = t0 t
  | 0, _ => rfl
  | m + 1, h => by
    simp only [trun]
    rw [if_neg (fun hh => h m (by omega) hh.2)]
    exact trun_miss m (fun k hk => h k (by omega))
def chkDep (l : List Oper) (k : Nat) : Bool := (List.range l.length).all fun i => Nat.ble i k || ((mkBef l []).getD i []).any (Nat.beq k)
def chkKeep (l : List Oper) (tk : List (Nat × TV)) : Bool := tk.all fun p => l.all fun o => match o.dst with | some d => !Nat.beq d p.1 | none => true
theorem chkKeep_spec {l : List Oper} {tk : List (Nat × TV)} (h : chkKeep l tk = true) {t : Nat} {x : TV} (ht : tget tk t = some x) : ∀ k, dstAt l k ≠ some t := by
  intro k hk
  have hm : ∃ p ∈ tk, p.1 = t := by
    clear h
    induction tk with
    | nil => cases ht
    | cons q r ih =>
      obtain ⟨k', y⟩ := q
      rw [tget_cons] at ht
      split at ht
      · rename_i e; exact ⟨_, List.mem_cons_self .., e.symm⟩
      · obtain ⟨p, h1, h2⟩ := ih ht; exact ⟨p, List.mem_cons_of_mem _ h1, h2⟩
  obtain ⟨p, hp, rfl⟩ := hm
  have h1 := List.all_eq_true.1 (List.all_eq_true.1 h p hp)
  unfold dstAt at hk
  cases hl : l[k]? with
  | none => rw [hl] at hk; cases hk
  | some o =>
    rw [hl] at hk
    have := h1 o (List.mem_of_getElem? hl)
    simp only [Option.bind_some] at hk
    rw [hk] at this
    simp at this
section
variable {C : Ctx} {P : Program} {Q : Exit → Act → World → Prop} {n clk : Nat} {tm0 : List (Nat × TV)} {hp0 : List (Nat × HObj)} {l : List Oper} {ss : List HSpec}
theorem Inv.anyP {bef : List (List Nat)} (hc : Chk l ss bef) (hV : allV tm0 = true) (kb : Nat) (hkb : kb < l.length) (hg : ∀ i, i < kb → ∀ o, l[i]? = some o → Good P l.toArray n clk tm0 hp0 l ss i o) (hdep : ∀ i, i < l.length → kb < i → kb ∈ bef.getD i [])
    (hbad : ∀ listed a w N, Inv C n clk tm0 hp0 l ss listed a w → kb ∈ Region.ready .any l.toArray listed → wpOp P l.toArray Q kb N a w) :
    ∀ (fuel : Nat) (listed : Array Bool) (a : Act) (w : World), listed.toList.count false ≤ fuel → Inv C n clk tm0 hp0 l ss listed a w → (∀ i, kb ≤ i → listed.getD i false = false) → wpAny P .any l.toArray Q fuel listed a w := by
  have some_ : ∀ (listed : Array Bool) (a : Act) (w : World), Inv C n clk tm0 hp0 l ss listed a w → (∀ i, kb ≤ i → listed.getD i false = false) → Region.ready .any l.toArray listed ≠ [] := by
    intro listed a w hI hfree hr
    have full : ∀ k, k < l.length → listed.getD k false = true := by
      intro k
      induction k using Nat.strongRecOn with
      | _ k ih =>
        intro hk
        have hko : l[k]? = some l[k] := List.getElem?_eq_getElem hk
        rw [← Bool.not_eq_false]
        intro hkf
        have : k ∈ Region.ready .any l.toArray listed := by
          refine mem_ready.2 ⟨?_, l[k], by simp, fun e he hb => ?_⟩
          · have hkl : k < listed.size := by rw [hI.sz]; exact hk
            simpa [hkl] using hkf
          · have hee : e.on ∈ edg l[k] := List.mem_map.2 ⟨e, List.mem_filter.2 ⟨by simpa using he, hb⟩, rfl⟩
            exact ih e.on (hc.edge k _ hko _ hee) (by have := hc.edge k _ hko _ hee; omega)
        rw [hr] at this; cases this
    have h1 := full kb hkb
    rw [hfree kb (Nat.le_refl _)] at h1; cases h1
  intro fuel
  induction fuel with
  | zero =>
    intro listed a w hcnt hI hfree
    have hkl : kb < listed.size := by rw [hI.sz]; exact hkb
    have h1 := hfree kb (Nat.le_refl _)
    have h2 : listed[kb] = false := by simpa [hkl] using h1
    have hmem : false ∈ listed.toList := by rw [← h2]; simp
    have := List.count_pos_iff.2 hmem
    omega
  | succ fuel ih =>
    intro listed a w hcnt hI hfree
    refine ⟨fun hr => absurd hr (some_ listed a w hI hfree), fun i hr => ?_⟩
    have hr' := hr
    obtain ⟨_, o, ho, _⟩ := mem_ready.1 hr
    have ho : l[i]? = some o := by rw [← ho]; simp
    obtain ⟨h1, h2, hedg⟩ := edg_ready hr ho hI.sz
    rcases Nat.lt_trichotomy i kb with hik | hik | hik
    · refine hI.step hc hV (hg i hik) hr (fun a' w' hI' => ih _ a' w' ?_ hI' (fun j hj => ?_))
      · have hil : i < listed.toList.length := by rw [Array.length_toList, hI.sz]; exact h2
        have hli : listed.toList[i] = false := by
          have hkl : i < listed.size := by rw [hI.sz]; exact h2
          simpa [hkl] using h1
        have hpos : 0 < listed.toList.count false := List.count_pos_iff.2 (by rw [← hli]; exact List.getElem_mem hil)
        rw [Array.toList_setIfInBounds, List.count_set hil, hli]
        have e1 : (false == false) = true := rfl
        have e2 : (true == false) = false := rfl
        rw [e1, e2]
        simp only [if_true, Bool.false_eq_true, if_false]
        omega
      · rw [getD_set _ _ _ (by rw [hI.sz]; exact h2), if_neg (by omega)]
        exact hfree j hj
    · subst hik
      exact hbad listed a w _ hI hr
    · have h3 : listed.getD kb false = true := bef_closed hc (S := fun k => listed.getD k false) hI.closed i o ho hedg kb (hdep i h2 hik)
      rw [hfree kb (Nat.le_refl _)] at h3; cases h3
theorem Good.wide {ops : Array Oper} {dn L : List Oper} {ss ss' : List HSpec} {i : Nat} {o : Oper} (hd : ∀ k, k < i → dstAt dn k = dstAt L k) (hs : ∀ k, k ≤ i → spAt ss k = spAt ss' k) (h : Good P ops n clk tm0 hp0 dn ss i o) : Good P ops n clk tm0 hp0 L ss' i o := by
  refine ⟨?_, ?_, h.dst⟩
  · have e : trun L ss' (tget tm0) (fun _ => true) i = trun dn ss (tget tm0) (fun _ => true) i := funext fun t => (trun_congr i (fun k hk => (hd k hk)) (fun k hk _ => ⟨rfl, hs k (by omega)⟩)).symm
    rw [← hs i (Nat.le_refl _), e]; exact h.st
  · rw [← hs i (Nat.le_refl _)]
    intro p hp
    rw [← hrun_congr (ss := ss) i (fun k hk => by rw [hs k (by omega)]) (fun k hk _ => rfl)]; exact h.pre p hp
theorem hd_pan {id : Nat} {dn rest : List Oper} {k : Nat} {tm : List (Nat × TV)} {d : Option Tmp} {ty : TypeId} {pos : String} {af : Array Edge} {f : FuncId} {args : List Operand} {at_ : Array TypeId} {xs : List HV} {pre : List (Nat × HObj)} {Post : HEnd → List (Nat × HObj) → Nat → Prop} {L : List Oper} {cc : Nat} (tk : List (Nat × TV))
    (hm : P.follows .mixedOrders = true) (hcc : clk + L.length = cc) (hc : HFun P f cc xs pre Post) (hx : ovAll (pview (tget tm)) args xs) (hpre : ∀ p ∈ pre, hget hp0 p.1 = some p.2)
    (hck : chkR L (ss ++ [⟨.v default, args.filterMap (fun | .tmp t => some t | _ => none), pre, []⟩]) tm0 = true) (hdep : chkDep L k = true) (hpost : (ss.all fun s => s.post.isEmpty) = true)
    (htk : ∀ t x, tget tk t = some x → tget tm0 t = some x) (hkeep : chkKeep L tk = true)
    (hret : ∀ r kp c', ¬ Post (.ret r) kp c') (hpan : ∀ x kp c', Post (.pan x) kp c' → HPan C Q ⟨n, tk, kp ++ hp0, c'⟩ x) :
    HDr P n clk tm0 hp0 L dn ss (⟨d, .call ⟨.value (.func f), args.toArray, at_⟩, ty, pos, af, none⟩ :: rest) k tm hp0 (HWp C P (.region id L.toArray true) ⟨n, tm0, hp0, clk⟩ Q) := by
  subst hcc
  intro hL hk hv a w hs
  subst hk
  obtain ⟨hV, hchk⟩ := chk_of hck
  obtain ⟨g1, g2, g3, g4⟩ := hv.good
  have hlen : dn.length < L.length := by rw [← hL]; simp
  have hdst : ∀ i, i < dn.length → dstAt dn i = dstAt L i := fun i hi => by unfold dstAt; rw [← hL, List.getElem?_append_left hi]
  have hsp : ∀ i, i < dn.length → spAt ss i = spAt (ss ++ [⟨.v default, args.filterMap (fun | .tmp t => some t | _ => none), pre, []⟩]) i := fun i hi => by
    unfold spAt; rw [List.getD_eq_getElem?_getD, List.getD_eq_getElem?_getD, List.getElem?_append_left (by omega)]
  have hspk : spAt (ss ++ [⟨.v default, args.filterMap (fun | .tmp t => some t | _ => none), pre, []⟩]) dn.length = ⟨.v default, args.filterMap (fun | .tmp t => some t | _ => none), pre, []⟩ := by
    unfold spAt; rw [List.getD_eq_getElem?_getD, g1, List.getElem?_append_right (Nat.le_refl _)]; simp
  have hposts : ∀ i, (spAt (ss ++ [⟨.v default, args.filterMap (fun | .tmp t => some t | _ => none), pre, []⟩]) i).post = [] := by
    intro i
    rcases Nat.lt_trichotomy i dn.length with h | h | h
    · rw [← hsp i h]
      unfold spAt
      have hi : i < ss.length := by omega
      rw [List.getD_eq_getElem?_getD, List.getElem?_eq_getElem hi]
      have := List.all_eq_true.1 hpost _ (List.getElem_mem hi)
      simpa using this
    · subst h; rw [hspk]
    · unfold spAt
      rw [List.getD_eq_getElem?_getD, List.getElem?_eq_none (by simp; omega)]; rfl
  have hok : L[dn.length]? = some ⟨d, .call ⟨.value (.func f), args.toArray, at_⟩, ty, pos, af, none⟩ := by rw [← hL]; simp
  obtain ⟨E, e0, r, hG, hsz, hdf, ht⟩ := hs
  have hf : ∀ k, (Array.replicate L.length false).getD k false = false := by
    intro k; by_cases hk : k < L.length <;> simp [hk]
  have start : Inv C n clk tm0 hp0 L (ss ++ [⟨.v default, args.filterMap (fun | .tmp t => some t | _ => none), pre, []⟩]) (Array.replicate L.length false) a w.drew := by
    have hfun : (fun k => (Array.replicate L.length false).getD k false) = fun _ => false := funext hf
    have hzt : ∀ m t, trun L (ss ++ [⟨.v default, args.filterMap (fun | .tmp t => some t | _ => none), pre, []⟩]) (tget tm0) (fun _ => false) m t = tget tm0 t := by
      intro m t
      induction m with
      | zero => rfl
      | succ m ih => simp only [trun, Bool.false_eq_true, false_and, if_false]; exact ih
    refine ⟨by simp, (fun i o _ h => by rw [hf] at h; cases h), E, e0.trans (r.extBelow (Below.refl _ _).drew), (by rw [hrun_nil _ (fun k _ => hposts k)]; exact r.drew), fun g hg => .inl (hG g hg), hsz, hdf.ext (r.extBelow (Below.refl _ _).drew), fun t x hx => ?_⟩
    rw [hfun] at hx
    rw [hzt] at hx
    exact (ht t x hx).ext (r.extBelow (Below.refl _ _).drew)
  refine wp_region_any hm ?_
  have := Inv.anyP (C := C) (P := P) (Q := Q) hchk hV dn.length hlen (fun i hi o ho => by
      have ho' : dn[i]? = some o := by rw [← hL, List.getElem?_append_left hi] at ho; exact ho
      exact (g4 i o ho').wide (fun k hk => hdst k (by omega)) (fun k hk => hsp k (by omega))) (fun i hi hki => by
      have h1 := List.all_eq_true.1 hdep i (List.mem_range.2 hi)
      rw [Bool.or_eq_true, any_beq, Nat.ble_eq] at h1
      exact h1.resolve_left (by omega)) (fun listed a' w' N hI hr => ?_) L.toArray.size (Array.replicate L.length false) a w.drew (by simp) start (fun i _ => hf i)
  · simpa using this
  · obtain ⟨E', e0', r', hG', hsz', hdf', htm', hneed, hpr⟩ := hI.look hchk hr hok (by
      rw [hspk]
      intro p hp
      rw [hrun_nil _ (fun k _ => hposts k)]; exact hpre p hp)
    rw [hrun_nil _ (fun k _ => hposts k)] at r'
    have hfull : trun L (ss ++ [⟨.v default, args.filterMap (fun | .tmp t => some t | _ => none), pre, []⟩]) (tget tm0) (fun _ => true) dn.length = tget tm := by
      rw [g2]; funext t; exact (trun_congr dn.length (fun k hk => hdst k hk) (fun k hk _ => ⟨rfl, hsp k hk⟩)).symm
    rw [hspk, hfull] at hneed
    have hrep : RepAll w' E' (args.map a'.eval) xs := hx.rep (w := w') (E := E') (ρ := a'.eval) (fun x hv hx' h => by
      cases x with
      | tmp t =>
        simp only [ovl, pview] at h
        cases hq : tget tm t with
        | none => rw [hq] at h; cases h
        | some u => rw [hq] at h; cases u with
          | v y => injection h with h; subst h; exact hneed t _ (List.mem_filterMap.2 ⟨_, hx', rfl⟩) hq
          | un j b y => cases h
      | const v => exact rep_cst w' E' _ v _ h
      | global k => injection h with h; subst h; exact .imm _
      | func f => injection h with h; subst h; exact .fn (.func f) #[] 0 _ (fun _ => undef) rfl (fun i hi => absurd hi (Nat.not_lt_zero _)) (fun i hi => absurd hi (Nat.not_lt_zero _)))
    unfold wpOp
    have hoa : L.toArray[dn.length]? = some ⟨d, .call ⟨.value (.func f), args.toArray, at_⟩, ty, pos, af, none⟩ := by rw [← hok]; simp
    simp only [hoa]
    rw [if_pos (by simp [Region.wanted])]
    left
    unfold Oper.wp execOp
    have hargs : args.toArray.map a'.eval = (args.map a'.eval).toArray := by simp
    simp only [resolve, Act.eval, Deferred.ofValue, invoke, Sem.run_bind, Sem.run_pure, Result.andThen_ok, Array.empty_append, Array.append_empty]
    rw [run_callFunc hc.1]
    simp only [Oper.upon]
    have hcalls := hc.2 ⟨C.K, C.w0, C.E0.F, E', hget hp0, w', pre⟩ (args.map a'.eval) ⟨r', fun id o ho => hpre (id, o) (hget_mem ho)⟩ rfl hrep (fun g hg => by
      rcases hG' g hg with h | ⟨k, h1, _, h3⟩ <;> omega)
    rw [← hargs] at hcalls
    refine Calls.mono hcalls ?_
    rintro e w2 ⟨x, kp, c', E2, hP, e2, r2, hG2, _, hv2⟩
    cases e with
    | returned v =>
      cases x with
      | pan x => exact hv2.elim
      | ret x => exact absurd hP (hret x kp c')
    | panicked ch =>
      cases x with
      | ret x => exact hv2.elim
      | pan x =>
        obtain ⟨v, rfl, hv2⟩ := hv2
        refine hpan x kp c' hP a' w2 E2 v (e0'.trans e2) (by simp only [hget_append]; exact r2) hG2 hsz' (hdf'.ext e2) (fun t y hy => ?_) hv2
        refine (htm' t y ?_).ext e2
        rw [trun_miss _ (fun k _ => chkKeep_spec hkeep hy k)]
        exact htk t y hy
    | outgrown => cases x <;> exact hv2.elim
end

/-! Closures that wait for the end, and recover. -/
section
variable {P : Program} {ops : Array Oper} {Q : Exit → Act → World → Prop} {C : Ctx} {n clk : Nat} {tm : List (Nat × TV)} {hp : List (Nat × HObj)} {ty : TypeId} {pos : String} {af : Array Edge}
def Ctx.wait (C : Ctx) (x : HV) : Ctx := ⟨C.K, C.w0, C.E0, x :: C.ds⟩
theorem hseq_defer {t : Nat} {f : FuncId} {m : Nat} {caps : Nat → HV} {at_ : Array TypeId} (h0 : tget tm t = some (.v (.fn (.func f) m caps))) (h : HQ (C.wait (.fn (.func f) m caps)) Q .normal ⟨n, tm, hp, clk⟩) :
    HSeq C P ops [⟨none, .defer ⟨.value (.tmp t), #[], at_⟩, ty, pos, af, none⟩] ⟨n, tm, hp, clk⟩ Q := by
  intro a w ⟨E, e0, r, hG, hsz, hdf, ht⟩
  unfold wpSeq
  rw [if_pos (by simp [Region.wanted])]
  have hfn : Rep w E (a.eval (.tmp t)) (.fn (.func f) m caps) := ht t _ h0
  unfold Oper.wp execOp
  generalize hρ : a.eval (.tmp t) = u at hfn
  cases hfn with
  | fn _ vcs _ _ vs hn hv hr =>
    simp only [resolve, hρ, Deferred.ofValue, Sem.run_bind, Sem.run_pure, Result.andThen_ok, Array.map_empty, Array.append_empty, Oper.upon, wpSeq]
    exact h _ w ⟨E, e0, r, hG, hsz, ⟨_, _, _, rfl, .fn _ _ _ _ vs hn hv hr, hdf⟩, ht⟩
/-- What a waiting closure does: in mode u, which it leaves as u'. -/
def HDef (P : Program) (f : FuncId) (u u' : Value → FrameMode) (c : Nat) (args : List HV) (y : HV) (pre : List (Nat × HObj)) (Post : HEnd → List (Nat × HObj) → Nat → Prop) : Prop := FnOk P f ∧
  ∀ (X : Clr) (vs : List Value) (v : Value), X.Ok → X.pre = pre → RepAll X.w X.E vs args → Rep X.w X.E v y → (∀ g, X.E.G g → g < c) → CallsD P f vs.toArray (u v) X.w fun e u2 w' => u2 = u' v ∧ FunPost X Post e w'
@[reducible] def modeR : Value → FrameMode := fun _ => .returning
@[reducible] def modeP : Value → FrameMode := fun v => .panicking [{ v := v, recovered := false }]
@[reducible] def modeP' : Value → FrameMode := fun v => .panicking [{ v := v, recovered := true }]
theorem hdef_of {f : FuncId} {fn : Func} {id d1 d2 : Nat} {at_ : Array TypeId} {ty1 ty2 : TypeId} {pos1 pos2 : String} {af1 af2 : Array Edge} {rest : Code} (u u' : Value → FrameMode) (y : HV)
    (hu : ∀ (v : Value) (c₀ : Frame) (cs : List Frame), c₀.mode = u v → (recoverD (c₀ :: cs) = some (v, { c₀ with mode := u' v } :: cs)) ∨ (recoverD (c₀ :: cs) = none ∧ u' v = u v ∧ y = .imm .nilIface))
    (hf : P.funcs[f]? = some fn) (hb : fn.body = some (.seq (.region id #[⟨some d1, .call ⟨.builtin .recover, #[], at_⟩, ty1, pos1, af1, none⟩, ⟨some d2, .assign (.tmp d1), ty2, pos2, af2, none⟩] false) rest)) (hn : (fn.name == "runtime.NumGoroutine") = false)
    (args : List HV) (pre : List (Nat × HObj)) (tm : List (Nat × TV)) (htm : slots 0 args = tm) (n : Nat) (hnt : fn.ntmps = n) (hlen : Nat.ble args.length n = true) (h1n : Nat.blt d1 n = true) (h2n : Nat.blt d2 n = true) (hk1 : nokey tm d1 = true) (hk2 : nokey tm d2 = true) (hd12 : d1 ≠ d2) {Post : HEnd → List (Nat × HObj) → Nat → Prop}
    (h : ∀ X : Clr, X.Ok → X.pre = pre → HWp X.ctx P rest ⟨n, (d2, .v y) :: (d1, .v y) :: tm, pre, clk⟩ (bodyPost P fn (FunPost X Post))) : HDef P f u u' clk args y pre Post := by
  refine ⟨⟨fn, _, hf, hb, hn⟩, fun X vs v ok hX hr hvy hG => ?_⟩
  refine callsD_of_wpS hf hb fun c₀ cs hm => wpS_seq (wpS_region ?_)
  have h1n : d1 < n := by simpa [Nat.blt_eq] using h1n
  have h2n : d2 < n := by simpa [Nat.blt_eq] using h2n
  obtain ⟨hl, hg⟩ := hr.get
  have hlen : args.length ≤ n := by simpa using hlen
  generalize hA : ({ tmps := vs.toArray ++ Array.replicate (fn.ntmps - vs.toArray.size) undef, defers := [] } : Act) = a
  have hasz : a.tmps.size = n := by subst hA; simp [hl, hnt]; omega
  have hadf : a.defers = [] := by subst hA; rfl
  have hslots : ∀ t x, tget tm t = some x → TVRep X.w X.E a (a.tmps.getD t undef) x := by
    intro t x hx
    rw [← htm] at hx
    obtain ⟨i, y, rfl, h2, rfl⟩ := tget_slots args 0 t x hx
    obtain ⟨v, hv, hrep⟩ := hg i y h2
    have hi : i < vs.length := by
      rcases Nat.lt_or_ge i vs.length with h | h
      · exact h
      · rw [List.getElem?_eq_none h] at hv; cases hv
    have : a.tmps.getD (0 + i) undef = v := by
      subst hA
      rw [Nat.zero_add]
      simp only [Array.getD_eq_getD_getElem?]
      rw [Array.getElem?_append_left (by simpa using hi)]
      simp [hv]
    rw [this]
    exact hrep
  have key : ∀ (v' : Value) (c₁ : Frame), Rep X.w X.E v' y → c₁ = { c₀ with mode := u' v } → rest.wpS P (bodyPostS P fn c₀ cs fun e u2 w' => u2 = u' v ∧ FunPost X Post e w') ((a.put (some d1) v').put (some d2) v') (c₁ :: cs) X.w := by
    intro v' c₁ hv' hc₁
    refine wpS_of_wp (Code.wp_mono (fun e a' w' hq => ?_) (h X ok hX _ X.w ⟨X.E, Ext.refl _ _, by have := ok.start; rw [hX] at this; exact this, hG, by simp [Act.put, hasz], hadf, fun t x hx => ?_⟩))
    · cases e with
      | normal => obtain ⟨q1, q2, q3, q4⟩ := hq; exact ⟨q1, _, by rw [hc₁], q2, q3, rfl, q4⟩
      | ret => obtain ⟨q1, q2, q3, q4⟩ := hq; exact ⟨q1, _, by rw [hc₁], q2, q3, rfl, q4⟩
      | panic ch => obtain ⟨q1, q4⟩ := hq; exact ⟨q1, _, by rw [hc₁], rfl, q4⟩
      | outgrown => exact ⟨_, rfl, hq⟩
      | exit id => exact hq.elim
      | goto l => exact hq.elim
    · have h1s : d1 < a.tmps.size := by rw [hasz]; exact h1n
      have h2s : d2 < (a.put (some d1) v').tmps.size := by simp [Act.put, hasz]; exact h2n
      simp only [tget_cons] at hx
      split at hx
      · rename_i e; subst e; injection hx with hx; subst hx
        rw [getD_put_same h2s]; exact hv'
      · rename_i e2
        rw [getD_put_ne e2]
        split at hx
        · rename_i e; subst e; injection hx with hx; subst hx
          rw [getD_put_same h1s]; exact hv'
        · rename_i e1
          rw [getD_put_ne e1]
          have := hslots t x hx
          cases x with
          | v z => exact this
          | un j b z =>
            have n1 := nokey_spec hk1 t j b z hx
            have n2 := nokey_spec hk2 t j b z hx
            simp only [TVRep, getD_put_ne n1, getD_put_ne n2] at this ⊢; exact this
  have hput : ∀ v', (a.put (some d1) v').eval (.tmp d1) = v' := fun v' => getD_put_same (by rw [hasz]; exact h1n)
  rw [show (List.range (#[(⟨some d1, .call ⟨.builtin .recover, #[], at_⟩, ty1, pos1, af1, none⟩ : Oper), ⟨some d2, .assign (.tmp d1), ty2, pos2, af2, none⟩] : Array Oper).size) = [0, 1] from rfl]
  have hrun : ∀ w : World, (execOp a.eval ⟨some d1, .call ⟨.builtin .recover, #[], at_⟩, ty1, pos1, af1, none⟩).run P w = .ok .recover w := fun w => by simp [execOp, resolve, invoke, builtin]
  unfold wpOpsS
  simp only [List.getElem?_toArray, List.getElem?_cons_zero]
  rw [if_pos (by simp [Region.wanted]), hrun]
  simp only
  rcases hu v c₀ cs hm with hrec | ⟨hrec, hu1, hy⟩
  · rw [hrec]
    simp only
    unfold wpOpsS
    simp only [List.getElem?_toArray, List.getElem?_cons_succ, List.getElem?_cons_zero]
    rw [if_pos (by simp [Region.wanted])]
    simp only [execOp, Sem.run_pure, Oper.upon, hput, wpOpsS]
    exact key v _ hvy rfl
  · rw [hrec]
    simp only
    unfold wpOpsS
    simp only [List.getElem?_toArray, List.getElem?_cons_succ, List.getElem?_cons_zero]
    rw [if_pos (by simp [Region.wanted])]
    simp only [execOp, Sem.run_pure, Oper.upon, hput, wpOpsS]
    refine key .nilIface _ (by rw [hy]; exact .imm _) ?_
    rw [hu1, ← hm]
theorem recR (v : Value) (c₀ : Frame) (cs : List Frame) (h : c₀.mode = modeR v) : (recoverD (c₀ :: cs) = some (v, { c₀ with mode := modeR v } :: cs)) ∨ (recoverD (c₀ :: cs) = none ∧ modeR v = modeR v ∧ HV.imm .nilIface = .imm .nilIface) := by
  refine .inr ⟨?_, rfl, rfl⟩
  simp [recoverD, h]
theorem recP (y : HV) (v : Value) (c₀ : Frame) (cs : List Frame) (h : c₀.mode = modeP v) : (recoverD (c₀ :: cs) = some (v, { c₀ with mode := modeP' v } :: cs)) ∨ (recoverD (c₀ :: cs) = none ∧ modeP' v = modeP v ∧ y = .imm .nilIface) := by
  left
  simp [recoverD, h]
end

section
variable {P : Program}
theorem hpure_ofD {f : FuncId} {fn : Func} {c : Code} (hf : P.funcs[f]? = some fn) (hb : fn.body = some c) (hn : (fn.name == "runtime.NumGoroutine") = false) (args : List HV) (r : HV) (tm : List (Nat × TV)) (htm : slots 0 args = tm) (n : Nat) (hnt : fn.ntmps = n) (hlen : Nat.ble args.length n = true)
    (h : ∀ w F, HWp (Ctx.top w F) P c ⟨n, tm, [], 0⟩ (bodyPostD P fn (PurePost w F r))) : HPure P f args r := by
  refine ⟨⟨fn, c, hf, hb, hn⟩, fun w F vs hF hr hw => calls_of_wp_defers hf hb (h w F _ w ?_)⟩
  obtain ⟨hl, hg⟩ := hr.get
  have hlen : args.length ≤ n := by simpa using hlen
  refine ⟨Env.just F, Ext.refl _ _, ⟨rfl, rfl, rfl, Nat.le_refl _, fun _ _ _ => rfl, hF, fun a ha => .inl ha, fun _ _ => trivial, hw, (fun id o ho => by cases ho), (fun id id' o o' l l' b ho => by cases ho)⟩, fun g hg => hg.elim, ?_, rfl, fun t x hx => ?_⟩
  · simp [hl, hnt]; omega
  · rw [← htm] at hx
    obtain ⟨i, y, rfl, h2, rfl⟩ := tget_slots args 0 t x hx
    obtain ⟨v, hv, hrep⟩ := hg i y h2
    have hi : i < vs.length := by
      rcases Nat.lt_or_ge i vs.length with h | h
      · exact h
      · rw [List.getElem?_eq_none h] at hv; cases hv
    have : ({ tmps := vs.toArray ++ Array.replicate (fn.ntmps - vs.toArray.size) undef, defers := [] } : Act).tmps.getD (0 + i) undef = v := by
      rw [Nat.zero_add]
      simp only [Array.getD_eq_getD_getElem?]
      rw [Array.getElem?_append_left (by simpa using hi)]
      simp [hv]
    rw [this]
    exact hrep

variable {Post : HEnd → List (Nat × HObj) → Nat → Prop}
theorem hfun_ofD {f : FuncId} {fn : Func} {c : Code} (hf : P.funcs[f]? = some fn) (hb : fn.body = some c) (hn : (fn.name == "runtime.NumGoroutine") = false) (clk : Nat) (args : List HV) (pre : List (Nat × HObj)) (tm : List (Nat × TV)) (htm : slots 0 args = tm) (n : Nat) (hnt : fn.ntmps = n) (hlen : Nat.ble args.length n = true)
    (h : ∀ X : Clr, X.Ok → X.pre = pre → HWp X.ctx P c ⟨n, tm, pre, clk⟩ (bodyPostD P fn (FunPost X Post))) : HFun P f clk args pre Post := by
  refine ⟨⟨fn, c, hf, hb, hn⟩, fun X vs ok hX hr hG => calls_of_wp_defers hf hb (h X ok hX _ X.w ?_)⟩
  obtain ⟨hl, hg⟩ := hr.get
  have hlen : args.length ≤ n := by simpa using hlen
  have rs := ok.start
  rw [hX] at rs
  refine ⟨X.E, Ext.refl _ _, rs, hG, ?_, rfl, fun t x hx => ?_⟩
  · simp [hl, hnt]; omega
  · rw [← htm] at hx
    obtain ⟨i, y, rfl, h2, rfl⟩ := tget_slots args 0 t x hx
    obtain ⟨v, hv, hrep⟩ := hg i y h2
    have hi : i < vs.length := by
      rcases Nat.lt_or_ge i vs.length with h | h
      · exact h
      · rw [List.getElem?_eq_none h] at hv; cases hv
    have : ({ tmps := vs.toArray ++ Array.replicate (fn.ntmps - vs.toArray.size) undef, defers := [] } : Act).tmps.getD (0 + i) undef = v := by
      rw [Nat.zero_add]
      simp only [Array.getD_eq_getD_getElem?]
      rw [Array.getElem?_append_left (by simpa using hi)]
      simp [hv]
    rw [this]
    exact hrep

end
theorem repAll_of {w : World} {E : Env} : ∀ (l : List Value) (m : List HV), l.length = m.length → (∀ i, i < m.length → ∃ v, l[i]? = some v ∧ Rep w E v (m.getD i default)) → RepAll w E l m
  | [], [], _, _ => trivial
  | v :: l, x :: m, hl, h => by
    obtain ⟨v', h1, h2⟩ := h 0 (by simp)
    simp at h1 h2
    subst h1
    exact ⟨h2, repAll_of l m (by simpa using hl) (fun i hi => by have := h (i + 1) (by simpa using hi); simpa using this)⟩
  | [], _ :: _, hl, _ => by simp at hl
  | _ :: _, [], hl, _ => by simp at hl
section
variable {P : Program} {C : Ctx} {n clk : Nat} {tm : List (Nat × TV)} {hp : List (Nat × HObj)} {fn : Func} {Rp : Ending → World → Prop} {f : FuncId} {hs : List HV} {pre : List (Nat × HObj)} {Post : HEnd → List (Nat × HObj) → Nat → Prop}
theorem leave_wait (u u' : Value → FrameMode) (hC : C.ds = []) (hu0 : ∀ v, u v ≠ .run) (hs' : ∀ v, settle (u' v) = .returning) {y : HV} (hc : HDef P f u u' clk hs y pre Post) (hpre : ∀ p ∈ pre, hget hp p.1 = some p.2) (hpn : ∀ x kp c', ¬ Post (.pan x) kp c')
    (h : ∀ r kp c', Post (.ret r) kp c' → HQ C (bodyPost P fn Rp) .ret ⟨n, tm, kp ++ hp, c'⟩) {a : Act} {w : World} {E : Env} {v : Value} (hvy : Rep w E v y) (e0 : Ext C.w0 C.E0 w E) (r : R C.K C.w0 C.E0.F E (hget hp) w) (hG : ∀ g, E.G g → g < clk) (hsz : a.tmps.size = n)
    (hdf : DefOk w E (C.wait (.fn (.func f) hs.length (fun i => hs.getD i default))).ds a.defers) (ht : ∀ t x, tget tm t = some x → TVRep w E a (a.tmps.getD t undef) x) : Leaves P fn a.tmps Rp a.defers (u v) w := by
  obtain ⟨fv, cap, rr, hd, hfn, hrest⟩ := hdf
  rw [hC] at hrest
  have hrr : rr = [] := hrest
  subst hrr
  rw [hd]
  cases hfn with
  | fn _ vcs _ _ vs hn hv hr =>
    have hall : RepAll w E cap.toList hs := repAll_of _ _ (by simpa using hn) (fun i hi => ⟨vs i, by rw [Array.getElem?_toList]; exact hv i hi, hr i hi⟩)
    refine leaves_cons (hu0 v) (f := f) (args := cap) ?_ ?_
    · simp only [invoke, Array.empty_append]
      exact run_callFunc hc.1 _ _
    · have hcalls := hc.2 ⟨C.K, C.w0, C.E0.F, E, hget hp, w, pre⟩ cap.toList v ⟨r, fun id o ho => hpre (id, o) (hget_mem ho)⟩ rfl hall hvy hG
      refine CallsD.mono hcalls ?_
      rintro e u2 w' ⟨rfl, x, kp, c', E', hP, e', r', hG', _, hv2⟩
      cases e with
      | returned v2 =>
        cases x with
        | pan x => exact hv2.elim
        | ret x =>
          simp only [hs']
          have := h x kp c' hP { a with defers := [] } w' ⟨E', e0.trans e', by simp only [hget_append]; exact r', hG', hsz, by rw [hC]; rfl, fun t y hy => by
            have := (ht t y hy).ext e'
            cases y with
            | v z => exact this
            | un j b z => exact this⟩
          exact this.2
      | panicked ch =>
        cases x with
        | ret x => exact hv2.elim
        | pan x => exact absurd hP (hpn x kp c')
      | outgrown => cases x <;> exact hv2.elim
/-- The function returns: its closure runs, and finds nothing to recover. -/
theorem hq_wait (hC : C.ds = []) (hc : HDef P f modeR modeR clk hs (.imm .nilIface) pre Post) (hpre : ∀ p ∈ pre, hget hp p.1 = some p.2) (hpn : ∀ x kp c', ¬ Post (.pan x) kp c')
    (h : ∀ r kp c', Post (.ret r) kp c' → HQ C (bodyPost P fn Rp) .ret ⟨n, tm, kp ++ hp, c'⟩) : HQ (C.wait (.fn (.func f) hs.length (fun i => hs.getD i default))) (bodyPostD P fn Rp) .ret ⟨n, tm, hp, clk⟩ := by
  intro a w ⟨E, e0, r, hG, hsz, hdf, ht⟩
  exact leave_wait modeR modeR hC (fun _ h => by cases h) (fun _ => rfl) hc hpre hpn h (v := .nilIface) (.imm _) e0 r hG hsz hdf ht
/-- The function panics: its closure recovers. -/
theorem hpan_wait {x : HV} (hC : C.ds = []) (hc : HDef P f modeP modeP' clk hs x pre Post) (hpre : ∀ p ∈ pre, hget hp p.1 = some p.2) (hpn : ∀ x kp c', ¬ Post (.pan x) kp c')
    (h : ∀ r kp c', Post (.ret r) kp c' → HQ C (bodyPost P fn Rp) .ret ⟨n, tm, kp ++ hp, c'⟩) : HPan (C.wait (.fn (.func f) hs.length (fun i => hs.getD i default))) (bodyPostD P fn Rp) ⟨n, tm, hp, clk⟩ x := by
  intro a w E v e0 r hG hsz hdf ht hv
  exact leave_wait modeP modeP' hC (fun _ h => by cases h) (fun _ => rfl) hc hpre hpn h (v := v) hv e0 r hG hsz hdf ht
end
end Go.Proofs.YtijpdbjcmnpobaaDoor
