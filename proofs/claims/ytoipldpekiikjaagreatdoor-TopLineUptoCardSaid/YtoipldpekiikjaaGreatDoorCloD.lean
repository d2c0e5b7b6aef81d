/-
  Code, calls and drawn regions: an abstract run of a compiled function shows what the call comes to. No condition but those of each law.
-/
import Derived.Test.YtoipldpekiikjaaGreatDoorCloC
import Derived.Orders
import Derived.Laws.Externs
import Derived.Lib.Bytealg
namespace Go.Proofs.YtoipldpekiikjaaGreatDoor.Clo
set_option linter.all false

noncomputable def QE.at (e : QE) (t : Nat) : V := QV.get (dig t).2 (QE.get (dig t).1 e)
noncomputable def QE.put (e : QE) (d : Option Tmp) (v : V) : QE := match d with
  | none => e
  | some t => QE.st (dig t).1 (QV.st (dig t).2 v (QE.get (dig t).1 e)) e
theorem dig_inj {s t : Nat} (hs : s < 256) (ht : t < 256) (h1 : (dig s).1 = (dig t).1) (h2 : (dig s).2 = (dig t).2) : s = t := by
  have a1 := congrArg D.n h1
  have a2 := congrArg D.n h2
  simp only [dig] at a1 a2
  rw [D.n_of _ (by omega), D.n_of _ (by omega)] at a1
  rw [D.n_of _ (by omega), D.n_of _ (by omega)] at a2
  omega
theorem QE.at_put (e : QE) {t : Nat} (ht : t < 256) {d : Option Tmp} (hd : ∀ s, d = some s → s < 256) (v : V) : (e.put d v).at t = if d = some t then v else e.at t := by
  cases d with
  | none => simp [QE.put]
  | some s =>
    have hs := hd s rfl
    simp only [QE.put, QE.at, QE.get_st, Option.some.injEq]
    by_cases h1 : (dig t).1 = (dig s).1
    · rw [if_pos h1, QV.get_st]
      by_cases h2 : (dig t).2 = (dig s).2
      · rw [if_pos h2, if_pos (dig_inj ht hs h1 h2).symm]
      · rw [if_neg h2, if_neg (fun e => h2 (by rw [e])), h1]
    · rw [if_neg h1, if_neg (fun e => h1 (by rw [e]))]
theorem putE_eq (d : Option Tmp) (v : V) (e : QE) (k : QE → X) : putE (d.map dig) v e k = k (e.put d v) := by
  cases d with
  | none => rfl
  | some t => show QV.upd _ v _ _ = _; rw [QV.upd_eq, QE.upd_eq]; rfl
theorem putK_ok {d : Option Tmp} {k : Hp → QE → X} {e : QE} {r : R1} {x : Ex} {h' : Hp} {e' : QE} (g : putK (d.map dig) k e r = .ok x h' e') : ∃ v h, r = .ok v h ∧ k h (e.put d v) = .ok x h' e' := by
  cases r with
  | no c => cases (show X.no c = .ok x h' e' from g)
  | ok v h => exact ⟨v, h, rfl, (putE_eq d v e (k h)).symm.trans g⟩
theorem asG_ok {z : V} {w : Bool} {y n : X} {x : Ex} {h' : Hp} {e' : QE} (g : asG z w y n = .ok x h' e') : (z = .b w ∧ y = .ok x h' e') ∨ (((∃ b, z = .b b ∧ b ≠ w) ∨ ∃ l, z = .t l) ∧ n = .ok x h' e') := by
  cases z <;> first | (cases g; done) | skip
  · rename_i b
    cases b <;> cases w <;> first | exact .inl ⟨rfl, g⟩ | exact .inr ⟨.inl ⟨_, rfl, by simp⟩, g⟩
  · rename_i l; exact .inr ⟨.inr ⟨l, rfl⟩, g⟩

/-- Is it wanted, as the abstract temporaries say? -/
def Wants (ops : Array Oper) (e : QE) (o : Oper) (b : Bool) : Prop := match o.guard with
  | none => b = true
  | some (j, w) => ∃ t, (ops[j]?).bind (·.dst) = some t ∧ t < 256 ∧
    (if b then e.at t = .b w else (∃ c, e.at t = .b c ∧ c ≠ w) ∨ ∃ l, e.at t = .t l)

theorem wanted_of {ops : Array Oper} {e : QE} {o : Oper} {b : Bool} {σ : Sg} {ts : Array Value} (hw : Wants ops e o b)
    (hr : ∀ j w t, o.guard = some (j, w) → (ops[j]?).bind (·.dst) = some t → VR σ (e.at t) (ts.getD t undef)) : Region.wanted o (yielded ops ts) = b := by
  unfold Wants at hw
  unfold Region.wanted
  cases hg : o.guard with
  | none => simp only [hg] at hw ⊢; exact hw.symm
  | some p =>
    obtain ⟨j, w⟩ := p
    simp only [hg] at hw ⊢
    obtain ⟨t, ht, _, hv⟩ := hw
    have hr := hr j w t hg ht
    have hy : yielded ops ts j = match ts.getD t undef with | .bool b => some b | _ => none := by
      unfold yielded
      rw [ht]
      by_cases hs : t < ts.size
      · simp only [Option.bind_some, Array.getElem?_eq_getElem hs, Array.getD, hs, dite_true, Array.getInternal_eq_getElem]
        cases ts[t] <;> rfl
      · simp only [Option.bind_some, Array.getElem?_eq_none (Nat.le_of_not_lt hs), Array.getD, hs, dite_false]
        rfl
    rw [hy]
    cases b with
    | true =>
      simp only [if_true] at hv
      rw [hv] at hr
      rw [hr.inv_b]
      simp
    | false =>
      simp only [Bool.false_eq_true, if_false] at hv
      rcases hv with ⟨c, hc, hne⟩ | ⟨l, hl⟩
      · rw [hc] at hr
        rw [hr.inv_b]
        simpa using hne
      · rw [hl] at hr
        obtain ⟨cs, h1, _⟩ := hr.inv_t
        rw [h1]
        rfl

theorem gd_ok {ops : Array Oper} {o : Oper} {g : Option ((D × D) × Bool)} (h : gd ops o = some g) :
    (o.guard = none ∧ g = none) ∨ ∃ j w t, o.guard = some (j, w) ∧ (ops[j]?).bind (·.dst) = some t ∧ t < 256 ∧ g = some (dig t, w) := by
  unfold gd at h
  split at h
  · rename_i hg; cases h; exact .inl ⟨hg, rfl⟩
  · rename_i j w hg
    split at h
    · rename_i t ht
      split at h
      · rename_i h2; cases h; exact .inr ⟨j, w, t, hg, ht, h2, rfl⟩
      · cases h
    · cases h
theorem dd_ok {n : Nat} {o : Oper} {d : Option (D × D)} (h : dd n o = some d) : d = o.dst.map dig ∧ ∀ t, o.dst = some t → t < n ∧ t < 256 := by
  unfold dd at h
  split at h
  · rename_i hd; cases h; rw [hd]; exact ⟨rfl, fun t ht => by cases ht⟩
  · rename_i t hd
    split at h
    · rename_i h2; cases h; rw [hd]; exact ⟨rfl, fun s hs => by cases hs; exact h2⟩
    · cases h

/-- What an operation does to the abstract state. -/
def OneOk (ops : Array Oper) (cf : CF) (o : Oper) (a : AO) (h : Hp) (e : QE) (h' : Hp) (e' : QE) : Prop :=
  (Wants ops e o true ∧ ∃ v, a.go cf h e = .ok v h' ∧ e' = e.put o.dst v) ∨ (Wants ops e o false ∧ h' = h ∧ e' = e.put o.dst (.t []))

theorem step_ok {ops : Array Oper} {n : Nat} {o : Oper} {a : AO} {s : AS} (hs : stepOf ops n o a = some s) {cf : CF} {k : Hp → QE → X} {h : Hp} {e : QE} {x : Ex} {h' : Hp} {e' : QE}
    (g : s.go cf k h e = .ok x h' e') : (∀ t, o.dst = some t → t < n ∧ t < 256) ∧ ∃ h1 e1, OneOk ops cf o a h e h1 e1 ∧ k h1 e1 = .ok x h' e' := by
  unfold stepOf at hs
  simp only [Option.bind_eq_bind, Option.bind_eq_some_iff] at hs
  obtain ⟨gg, hg, d, hd, hs⟩ := hs
  obtain ⟨rfl, hdst⟩ := dd_ok hd
  refine ⟨hdst, ?_⟩
  rcases gd_ok hg with ⟨hn, rfl⟩ | ⟨j, w, t, hgu, ht, h2, rfl⟩
  · cases hs
    obtain ⟨v, h1, g1, g2⟩ := putK_ok (show putK (o.dst.map dig) k e (a.go cf h e) = .ok x h' e' from g)
    exact ⟨h1, _, .inl ⟨by simp [Wants, hn], v, g1, rfl⟩, g2⟩
  · cases hs
    rcases asG_ok (show asG (e.at t) w (putK (o.dst.map dig) k e (a.go cf h e)) (putE (o.dst.map dig) (.t []) e (k h)) = .ok x h' e' from g) with ⟨hz, g1⟩ | ⟨hz, g1⟩
    · obtain ⟨v, h1, g2, g3⟩ := putK_ok g1
      exact ⟨h1, _, .inl ⟨by simp only [Wants, hgu]; exact ⟨t, ht, h2, by simpa using hz⟩, v, g2, rfl⟩, g3⟩
    · rw [putE_eq] at g1
      exact ⟨h, _, .inr ⟨by simp only [Wants, hgu]; exact ⟨t, ht, h2, by simpa using hz⟩, rfl, rfl⟩, g1⟩
end Go.Proofs.YtoipldpekiikjaaGreatDoor.Clo

namespace Go.Proofs.YtoipldpekiikjaaGreatDoor.Clo
set_option linter.all false
section
variable {P : Program} {σ σ' : Sg} {h h' : Hp} {e e' : QE} {w : World} {a : Act} {v : V} {o : Oper}

theorem undef_t (σ : Sg) : VR σ (.t []) undef := .t [] #[] .nil

theorem NextOk.wp {next : Act → World → Prop} {Q : Exit → Act → World → Prop} (hn : NextOk P σ h h' w v (execOp a.eval o))
    (hk : ∀ σ' c w', Ext σ σ' h h' → Rel P σ' h' (core w') → VR σ' v c → next (a.put o.dst c) w') : o.wp P a w next Q := by
  rcases hn with ⟨σ', c, w', hr, hx, r, hv⟩ | ⟨σ', w', hr, hx, r, rfl⟩ | ⟨f, args, hr, hc⟩
  · unfold Oper.wp; rw [hr]; exact hk _ _ _ hx r hv
  · unfold Oper.wp; rw [hr]; exact hk _ _ _ hx r (undef_t _)
  · unfold Oper.wp; rw [hr]
    refine Calls.mono hc fun x w' hx => ?_
    cases x with
    | returned c => obtain ⟨σ', h1, h2, h3⟩ := hx; exact hk _ _ _ h1 h2 h3
    | panicked c => exact hx.elim
    | outgrown => exact hx.elim

theorem one_wp {S : Tm} {ops : Array Oper} {cf : CF} {ao : AO} {K : Act → World → Prop} {Q : Exit → Act → World → Prop} {Z : Prop} (hs : OpSim P S o ao) (h1 : OneOk ops cf o ao h e h' e') (hcf : CallOk P cf)
    (r : Rel P σ h (core w)) (he : EnvR σ S e a.tmps) (hg : ∀ j b t, o.guard = some (j, b) → (ops[j]?).bind (·.dst) = some t → VR σ (e.at t) (a.tmps.getD t undef))
    (hk : ∀ σ' c w' v, Ext σ σ' h h' → Rel P σ' h' (core w') → VR σ' v c → e' = e.put o.dst v → K (a.put o.dst c) w') :
    if Region.wanted o (yielded ops a.tmps) then o.wp P a w K Q ∨ Z else K (a.put o.dst undef) w := by
  rcases h1 with ⟨hw, v, hv, he'⟩ | ⟨hw, rfl, he'⟩
  · rw [wanted_of hw hg, if_pos rfl]
    exact .inl (NextOk.wp (hs cf σ h w e a v h' hcf r he hv) fun σ' c w' hx r' hc => hk σ' c w' v hx r' hc he')
  · rw [wanted_of hw hg]
    simp only [Bool.false_eq_true, if_false]
    exact hk σ undef w (.t []) (.refl _ _) r (undef_t _) he'

theorem Act.put_tmps (a : Act) (d : Option Tmp) (c : Value) (t : Nat) : ((a.put d c).tmps.getD t undef) = if d = some t ∧ t < a.tmps.size then c else a.tmps.getD t undef := by
  cases d with
  | none => simp [Act.put]
  | some s =>
    simp only [Act.put, Option.some.injEq]
    by_cases h : s = t
    · subst h
      by_cases h2 : s < a.tmps.size
      · simp [Array.getD, h2]
      · simp [Array.getD, h2]
    · by_cases h2 : t < a.tmps.size
      · simp [Array.getD, h2, h, Array.getElem_setIfInBounds_ne]
      · simp [Array.getD, h2]
theorem Act.put_size (a : Act) (d : Option Tmp) (c : Value) : (a.put d c).tmps.size = a.tmps.size := by
  cases d <;> simp [Act.put]
theorem Act.put_defers (a : Act) (d : Option Tmp) (c : Value) : (a.put d c).defers = a.defers := by
  cases d <;> rfl

theorem EnvR.put {n : Nat} (he : EnvR σ (.all n) e a.tmps) (le : Le σ σ') {d : Option Tmp} (hd : ∀ t, d = some t → t < n ∧ t < 256) {c : Value} (hv : VR σ' v c) :
    EnvR σ' (.all n) (e.put d v) (a.put d c).tmps := by
  refine ⟨by rw [Act.put_size]; exact he.1, fun t ht _ => ?_⟩
  have h1 := (he.2 t ht rfl).mono le
  rw [Act.put_tmps]
  show VR σ' ((e.put d v).at t) _
  rw [QE.at_put e ht (fun s hs => (hd s hs).2)]
  by_cases h : d = some t
  · rw [if_pos h, if_pos ⟨h, Nat.lt_of_lt_of_le (hd t h).1 he.1⟩]; exact hv
  · rw [if_neg h, if_neg (fun hh => h hh.1)]; exact h1

/-- What is kept of the state: all but the temporaries. -/
structure Kept (P : Program) (n : Nat) (σ : Sg) (h : Hp) (a : Act) (h' : Hp) (e' : QE) (a' : Act) (w' : World) : Prop where
  out : ∃ σ', Ext σ σ' h h' ∧ Rel P σ' h' (core w') ∧ EnvR σ' (.all n) e' a'.tmps ∧ a'.defers = a.defers

/-- The operations of a region that are done as they stand. -/
theorem plain_wp {n : Nat} {ops : Array Oper} {cf : CF} (hcf : CallOk P cf) {Q : Exit → Act → World → Prop} :
    ∀ (l : List Oper) (js : List Nat) (as : List AS), js.map (fun j => ops[j]?) = l.map some → compPlain P n ops l = some as → ∀ (σ : Sg) (h : Hp) (e : QE) (a : Act) (w : World) (x : Ex) (h' : Hp) (e' : QE),
    steps as cf h e = .ok x h' e' → Rel P σ h (core w) → EnvR σ (.all n) e a.tmps →
    (∀ a' w', Kept P n σ h a h' e' a' w' → Q .normal a' w') → x = .n ∧ wpOps P ops Q js a w
  | [], js, as, hj, hc, σ, h, e, a, w, x, h', e', g, r, he, hq => by
    cases hc
    cases js with
    | nil =>
      cases (show X.ok .n h e = .ok x h' e' from g)
      exact ⟨rfl, hq _ _ ⟨σ, .refl _ _, r, he, rfl⟩⟩
    | cons _ _ => simp at hj
  | o :: l, js, as, hj, hc, σ, h, e, a, w, x, h', e', g, r, he, hq => by
    cases js with
    | nil => simp at hj
    | cons j js =>
      simp only [List.map_cons, List.cons.injEq] at hj
      obtain ⟨hj1, hj2⟩ := hj
      simp only [compPlain, Option.bind_eq_bind, Option.bind_eq_some_iff, Option.some.injEq] at hc
      obtain ⟨s, hs, as', has, rfl⟩ := hc
      obtain ⟨hd, h1, e1, ho, g1⟩ := step_ok hs (show s.go cf (steps as' cf) h e = .ok x h' e' from g)
      have hx : x = .n := by
        have : ∀ (as : List AS) (h : Hp) (e : QE), ∀ l, compPlain P n ops l = some as → steps as cf h e = .ok x h' e' → x = .n := by
          intro as
          induction as with
          | nil => intro h e l _ g; cases (show X.ok .n h e = .ok x h' e' from g); rfl
          | cons s as ih =>
            intro h e l hl g
            cases l with
            | nil => cases hl
            | cons o l =>
              simp only [compPlain, Option.bind_eq_bind, Option.bind_eq_some_iff, Option.some.injEq] at hl
              obtain ⟨s', hs', as', has', he'⟩ := hl
              cases he'
              obtain ⟨_, h1, e1, _, g1⟩ := step_ok hs' (show s.go cf (steps as cf) h e = .ok x h' e' from g)
              exact ih _ _ l has' g1
        exact this as' h1 e1 l has g1
      refine ⟨hx, ?_⟩
      rw [wpOps_cons]
      simp only [wpOp, hj1]
      refine one_wp op_sim' ho hcf r he (fun j b t hg ht => ?_) (fun σ' c w' v hx r' hv he' => ?_)
      · have h2 : t < 256 := by
          unfold stepOf at hs
          simp only [Option.bind_eq_bind, Option.bind_eq_some_iff] at hs
          obtain ⟨gg, hgg, _⟩ := hs
          rcases gd_ok hgg with ⟨hn, _⟩ | ⟨j', w', t', h3, h4, h5, _⟩
          · rw [hg] at hn; cases hn
          · rw [hg] at h3; cases h3; rw [ht] at h4; cases h4; exact h5
        exact he.2 t h2 rfl
      · subst he'
        refine (plain_wp hcf l js as' hj2 has σ' h1 _ (a.put o.dst c) w' x h' e' g1 r' (he.put (hx.to_le r) hd hv) fun a' w'' hk => ?_).2
        obtain ⟨σ'', k1, k2, k3, k4⟩ := hk.out
        exact hq _ _ ⟨σ'', hx.trans k1, k2, k3, by rw [k4, Act.put_defers]⟩
end
end Go.Proofs.YtoipldpekiikjaaGreatDoor.Clo

namespace Go.Proofs.YtoipldpekiikjaaGreatDoor.Clo
set_option linter.all false
section
variable {P : Program} {σ σ' : Sg} {h h' : Hp} {e e' : QE} {w : World} {a : Act} {v : V} {o : Oper}

def resOf (ts : Array Value) : ResultVar → Sem Value
  | .tmp t => pure (ts.getD t undef)
  | .cell b t => do loadVar t (← asAddr (ts.getD b undef))
/-- The result of one result variable. -/
theorem res1_ok {n : Nat} {x : ResultVar} {rv : RV} {rvs : List RV} {l : List ResultVar} (hc : compRes P n (x :: l) = some (rv :: rvs)) {k : V → R1} (g : res1 rv h e k = .ok v h') (r : Rel P σ h (core w)) (he : EnvR σ (.all n) e a.tmps) :
    compRes P n l = some rvs ∧ ∃ u c, k u = .ok v h' ∧ VR σ u c ∧ (resOf a.tmps x).run P w = .ok c w := by
  cases x with
  | tmp t =>
    simp only [compRes] at hc
    split at hc
    · rename_i ht
      simp only [Option.bind_eq_bind, Option.bind_eq_some_iff, Option.some.injEq] at hc
      obtain ⟨_, hc2, h2⟩ := hc
      obtain ⟨rfl, rfl⟩ := List.cons.inj h2
      exact ⟨hc2, _, _, g, he.2 t ht.2 rfl, rfl⟩
    · cases hc
  | cell t ty =>
    simp only [compRes] at hc
    split at hc
    · rename_i ht
      simp only [Option.bind_eq_bind, Option.bind_eq_some_iff, Option.some.injEq] at hc
      obtain ⟨b, hb, m, hm, _, hc2, h2⟩ := hc
      obtain ⟨rfl, rfl⟩ := List.cons.inj h2
      obtain ⟨q, off, h1, g⟩ := asP_ok (show asP (e.at t) (fun x o => h.cl x fun _ _ _ _ c => part b o m c k) = .ok v h' from g)
      have vx := he.2 t ht.2 rfl
      rw [show QV.get (dig t).2 (QE.get (dig t).1 e) = .p q off from h1] at vx
      obtain ⟨i, hi, ex⟩ := vx.inv_p
      obtain ⟨u, c, g2, hr, hrun⟩ := loadVar_sim hb hm r hi g
      refine ⟨hc2, u, c, g2, hr, ?_⟩
      show (do loadVar ty (← asAddr (a.tmps.getD t undef)) : Sem Value).run P w = _
      rw [ex]
      simpa [asAddr] using hrun
    · cases hc

theorem resl_ok {n : Nat} : ∀ {xs : List ResultVar} {rs : List RV}, compRes P n xs = some rs → ∀ {k : List V → R1}, resl rs h e k = .ok v h' → Rel P σ h (core w) → EnvR σ (.all n) e a.tmps →
    ∃ us cs, k us = .ok v h' ∧ VRs σ us cs ∧ cs.length = xs.length ∧ (xs.mapM (resOf a.tmps)).run P w = .ok cs w
  | [], rs, hc, k, g, r, he => by
    cases hc
    exact ⟨[], [], g, .nil, rfl, rfl⟩
  | x :: xs, rs, hc, k, g, r, he => by
    cases rs with
    | nil =>
      exfalso
      cases x <;> simp only [compRes] at hc <;> split at hc <;> simp [Option.bind_eq_some_iff] at hc
    | cons rv rvs =>
      obtain ⟨hc2, u, c, g2, hu, hrun⟩ := res1_ok hc (show res1 rv h e (fun v => resl rvs h e fun vs => k (v :: vs)) = .ok v h' from g) r he
      obtain ⟨us, cs, g3, hus, hlen, hrun2⟩ := resl_ok hc2 g2 r he
      refine ⟨u :: us, c :: cs, g3, .cons _ _ _ _ hu hus, by simp [hlen], ?_⟩
      rw [List.mapM_cons, Sem.run_bind, hrun]
      simp only [Result.andThen_ok, Sem.run_bind, hrun2, Sem.run_pure]

theorem results_ok {fn : Func} {n : Nat} {rs : List RV} (hc : compRes P n fn.results.toList = some rs) (g : resl rs h e (fun r => resv r h) = .ok v h') (r : Rel P σ h (core w)) (he : EnvR σ (.all n) e a.tmps) :
    h' = h ∧ ∃ c, VR σ v c ∧ (results fn a.tmps).run P w = .ok c w := by
  obtain ⟨us, cs, g2, hus, hlen, hrun⟩ := resl_ok hc g r he
  have hm : (fn.results.mapM (resOf a.tmps)).run P w = .ok cs.toArray w := by
    rw [Array.mapM_eq_mapM_toList, Sem.run_map, hrun]
    rfl
  have hl := hus.length
  have he : results fn a.tmps = (do let vs ← fn.results.mapM (resOf a.tmps); pure (if h : vs.size = 1 then vs[0] else .tuple vs)) := by
    unfold results
    have : (fun x => match x with | ResultVar.tmp t => pure (a.tmps.getD t undef) | ResultVar.cell b t => do loadVar t (← asAddr (a.tmps.getD b undef)) : ResultVar → Sem Value) = resOf a.tmps := by
      funext x; cases x <;> rfl
    rw [← this]
    rfl
  rw [he, Sem.run_bind, hm]
  simp only [Result.andThen_ok]
  match us, cs, hus, g2 with
  | [], [], _, g2 =>
    cases (show R1.ok (.t []) h = .ok v h' from g2)
    exact ⟨rfl, _, .t _ #[] .nil, rfl⟩
  | [u], [c], hus, g2 =>
    cases (show R1.ok u h = .ok v h' from g2)
    cases hus with
    | cons _ _ _ _ h1 _ => exact ⟨rfl, c, h1, rfl⟩
  | u1 :: u2 :: us, c1 :: c2 :: cs, hus, g2 =>
    cases (show R1.ok (.t (u1 :: u2 :: us)) h = .ok v h' from g2)
    exact ⟨rfl, _, .t _ (c1 :: c2 :: cs).toArray (by simpa using hus), by simp⟩

theorem page_get (as : List V) (d : D) : QV.get d (page as) = .u ∨ as[d.n]? = some (QV.get d (page as)) := by
  unfold page
  split
  all_goals cases d <;> first | exact .inl rfl | exact .inr rfl
theorem noPage_get (d : D) : QV.get d noPage = .u := by cases d <;> rfl
theorem entry_at (as : List V) (t : Nat) (ht : t < 256) : (entry as).at t = .u ∨ as[t]? = some ((entry as).at t) := by
  by_cases h : t < 16
  · have h1 : (dig t).1 = .d0 := by
      simp only [dig]; rw [Nat.div_eq_of_lt h]; rfl
    have h2 : (dig t).2.n = t := by
      simp only [dig]; rw [D.n_of _ (Nat.mod_lt _ (by omega)), Nat.mod_eq_of_lt h]
    have h3 : (entry as).at t = QV.get (dig t).2 (page as) := by
      unfold QE.at; rw [h1]; rfl
    rw [h3]
    rcases page_get as (dig t).2 with h4 | h4
    · exact .inl h4
    · rw [h2] at h4; exact .inr h4
  · left
    have h1 : (dig t).1.n = t / 16 := by simp only [dig]; rw [D.n_of _ (by omega)]
    have h2 : QE.get (dig t).1 (entry as) = noPage := by
      have h0 : (dig t).1.n ≠ 0 := by omega
      revert h0
      generalize (dig t).1 = d
      intro h0
      cases d <;> first | rfl | exact absurd rfl h0
    unfold QE.at
    rw [h2, noPage_get]
theorem entry_env {as : List V} {args : Array Value} (hv : VRs σ as args.toList) (n : Nat) : EnvR σ (.all n) (entry as) (args ++ Array.replicate (n - args.size) undef) := by
  refine ⟨by show n ≤ _; simp; omega, fun t ht _ => ?_⟩
  show VR σ ((entry as).at t) _
  rcases entry_at as t ht with h | h
  · rw [h]; exact .u _
  · obtain ⟨c, hc, hr⟩ := hv.get h
    rw [Array.getElem?_toList] at hc
    obtain ⟨hlt, hc'⟩ := Array.getElem?_eq_some_iff.1 hc
    have : (args ++ Array.replicate (n - args.size) undef).getD t undef = c := by
      simp [Array.getD, Array.getElem_append, hlt, hc', show t < args.size + (n - args.size) by omega]
    rw [this]; exact hr
end
end Go.Proofs.YtoipldpekiikjaaGreatDoor.Clo

namespace Go.Proofs.YtoipldpekiikjaaGreatDoor.Clo
set_option linter.all false

/-- A region is done as its steps say. -/
def RegOk (P : Program) (n : Nat) (ops : Array Oper) (b : Bool) (l : List AS) : Prop :=
  ∀ cf, CallOk P cf → ∀ σ h e a w x h' e', steps l cf h e = .ok x h' e' → Rel P σ h (core w) → EnvR σ (.all n) e a.tmps →
    x = .n ∧ ∀ Q id, (∀ a' w', Kept P n σ h a h' e' a' w' → Q .normal a' w') → (Code.region id ops b).wp P Q a w

noncomputable def entryOf (tab : QF3) (f : Fx) : FE := QF.get f.c (QF2.get f.b (QF3.get f.a tab))
theorem callF_eq (tab : QF3) (bt : Nat) (ex : AC → Hp → QE → X) (f : Fx) (as : List V) (h : Hp) : callF tab bt ex f as h = callE (entryOf tab f) bt ex as h := rfl

/-- What a call is to come to. -/
def CallAt (P : Program) (f : Nat) (as : List V) (h : Hp) (v : V) (h' : Hp) : Prop :=
  ∀ σ w (args : Array Value), Rel P σ h (core w) → VRs σ as args.toList → NextOk P σ h h' w v (callFunc f args)

structure Table (P : Program) (tab : QF3) (bt : Nat) : Prop where
  drawn : ∀ n ops l, compDrawn P n ops = some l → RegOk P n ops true l
  at' : ∀ f : Fx, entryOf tab f ≠ .no → ∃ fn, P.funcs[f.n]? = some fn ∧ compFn P fn = entryOf tab f
  ext : ∀ f k, entryOf tab f = .ext k → ∀ as h v h', extrn k bt as h = .ok v h' → CallAt P f.n as h v h'
  find : ∀ f m z, entryOf tab f = .find m z → ∀ as h v h', findE m z as h = .ok v h' → CallAt P f.n as h v h'

theorem plain_ok {P : Program} {n : Nat} {ops : Array Oper} {l : List AS} (hc : compPlain P n ops ops.toList = some l) : RegOk P n ops false l := by
  intro cf hcf σ h e a w x h' e' g r he
  have hj : (List.range ops.size).map (fun j => ops[j]?) = ops.toList.map some := by
    apply List.ext_getElem?
    intro i
    by_cases hi : i < ops.size
    · simp [hi]
    · simp [hi]
  refine ⟨(plain_wp hcf (Q := fun _ _ _ => True) ops.toList _ l hj hc σ h e a w x h' e' g r he fun _ _ _ => trivial).1, fun Q id hq => wp_region ?_⟩
  exact (plain_wp hcf ops.toList _ l hj hc σ h e a w x h' e' g r he hq).2

def exOf : Ex → Exit
  | .n => .normal
  | .e i => .exit i
  | .r => .ret

theorem thenX_ok {x : X} {k : Hp → QE → X} {y : Ex} {h' : Hp} {e' : QE} (g : thenX x k = .ok y h' e') :
    (∃ h e, x = .ok .n h e ∧ k h e = .ok y h' e') ∨ (y ≠ .n ∧ x = .ok y h' e') := by
  cases x with
  | no c => cases (show X.no c = .ok y h' e' from g)
  | ok z h e =>
    cases z with
    | n => exact .inl ⟨h, e, rfl, g⟩
    | e i => cases (show X.ok (.e i) h e = .ok y h' e' from g); exact .inr ⟨by simp, rfl⟩
    | r => cases (show X.ok .r h e = .ok y h' e' from g); exact .inr ⟨by simp, rfl⟩
theorem outX_ok {x : X} {i : Nat} {y : Ex} {h' : Hp} {e' : QE} (g : outX i x = .ok y h' e') :
    (x = .ok y h' e' ∧ (∀ j, y = .e j → j ≠ i)) ∨ (y = .n ∧ x = .ok (.e i) h' e') := by
  cases x with
  | no c => cases (show X.no c = .ok y h' e' from g)
  | ok z h e =>
    cases z with
    | n => cases (show X.ok .n h e = .ok y h' e' from g); exact .inl ⟨rfl, fun j hj => by cases hj⟩
    | r => cases (show X.ok .r h e = .ok y h' e' from g); exact .inl ⟨rfl, fun j hj => by cases hj⟩
    | e j =>
      have g : @Bool.rec (fun _ => X) (.ok (.e j) h e) (.ok .n h e) (Nat.beq i j) = .ok y h' e' := g
      cases hb : Nat.beq i j with
      | true =>
        rw [hb] at g
        cases (show X.ok .n h e = .ok y h' e' from g)
        have := Nat.eq_of_beq_eq_true hb
        subst this
        exact .inr ⟨rfl, rfl⟩
      | false =>
        rw [hb] at g
        cases (show X.ok (.e j) h e = .ok y h' e' from g)
        refine .inl ⟨rfl, fun j' hj hh => ?_⟩
        cases hj
        subst hh
        rw [Nat.beq_refl] at hb
        cases hb
theorem asBX_ok {z : V} {y n : X} {x : Ex} {h' : Hp} {e' : QE} (g : asBX z y n = .ok x h' e') : ∃ b, z = .b b ∧ (if b then y else n) = .ok x h' e' := by
  cases z <;> first | (cases g; done) | skip
  rename_i b
  cases b <;> exact ⟨_, rfl, g⟩

theorem exists_least (p : Nat → Prop) : ∀ n, p n → ∃ n, p n ∧ ∀ m, p m → n ≤ m := by
  intro n
  induction n using Nat.strongRecOn with
  | _ n ih =>
    intro hn
    by_cases h : ∃ m, m < n ∧ p m
    · obtain ⟨m, hm, hp⟩ := h; exact ih m hm hp
    · exact ⟨n, hn, fun m hm => Nat.le_of_not_lt fun hlt => h ⟨m, hlt, hm⟩⟩
open Classical in
noncomputable def least (p : Nat → Prop) : Nat := if h : ∃ n, p n ∧ ∀ m, p m → n ≤ m then h.choose else 0
theorem least_spec {p : Nat → Prop} (h : ∃ n, p n) : p (least p) ∧ ∀ m, p m → least p ≤ m := by
  have h2 : ∃ n, p n ∧ ∀ m, p m → n ≤ m := let ⟨n, hn⟩ := h; exists_least p n hn
  unfold least
  rw [dif_pos h2]
  exact h2.choose_spec

section
variable {P : Program} {tab : QF3} {bt : Nat}

theorem exec_ok (T : Table P tab bt) : ∀ (f : Nat), (∀ m, m < f → CallOk P (callF tab bt (exec m tab bt))) → ∀ (n : Nat) (c : Code) (σ : Sg) (h : Hp) (e : QE) (a : Act) (w : World) (x : Ex) (h' : Hp) (e' : QE),
    exec f tab bt (comp P n c) h e = .ok x h' e' → Rel P σ h (core w) → EnvR σ (.all n) e a.tmps → ∀ Q : Exit → Act → World → Prop, (∀ a' w', Kept P n σ h a h' e' a' w' → Q (exOf x) a' w') → c.wp P Q a w
  | 0, _, n, c, σ, h, e, a, w, x, h', e', g, r, he, Q, hq => by cases (show X.no 131 = .ok x h' e' from g)
  | f + 1, hcall, n, c, σ, h, e, a, w, x, h', e', g, r, he, Q, hq => by
    have ih := exec_ok T f (fun m hm => hcall m (Nat.lt_succ_of_lt hm))
    have g : execC (comp P n c) tab bt (exec f tab bt) h e = .ok x h' e' := g
    cases c with
    | skip =>
      cases (show X.ok .n h e = .ok x h' e' from g)
      exact wp_skip (hq _ _ ⟨σ, .refl _ _, r, he, rfl⟩)
    | ret =>
      cases (show X.ok .r h e = .ok x h' e' from g)
      exact wp_ret (hq _ _ ⟨σ, .refl _ _, r, he, rfl⟩)
    | exit i =>
      cases (show X.ok (.e i) h e = .ok x h' e' from g)
      exact wp_exit (hq _ _ ⟨σ, .refl _ _, r, he, rfl⟩)
    | seq c1 c2 =>
      refine wp_seq ?_
      rcases thenX_ok (show thenX (exec f tab bt (comp P n c1) h e) (exec f tab bt (comp P n c2)) = .ok x h' e' from g) with ⟨h1, e1, g1, g2⟩ | ⟨hne, g1⟩
      · refine ih n c1 σ h e a w _ h1 e1 g1 r he _ fun a1 w1 hk => ?_
        obtain ⟨σ1, k1, k2, k3, k4⟩ := hk.out
        refine ih n c2 σ1 h1 e1 a1 w1 _ h' e' g2 k2 k3 _ fun a2 w2 hk2 => hq _ _ ?_
        obtain ⟨σ2, l1, l2, l3, l4⟩ := hk2.out
        exact ⟨σ2, k1.trans l1, l2, l3, by rw [l4, k4]⟩
      · refine ih n c1 σ h e a w _ h' e' g1 r he _ fun a1 w1 hk => ?_
        have := hq a1 w1 hk
        cases x with
        | n => exact absurd rfl hne
        | e i => exact this
        | r => exact this
    | cond o c1 c2 =>
      simp only [comp] at g
      cases ho : opd P (.all n) o with
      | none => rw [ho] at g; cases (show X.no 138 = .ok x h' e' from g)
      | some o' =>
        rw [ho] at g
        obtain ⟨b, hb, g1⟩ := asBX_ok (show asBX (o'.v e) (exec f tab bt (comp P n c1) h e) (exec f tab bt (comp P n c2) h e) = .ok x h' e' from g)
        have hv := opd_sim r he ho
        rw [hb] at hv
        refine wp_cond hv.inv_b ?_
        cases b with
        | true => exact ih n c1 σ h e a w _ h' e' g1 r he _ hq
        | false => exact ih n c2 σ h e a w _ h' e' g1 r he _ hq
    | block i c1 =>
      refine wp_block ?_
      rcases outX_ok (show outX i (exec f tab bt (comp P n c1) h e) = .ok x h' e' from g) with ⟨g1, hne⟩ | ⟨rfl, g1⟩
      · refine ih n c1 σ h e a w _ h' e' g1 r he _ fun a1 w1 hk => ?_
        have := hq a1 w1 hk
        cases x with
        | n => exact this
        | e j => simp only [exOf, Exit.inBlock]; rw [if_neg (hne j rfl)]; exact this
        | r => exact this
      · refine ih n c1 σ h e a w _ h' e' g1 r he _ fun a1 w1 hk => ?_
        simp only [exOf, Exit.inBlock, if_pos]
        exact hq a1 w1 hk
    | loop c1 =>
      -- the rounds, by the fuel that is left
      let J : Nat → Act → World → Prop := fun m a' w' => m ≤ f + 1 ∧ ∃ σ' h1 e1, exec m tab bt (.loop (comp P n c1)) h1 e1 = .ok x h' e' ∧ Ext σ σ' h h1 ∧ Rel P σ' h1 (core w') ∧ EnvR σ' (.all n) e1 a'.tmps ∧ a'.defers = a.defers
      let μ : Act → World → Nat := fun a' w' => least fun m => J m a' w'
      refine wp_loop (fun a' w' => ∃ m, J m a' w') μ ⟨f + 1, Nat.le_refl _, σ, h, e, g, .refl _ _, r, he, rfl⟩ ?_
      intro a1 w1 hI
      obtain ⟨⟨hm, σ1, h1, e1, g1, x1, r1, he1, hd1⟩, _⟩ := least_spec hI
      have hm : μ a1 w1 ≤ f + 1 := hm
      have g1 : exec (μ a1 w1) tab bt (.loop (comp P n c1)) h1 e1 = .ok x h' e' := g1
      cases hfu : μ a1 w1 with
      | zero => rw [hfu] at g1; cases (show X.no 131 = .ok x h' e' from g1)
      | succ m =>
        rw [hfu] at g1 hm
        rcases thenX_ok (show thenX (exec m tab bt (comp P n c1) h1 e1) (exec m tab bt (.loop (comp P n c1))) = .ok x h' e' from g1) with ⟨h2, e2, g2, g3⟩ | ⟨hne, g2⟩
        · refine exec_ok T m (fun k hk => hcall k (by omega)) n c1 σ1 h1 e1 a1 w1 _ h2 e2 g2 r1 he1 _ fun a2 w2 hk => ?_
          obtain ⟨σ2, k1, k2, k3, k4⟩ := hk.out
          have hJ : J m a2 w2 := ⟨by omega, σ2, h2, e2, g3, x1.trans k1, k2, k3, by rw [k4, hd1]⟩
          refine ⟨⟨m, hJ⟩, ?_⟩
          have : μ a2 w2 ≤ m := (least_spec (⟨m, hJ⟩ : ∃ m, J m a2 w2)).2 m hJ
          omega
        · refine exec_ok T m (fun k hk => hcall k (by omega)) n c1 σ1 h1 e1 a1 w1 _ h' e' g2 r1 he1 _ fun a2 w2 hk => ?_
          obtain ⟨σ2, k1, k2, k3, k4⟩ := hk.out
          have := hq a2 w2 ⟨σ2, x1.trans k1, k2, k3, by rw [k4, hd1]⟩
          cases x with
          | n => exact absurd rfl hne
          | e i => exact this
          | r => exact this
    | region id ops b =>
      cases b with
      | false =>
        simp only [comp] at g
        cases hc : compPlain P n ops ops.toList with
        | none => rw [hc] at g; cases (show X.no 138 = .ok x h' e' from g)
        | some l =>
          rw [hc] at g
          obtain ⟨rfl, hw⟩ := plain_ok hc _ (hcall f (Nat.lt_succ_self f)) σ h e a w x h' e' (show steps l (callF tab bt (exec f tab bt)) h e = .ok x h' e' from g) r he
          exact hw Q id hq
      | true =>
        simp only [comp] at g
        cases hc : compDrawn P n ops with
        | none => rw [hc] at g; cases (show X.no 138 = .ok x h' e' from g)
        | some l =>
          rw [hc] at g
          obtain ⟨rfl, hw⟩ := T.drawn n ops l hc _ (hcall f (Nat.lt_succ_self f)) σ h e a w x h' e' (show steps l (callF tab bt (exec f tab bt)) h e = .ok x h' e' from g) r he
          exact hw Q id hq
    | _ => cases (show X.no 138 = .ok x h' e' from g)
  termination_by f => f

theorem compFn_fn {fn : Func} {c : AC} {rs : List RV} (h : compFn P fn = .fn c rs) : ∃ body, fn.body = some body ∧ (fn.name == "runtime.NumGoroutine") = false ∧ compRes P fn.ntmps fn.results.toList = some rs ∧ c = comp P fn.ntmps body := by
  unfold compFn at h
  split at h
  · split at h <;> cases h
  · rename_i body hb
    split at h
    · split at h
      · split at h <;> cases h
      · cases h
    · split at h
      · cases h
      · rename_i hn
        split at h
        · rename_i r hr
          cases h
          exact ⟨body, hb, by simpa using fun e => hn (.inr e), hr, rfl⟩
        · cases h
theorem resX_ok {x : X} {rs : List RV} {v : V} {h' : Hp} (g : resX x rs = .ok v h') : ∃ z h e, x = .ok z h e ∧ (z = .n ∨ z = .r) ∧ resl rs h e (fun r => resv r h) = .ok v h' := by
  cases x with
  | no c => cases (show R1.no c = .ok v h' from g)
  | ok z h e =>
    cases z with
    | n => exact ⟨_, h, e, rfl, .inl rfl, g⟩
    | e i => cases (show R1.no 129 = .ok v h' from g)
    | r => exact ⟨_, h, e, rfl, .inr rfl, g⟩

theorem enter_run {f : FuncId} {fn : Func} {c : Code} (hf : P.funcs[f]? = some fn) (hname : (fn.name == "runtime.NumGoroutine") = false) (hb : fn.body = some c) (args : Array Value) (w : World) :
    (callFunc f args).run P w = .ok (.enter f args) w := by
  have h1 : fn.name ≠ "runtime.NumGoroutine" := by simpa using hname
  simp [callFunc, hf, h1, hb]

theorem call_ok (T : Table P tab bt) (f : Nat) : CallOk P (callF tab bt (exec f tab bt)) := by
  induction f using Nat.strongRecOn with
  | _ f ih =>
    intro fx as h v h' g σ w args r hv
    rw [callF_eq] at g
    cases hE : entryOf tab fx with
    | no => rw [hE] at g; cases (show R1.no 130 = .ok v h' from g)
    | ext k => rw [hE] at g; exact T.ext fx k hE as h v h' g σ w args r hv
    | find m z => rw [hE] at g; exact T.find fx m z hE as h v h' g σ w args r hv
    | fn c rs =>
      rw [hE] at g
      obtain ⟨fn, hfn, hcomp⟩ := T.at' fx (by rw [hE]; simp)
      rw [hE] at hcomp
      obtain ⟨body, hb, hname, hres, rfl⟩ := compFn_fn hcomp
      obtain ⟨z, h1, e1, g1, hz, g2⟩ := resX_ok (show resX (exec f tab bt (comp P fn.ntmps body) h (entry as)) rs = .ok v h' from g)
      refine .inr (.inr ⟨fx.n, args, enter_run hfn hname hb args w, calls_of_wp hfn hb ?_⟩)
      refine exec_ok T f ih fn.ntmps body σ h (entry as) _ w z h1 e1 g1 r (entry_env hv fn.ntmps) _ fun a' w' hk => ?_
      obtain ⟨σ', k1, k2, k3, k4⟩ := hk.out
      obtain ⟨rfl, c, hc, hrun⟩ := results_ok hres g2 k2 k3
      rcases hz with rfl | rfl
      · exact ⟨k4, c, hrun, σ', k1, k2, hc⟩
      · exact ⟨k4, c, hrun, σ', k1, k2, hc⟩
end
end Go.Proofs.YtoipldpekiikjaaGreatDoor.Clo

namespace Go.Proofs.YtoipldpekiikjaaGreatDoor.Clo
set_option linter.all false

/-- Two answers are alike: each leaves its heap as it was. -/
def Sw (h1 h2 : Hp) (r1 r2 : R1) : Prop := ∀ v h', r1 = .ok v h' → h' = h1 ∧ r2 = .ok v h2
section
variable {h1 h2 : Hp}
theorem sw_ok (v : V) : Sw h1 h2 (.ok v h1) (.ok v h2) := fun _ _ e => by cases e; exact ⟨rfl, rfl⟩
theorem sw_no {c : Nat} {r : R1} : Sw h1 h2 (.no c) r := fun _ _ e => by cases e
theorem sw_bR {b : Bool} {x y x' y' : R1} (hx : Sw h1 h2 x x') (hy : Sw h1 h2 y y') : Sw h1 h2 (bR b x y) (bR b x' y') := by cases b <;> assumption
theorem sw_nR {n : Nat} {x x' : R1} {k k' : Nat → R1} (hx : Sw h1 h2 x x') (hk : ∀ m, Sw h1 h2 (k m) (k' m)) : Sw h1 h2 (nR n x k) (nR n x' k') := by cases n <;> first | exact hx | exact hk _
theorem sw_fo {n : Nat} {k k' : Nat → R1} (hk : ∀ m, Sw h1 h2 (k m) (k' m)) : Sw h1 h2 (fo n k) (fo n k') := by rw [fo_eq, fo_eq]; exact hk _
theorem sw_asB {x : V} {y z y' z' : R1} (hy : Sw h1 h2 y y') (hz : Sw h1 h2 z z') : Sw h1 h2 (asB x y z) (asB x y' z') := by
  cases x <;> first | exact sw_no | (rename_i b; cases b <;> first | exact hy | exact hz)
theorem sw_asI {x : V} {k k' : IntKind → Nat → R1} (hk : ∀ a b, Sw h1 h2 (k a b) (k' a b)) : Sw h1 h2 (asI x k) (asI x k') := by cases x <;> first | exact sw_no | exact hk _ _
theorem sw_asS {x : V} {k k' : Nat → Nat → R1} (hk : ∀ a b, Sw h1 h2 (k a b) (k' a b)) : Sw h1 h2 (asS x k) (asS x k') := by cases x <;> first | exact sw_no | exact hk _ _
theorem sw_asP {x : V} {k k' : Nm → Nat → R1} (hk : ∀ a b, Sw h1 h2 (k a b) (k' a b)) : Sw h1 h2 (asP x k) (asP x k') := by cases x <;> first | exact sw_no | exact hk _ _
theorem sw_asPP {x : V} {z z' : R1} {k k' : Nm → Nat → R1} (hz : Sw h1 h2 z z') (hk : ∀ a b, Sw h1 h2 (k a b) (k' a b)) : Sw h1 h2 (asPP x z k) (asPP x z' k') := by cases x <;> first | exact sw_no | exact hz | exact hk _ _
theorem sw_asSl {x : V} {y z y' z' : R1} {k k' : Nm → Nat → Nat → Nat → R1} (hy : Sw h1 h2 y y') (hz : Sw h1 h2 z z') (hk : ∀ a b c d, Sw h1 h2 (k a b c d) (k' a b c d)) : Sw h1 h2 (asSl x y z k) (asSl x y' z' k') := by
  cases x <;> first | exact sw_no | exact hy | exact hz | exact hk _ _ _ _
theorem sw_asZ {x : V} {z z' : R1} {k k' : Nat → V → R1} (hz : Sw h1 h2 z z') (hk : ∀ a b, Sw h1 h2 (k a b) (k' a b)) : Sw h1 h2 (asZ x z k) (asZ x z' k') := by cases x <;> first | exact sw_no | exact hz | exact hk _ _
theorem sw_asA {x : V} {k k' : List V → R1} (hk : ∀ a, Sw h1 h2 (k a) (k' a)) : Sw h1 h2 (asA x k) (asA x k') := by cases x <;> first | exact sw_no | exact hk _
theorem sw_asT {x : V} {k k' : List V → R1} (hk : ∀ a, Sw h1 h2 (k a) (k' a)) : Sw h1 h2 (asT x k) (asT x k') := by cases x <;> first | exact sw_no | exact hk _
theorem sw_asM {x : V} {k k' : Nm → R1} (hk : ∀ a, Sw h1 h2 (k a) (k' a)) : Sw h1 h2 (asM x k) (asM x k') := by cases x <;> first | exact sw_no | exact hk _
theorem sw_hdL {l : List V} {k k' : V → R1} (hk : ∀ a, Sw h1 h2 (k a) (k' a)) : Sw h1 h2 (hdL l k) (hdL l k') := by cases l <;> first | exact sw_no | exact hk _
theorem sw_takeC (n : Nat) : ∀ {l : List V} {k k' : List V → R1}, (∀ a, Sw h1 h2 (k a) (k' a)) → Sw h1 h2 (takeC n l k) (takeC n l k') := by
  induction n with
  | zero => intro l k k' hk; exact hk _
  | succ n ih =>
    intro l k k' hk
    cases l with
    | nil => exact sw_no
    | cons x l => exact ih fun a => hk _
theorem sw_overC (xs : List V) : ∀ {l : List V} {k k' : List V → R1}, (∀ a, Sw h1 h2 (k a) (k' a)) → Sw h1 h2 (overC xs l k) (overC xs l k') := by
  induction xs with
  | nil => intro l k k' hk; exact hk _
  | cons y ys ih =>
    intro l k k' hk
    cases l with
    | nil => exact sw_no
    | cons x l => exact ih fun a => hk _
theorem sw_putC (o : Nat) : ∀ {xs l : List V} {k k' : List V → R1}, (∀ a, Sw h1 h2 (k a) (k' a)) → Sw h1 h2 (putC o xs l k) (putC o xs l k') := by
  induction o with
  | zero => intro xs l k k' hk; exact sw_overC xs hk
  | succ n ih =>
    intro xs l k k' hk
    cases l with
    | nil => exact sw_no
    | cons x l => exact ih fun a => hk _
theorem sw_part {g : Bool} {o n : Nat} {l : List V} {k k' : V → R1} (hk : ∀ a, Sw h1 h2 (k a) (k' a)) : Sw h1 h2 (part g o n l k) (part g o n l k') := by
  cases g
  · exact sw_hdL hk
  · exact sw_takeC n fun a => hk _
theorem sw_idx {x : V} {k k' : Nat → R1} (hk : ∀ a, Sw h1 h2 (k a) (k' a)) : Sw h1 h2 (idx x k) (idx x k') := sw_asI fun _ _ => sw_bR (hk _) sw_no
theorem sw_okI {k : IntKind} {n : Nat} : Sw h1 h2 (okI k h1 n) (okI k h2 n) := sw_fo fun _ => sw_ok _
theorem sw_okB {b : Bool} : Sw h1 h2 (okB b h1) (okB b h2) := by cases b <;> exact sw_ok _
theorem sw_okN {b : Bool} : Sw h1 h2 (okN b h1) (okN b h2) := by cases b <;> exact sw_ok _
theorem sw_okL {n : Nat} : Sw h1 h2 (okL n h1) (okL n h2) := sw_bR (sw_ok _) sw_no
theorem sw_arith {f : Ar} {k : IntKind} {x y : Nat} : Sw h1 h2 (arith f k x y h1) (arith f k x y h2) := by
  cases f <;> first | exact sw_okI | exact sw_okB | exact sw_okN | exact sw_bR (sw_bR (sw_nR sw_no fun _ => sw_okI) sw_no) sw_no
theorem sw_anyCells {x : V} {k k' : List V → R1} (hk : ∀ a, Sw h1 h2 (k a) (k' a)) : Sw h1 h2 (anyCells x k) (anyCells x k') := by cases x <;> first | exact sw_no | exact hk _
theorem sw_fill (ps : List (Nat × Nat × O)) : ∀ {e : QE} {z : List V} {k k' : List V → R1}, (∀ a, Sw h1 h2 (k a) (k' a)) → Sw h1 h2 (fill ps e z k) (fill ps e z k') := by
  induction ps with
  | nil => intro e z k k' hk; exact hk _
  | cons p ps ih => intro e z k k' hk; exact sw_anyCells fun _ => sw_bR (sw_putC _ fun _ => ih hk) sw_no
theorem sw_vals {l : List O} {e : QE} {k k' : List V → R1} (hk : ∀ a, Sw h1 h2 (k a) (k' a)) : Sw h1 h2 (vals l e k) (vals l e k') := by rw [vals_eq, vals_eq]; exact hk _
theorem sw_optR {x : Option O} {z z' : R1} {k k' : O → R1} (hz : Sw h1 h2 z z') (hk : ∀ a, Sw h1 h2 (k a) (k' a)) : Sw h1 h2 (optR x z k) (optR x z' k') := by cases x <;> first | exact hz | exact hk _
theorem sw_slB {lo hi : Option O} {e : QE} {t : Nat} {k k' : Nat → Nat → R1} (hk : ∀ a b, Sw h1 h2 (k a b) (k' a b)) : Sw h1 h2 (slB lo hi e t k) (slB lo hi e t k') :=
  sw_optR (sw_optR (hk _ _) fun _ => sw_idx fun _ => sw_bR (hk _ _) sw_no) fun _ => sw_idx fun _ => sw_optR (hk _ _) fun _ => sw_idx fun _ => sw_bR (hk _ _) sw_no
theorem sw_peq {x y : V} {k k' : Bool → R1} (hk : ∀ a, Sw h1 h2 (k a) (k' a)) : Sw h1 h2 (peq x y k) (peq x y k') :=
  sw_asPP (sw_asPP (hk _) fun _ _ => hk _) fun _ _ => sw_asPP (hk _) fun _ _ => sw_bR (hk _) sw_no
theorem sw_eq1 {t : Nat} {x y : V} {k k' : Bool → R1} (hk : ∀ a, Sw h1 h2 (k a) (k' a)) : Sw h1 h2 (eq1 t x y k) (eq1 t x y k') := by
  match t with
  | 0 => exact sw_asB (sw_asB (hk _) (hk _)) (sw_asB (hk _) (hk _))
  | 1 => exact sw_asI fun _ _ => sw_asI fun _ _ => sw_bR (hk _) sw_no
  | 2 => exact sw_asS fun _ _ => sw_asS fun _ _ => sw_bR (hk _) (hk _)
  | _ + 3 => exact sw_peq hk
theorem sw_eqs (ks : List Nat) : ∀ {l l' : List V} {k k' : Bool → R1}, (∀ a, Sw h1 h2 (k a) (k' a)) → Sw h1 h2 (eqs ks l l' k) (eqs ks l l' k') := by
  induction ks with
  | nil => intro l l' k k' hk; cases l <;> cases l' <;> first | exact hk _ | exact sw_no
  | cons q ks ih => intro l l' k k' hk; exact sw_hdL fun _ => sw_hdL fun _ => sw_eq1 fun _ => sw_bR (ih hk) (hk _)
theorem sw_pickK (l : List (Nat × Nat)) : ∀ {t : Nat} {k k' : Nat → R1}, (∀ a, Sw h1 h2 (k a) (k' a)) → Sw h1 h2 (pickK l t k) (pickK l t k') := by
  induction l with
  | nil => intro t k k' hk; exact sw_no
  | cons p l ih => intro t k k' hk; exact sw_bR (hk _) (ih hk)
theorem sw_eqIf {n : Bool} {ts : List (Nat × Nat)} {x y : V} {k k' : Bool → R1} (hk : ∀ a, Sw h1 h2 (k a) (k' a)) : Sw h1 h2 (eqIf n ts x y k) (eqIf n ts x y k') :=
  sw_asZ (sw_asZ (sw_bR (hk _) sw_no) fun _ _ => hk _) fun _ _ => sw_asZ (hk _) fun _ _ => sw_bR (sw_pickK _ fun _ => sw_eq1 hk) (hk _)
theorem sw_eqNil {x y : V} {k k' : Bool → R1} (hk : ∀ a, Sw h1 h2 (k a) (k' a)) : Sw h1 h2 (eqNil x y k) (eqNil x y k') :=
  sw_asSl (sw_asSl (hk _) (hk _) fun _ _ _ _ => hk _) sw_no fun _ _ _ _ => sw_no
theorem sw_lenV {g : Bool} {x : V} : Sw h1 h2 (lenV g x h1) (lenV g x h2) := by
  cases g
  · exact sw_asSl (sw_ok _) (sw_ok _) fun _ _ _ _ => sw_okL
  · exact sw_asS fun _ _ => sw_okL

/-- What is neither loud, nor makes, nor looks does not look at the heap. -/
theorem free_go {ao : AO} (hl : ao.loud = false) (hm : ao.makes = false) (hk : ao.looks = false) (cf : CF) (e : QE) : Sw h1 h2 (ao.go cf h1 e) (ao.go cf h2 e) := by
  cases ao <;> first | (cases hl; done) | (cases hm; done) | (cases hk; done) | skip
  case mv => exact sw_ok _
  case pick => exact sw_asB (sw_ok _) (sw_ok _)
  case build => exact sw_fill _ fun _ => sw_ok _
  case nil => exact sw_asP fun _ _ => sw_ok _
  case ar => exact sw_asI fun _ _ => sw_asI fun _ _ => sw_bR sw_arith sw_no
  case shl => exact sw_asI fun _ _ => sw_idx fun _ => sw_bR (sw_ok _) sw_okI
  case shr => exact sw_asI fun _ _ => sw_bR (sw_idx fun _ => sw_bR (sw_ok _) sw_okI) sw_no
  case sadd => exact sw_asS fun _ _ => sw_asS fun _ _ => sw_fo fun _ => sw_fo fun _ => sw_bR (sw_ok _) sw_no
  case seq => exact sw_asS fun _ _ => sw_asS fun _ _ => sw_bR sw_okB (sw_ok _)
  case sne => exact sw_asS fun _ _ => sw_asS fun _ _ => sw_bR sw_okN (sw_ok _)
  case qeq x y => exact (show Sw h1 h2 (peq (x.v e) (y.v e) fun r => okB r h1) (peq (x.v e) (y.v e) fun r => okB r h2) from sw_peq fun _ => sw_okB)
  case qne x y => exact (show Sw h1 h2 (peq (x.v e) (y.v e) fun r => okN r h1) (peq (x.v e) (y.v e) fun r => okN r h2) from sw_peq fun _ => sw_okN)
  case ieq n ts x y => exact (show Sw h1 h2 (eqIf n ts (x.v e) (y.v e) fun r => okB r h1) (eqIf n ts (x.v e) (y.v e) fun r => okB r h2) from sw_eqIf fun _ => sw_okB)
  case ine n ts x y => exact (show Sw h1 h2 (eqIf n ts (x.v e) (y.v e) fun r => okN r h1) (eqIf n ts (x.v e) (y.v e) fun r => okN r h2) from sw_eqIf fun _ => sw_okN)
  case geq x y => exact (show Sw h1 h2 (eqNil (x.v e) (y.v e) fun r => okB r h1) (eqNil (x.v e) (y.v e) fun r => okB r h2) from sw_eqNil fun _ => sw_okB)
  case gne x y => exact (show Sw h1 h2 (eqNil (x.v e) (y.v e) fun r => okN r h1) (eqNil (x.v e) (y.v e) fun r => okN r h2) from sw_eqNil fun _ => sw_okN)
  case aeq => exact sw_asA fun _ => sw_asA fun _ => sw_eqs _ fun _ => sw_okB
  case ane => exact sw_asA fun _ => sw_asA fun _ => sw_eqs _ fun _ => sw_okN
  case not => exact sw_asB (sw_ok _) (sw_ok _)
  case cvt => exact sw_asI fun _ _ => sw_bR sw_okI sw_okI
  case mkif => exact sw_ok _
  case mkfn => exact sw_vals fun _ => sw_vals fun _ => sw_ok _
  case sls => exact sw_asS fun _ _ => sw_slB fun _ _ => sw_bR (sw_fo fun _ => sw_fo fun _ => sw_ok _) sw_no
  case fa => exact sw_asP fun _ _ => sw_fo fun _ => sw_ok _
  case fld => exact sw_asA fun _ => sw_part fun _ => sw_ok _
  case iap => exact sw_asP fun _ _ => sw_idx fun _ => sw_bR (sw_fo fun _ => sw_ok _) sw_no
  case ias => exact sw_asSl sw_no sw_no fun _ _ _ _ => sw_idx fun _ => sw_bR (sw_fo fun _ => sw_ok _) sw_no
  case ixs => exact sw_asS fun _ _ => sw_idx fun _ => sw_bR sw_okI sw_no
  case ixa => exact sw_asA fun _ => sw_idx fun _ => sw_bR (sw_part fun _ => sw_ok _) sw_no
  case tas t z x => cases z <;> exact sw_asZ sw_no fun _ _ => sw_bR (sw_ok _) (by first | exact sw_no | exact sw_ok _)
  case ext => exact sw_asT fun _ => sw_hdL fun _ => sw_ok _
  case len => exact sw_lenV
  case cap => exact sw_asSl (sw_ok _) sw_no fun _ _ _ _ => sw_nR sw_no fun _ => sw_okL
  case max => exact sw_asI fun _ _ => sw_asI fun _ _ => sw_bR (sw_bR (sw_ok _) (sw_ok _)) sw_no
  case min => exact sw_asI fun _ _ => sw_asI fun _ _ => sw_bR (sw_bR (sw_ok _) (sw_ok _)) sw_no
  case usd => exact sw_asSl sw_no sw_no fun _ _ _ _ => sw_nR (sw_nR sw_no fun _ => sw_ok _) fun _ => sw_nR sw_no fun _ => sw_ok _

/-- The one heap holds what the other holds. -/
def Grow (h1 h2 : Hp) : Prop := ∀ x, h1.get x ≠ .dead → h2.get x = h1.get x
theorem sw_cl (hg : Grow h1 h2) {x : Nm} {k k' : Nat → BS → Nat → Nat → List V → R1} (hk : ∀ a b c d l, Sw h1 h2 (k a b c d l) (k' a b c d l)) : Sw h1 h2 (h1.cl x k) (h2.cl x k') := by
  unfold Hp.cl
  have := hg x
  cases hb : h1.get x with
  | dead => exact sw_no
  | cl t st fz n l => rw [this (by rw [hb]; simp), hb]; exact hk _ _ _ _ _
  | mp l => exact sw_no
  | it a b c => exact sw_no
theorem sw_mp (hg : Grow h1 h2) {x : Nm} {k k' : List (V × V) → R1} (hk : ∀ l, Sw h1 h2 (k l) (k' l)) : Sw h1 h2 (h1.mp x k) (h2.mp x k') := by
  unfold Hp.mp
  have := hg x
  cases hb : h1.get x with
  | dead => exact sw_no
  | cl t st fz n l => exact sw_no
  | mp l => rw [this (by rw [hb]; simp), hb]; exact hk _
  | it a b c => exact sw_no
theorem sw_mapFind (l : List (V × V)) {q : IntKind} {n : Nat} {k k' : V → R1} (hk : ∀ a, Sw h1 h2 (k a) (k' a)) : Sw h1 h2 (mapFind l q n k) (mapFind l q n k') := by
  induction l with
  | nil => exact sw_no
  | cons p l ih => exact sw_asI fun _ _ => sw_bR (sw_bR (hk _) ih) sw_no
theorem sw_cutC {m : Nat} {q : Nm} {o a b c : Nat} : Sw h1 h2 (cutC m q o a b c h1) (cutC m q o a b c h2) :=
  sw_fo fun _ => sw_fo fun _ => sw_nR (sw_ok _) fun _ => sw_fo fun _ => sw_ok _
theorem sw_cutO {t t' m : Nat} {q : Nm} {o a b n : Nat} : Sw h1 h2 (cutO t t' m q o a b n h1) (cutO t t' m q o a b n h2) :=
  sw_bR (sw_bR (sw_nR (sw_ok _) fun _ => sw_bR (sw_fo fun _ => sw_fo fun _ => sw_ok _) (sw_bR (sw_ok _) sw_no)) sw_no) sw_no
theorem sw_stC {st : BS} {x x' : R1} (hx : Sw h1 h2 x x') : Sw h1 h2 (stC st x) (stC st x') := by cases st <;> first | exact hx | exact sw_no

/-- What looks sees in the greater heap what it sees in the smaller. -/
theorem look_go (hg : Grow h1 h2) {ao : AO} (hk : ao.looks = true) (cf : CF) (e : QE) : Sw h1 h2 (ao.go cf h1 e) (ao.go cf h2 e) := by
  cases ao <;> first | (cases hk; done) | skip
  case ld => exact sw_asP fun _ _ => sw_cl hg fun _ _ _ _ _ => sw_part fun _ => sw_ok _
  case unp => exact sw_asP fun _ _ => sw_cl hg fun _ _ _ _ _ => sw_nR (sw_bR (sw_stC (sw_bR (sw_ok _) sw_no)) sw_no) fun _ => sw_no
  case sll t m x lo hi mx =>
    exact sw_optR (sw_asSl (sw_slB fun _ _ => sw_nR (sw_nR (sw_ok _) fun _ => sw_no) fun _ => sw_no) sw_no fun _ _ _ _ => sw_slB fun _ _ => sw_nR (sw_cl hg fun _ _ _ _ _ => sw_cutO) fun _ => sw_bR sw_cutC sw_no)
      fun _ => sw_asSl sw_no sw_no fun _ _ _ _ => sw_idx fun _ => sw_nR (sw_cl hg fun _ _ _ _ _ => sw_bR (sw_bR (sw_slB fun _ _ => sw_bR sw_cutC sw_no) sw_no) sw_no)
        fun _ => sw_bR (sw_slB fun _ _ => sw_bR sw_cutC sw_no) sw_no
  case lk => exact sw_asM fun _ => sw_asI fun _ _ => sw_mp hg fun _ => sw_mapFind _ fun _ => sw_ok _
end
end Go.Proofs.YtoipldpekiikjaaGreatDoor.Clo

namespace Go.Proofs.YtoipldpekiikjaaGreatDoor.Clo
set_option linter.all false

mutual
theorem V.beq_eq : ∀ {u v : V}, V.beq u v = true → u = v
  | .b x, v, h => by
    cases v <;> simp only [V.beq] at h <;> first | (cases h; done) | skip
    rename_i y
    cases x <;> cases y <;> first | rfl | cases h
  | .i k n, v, h => by
    cases v <;> simp only [V.beq, Bool.and_eq_true, decide_eq_true_eq] at h <;> first | (cases h; done) | skip
    obtain ⟨rfl, h⟩ := h
    rw [Nat.eq_of_beq_eq_true h]
  | .s l n, v, h => by
    cases v <;> simp only [V.beq, Bool.and_eq_true] at h <;> first | (cases h; done) | skip
    rw [Nat.eq_of_beq_eq_true h.1, Nat.eq_of_beq_eq_true h.2]
  | .p0, v, h => by cases v <;> first | rfl | (cases h; done)
  | .p x o, v, h => by
    cases v <;> simp only [V.beq, Bool.and_eq_true, decide_eq_true_eq] at h <;> first | (cases h; done) | skip
    obtain ⟨rfl, h⟩ := h
    rw [Nat.eq_of_beq_eq_true h]
  | .s0, v, h => by cases v <;> first | rfl | (cases h; done)
  | .se, v, h => by cases v <;> first | rfl | (cases h; done)
  | .sl x o l c, v, h => by
    cases v <;> simp only [V.beq, Bool.and_eq_true, decide_eq_true_eq] at h <;> first | (cases h; done) | skip
    obtain ⟨⟨⟨rfl, h1⟩, h2⟩, h3⟩ := h
    rw [Nat.eq_of_beq_eq_true h1, Nat.eq_of_beq_eq_true h2, Nat.eq_of_beq_eq_true h3]
  | .m0, v, h => by cases v <;> first | rfl | (cases h; done)
  | .m x, v, h => by
    cases v <;> simp only [V.beq, decide_eq_true_eq] at h <;> first | (cases h; done) | skip
    rw [h]
  | .f0, v, h => by cases v <;> first | rfl | (cases h; done)
  | .f _ _ _, v, h => by cases v <;> (cases h; done)
  | .u, v, h => by cases v <;> (cases h; done)
  | .z0, v, h => by cases v <;> first | rfl | (cases h; done)
  | .z y x, v, h => by
    cases v <;> simp only [V.beq, Bool.and_eq_true] at h <;> first | (cases h; done) | skip
    rw [Nat.eq_of_beq_eq_true h.1, V.beq_eq h.2]
  | .a l, v, h => by
    cases v <;> simp only [V.beq] at h <;> first | (cases h; done) | skip
    rw [V.beqs_eq h]
  | .t l, v, h => by
    cases v <;> simp only [V.beq] at h <;> first | (cases h; done) | skip
    rw [V.beqs_eq h]
theorem V.beqs_eq : ∀ {l l' : List V}, V.beq.beqs l l' = true → l = l'
  | [], l', h => by cases l' <;> first | rfl | (cases h; done)
  | x :: l, l', h => by
    cases l' <;> simp only [V.beq.beqs, Bool.and_eq_true] at h <;> first | (cases h; done) | skip
    rw [V.beq_eq h.1, V.beqs_eq h.2]
end
theorem Blk.beq_eq {x y : Blk} (h : Blk.beq x y = true) : x = y := by
  unfold Blk.beq at h
  split at h
  · simp only [Bool.and_eq_true] at h
    rw [Nat.eq_of_beq_eq_true h.1.1, Nat.eq_of_beq_eq_true h.1.2, V.beqs_eq h.2]
  · rfl
  · cases h

/-- A float, looked at again. -/
def AgainOk (ops : Array Oper) (cf : CF) (o : Oper) (a : AO) (h : Hp) (e : QE) : Prop :=
  (Wants ops e o true ∧ ∃ d, o.dst = some d ∧ (if a.makes then freshly a (e.at d) h e = true else ∃ h', a.go cf h e = .ok (e.at d) h')) ∨ Wants ops e o false

theorem sameK_ok {d : Nat} {k : Hp → QE → X} {h : Hp} {e : QE} {r : R1} {x : Ex} {h' : Hp} {e' : QE} (g : sameK (dig d) k h e r = .ok x h' e') : (∃ h2, r = .ok (e.at d) h2) ∧ k h e = .ok x h' e' := by
  unfold sameK at g
  split at g
  · rename_i v h2
    split at g
    · rename_i hb
      exact ⟨⟨h2, by rw [V.beq_eq hb]; rfl⟩, g⟩
    · cases g
  · cases g
theorem freshK_ok {d : Nat} {k : Hp → QE → X} {a : AO} {h : Hp} {e : QE} {x : Ex} {h' : Hp} {e' : QE} (g : freshK (dig d) k a h e = .ok x h' e') : freshly a (e.at d) h e = true ∧ k h e = .ok x h' e' := by
  unfold freshK at g
  split at g
  · rename_i hb; exact ⟨hb, g⟩
  · cases g
theorem look_ok {ops : Array Oper} {n : Nat} {o : Oper} {a : AO} {s : AS} (hs : lookOf ops n o a = some s) {cf : CF} {k : Hp → QE → X} {h : Hp} {e : QE} {x : Ex} {h' : Hp} {e' : QE}
    (g : s.go cf k h e = .ok x h' e') : AgainOk ops cf o a h e ∧ k h e = .ok x h' e' := by
  unfold lookOf at hs
  simp only [Option.bind_eq_bind, Option.bind_eq_some_iff] at hs
  obtain ⟨gg, hg, d, hd, hs⟩ := hs
  obtain ⟨rfl, hdst⟩ := dd_ok hd
  cases hd' : o.dst with
  | none =>
    rw [hd'] at hs
    rcases gd_ok hg with ⟨hn, rfl⟩ | ⟨j, w, t, hgu, ht, h2, rfl⟩ <;> cases hs
  | some d =>
    rw [hd'] at hs
    rcases gd_ok hg with ⟨hn, rfl⟩ | ⟨j, w, t, hgu, ht, h2, rfl⟩
    · cases hm : a.makes with
      | true =>
        simp only [hm, Option.map_some, if_true, Option.some.injEq] at hs
        subst hs
        obtain ⟨g1, g2⟩ := freshK_ok (show freshK (dig d) k a h e = .ok x h' e' from g)
        exact ⟨.inl ⟨by simp [Wants, hn], d, hd', by rw [hm, if_pos rfl]; exact g1⟩, g2⟩
      | false =>
        simp only [hm, Option.map_some, Bool.false_eq_true, if_false, Option.some.injEq] at hs
        subst hs
        obtain ⟨g1, g2⟩ := sameK_ok (show sameK (dig d) k h e (a.go cf h e) = .ok x h' e' from g)
        exact ⟨.inl ⟨by simp [Wants, hn], d, hd', by rw [hm]; simpa using g1⟩, g2⟩
    · cases hm : a.makes with
      | true =>
        simp only [hm, Option.map_some, if_true, Option.some.injEq] at hs
        subst hs
        rcases asG_ok (show asG (e.at t) w (freshK (dig d) k a h e) (k h e) = .ok x h' e' from g) with ⟨hz, g1⟩ | ⟨hz, g1⟩
        · obtain ⟨g1, g2⟩ := freshK_ok g1
          exact ⟨.inl ⟨by simp only [Wants, hgu]; exact ⟨t, ht, h2, by simpa using hz⟩, d, hd', by rw [hm, if_pos rfl]; exact g1⟩, g2⟩
        · exact ⟨.inr (by simp only [Wants, hgu]; exact ⟨t, ht, h2, by simpa using hz⟩), g1⟩
      | false =>
        simp only [hm, Option.map_some, Bool.false_eq_true, if_false, Option.some.injEq] at hs
        subst hs
        rcases asG_ok (show asG (e.at t) w (sameK (dig d) k h e (a.go cf h e)) (k h e) = .ok x h' e' from g) with ⟨hz, g1⟩ | ⟨hz, g1⟩
        · obtain ⟨g1, g2⟩ := sameK_ok g1
          exact ⟨.inl ⟨by simp only [Wants, hgu]; exact ⟨t, ht, h2, by simpa using hz⟩, d, hd', by rw [hm]; simpa using g1⟩, g2⟩
        · exact ⟨.inr (by simp only [Wants, hgu]; exact ⟨t, ht, h2, by simpa using hz⟩), g1⟩

theorem looks_ok {ops : Array Oper} {n : Nat} {cf : CF} {stand : OI → Nat → Bool} : ∀ {l : List (Nat × OI)} {more rest : List AS},
    l.mapM (fun y => if stand y.2 y.1 then lookOf ops n y.2.o y.2.a else none) = some more → ∀ {h : Hp} {e : QE} {x : Ex} {h' : Hp} {e' : QE}, steps (more ++ rest) cf h e = .ok x h' e' →
    steps rest cf h e = .ok x h' e' ∧ ∀ y ∈ l, stand y.2 y.1 = true ∧ AgainOk ops cf y.2.o y.2.a h e
  | [], more, rest, hm, h, e, x, h', e', g => by
    simp only [List.mapM_nil] at hm
    cases hm
    exact ⟨g, fun y hy => by cases hy⟩
  | y :: l, more, rest, hm, h, e, x, h', e', g => by
    simp only [List.mapM_cons, Option.bind_eq_bind, Option.bind_eq_some_iff] at hm
    obtain ⟨s, hs, more', hm', hp⟩ := hm
    cases hp
    split at hs
    · rename_i hst
      obtain ⟨h1, g1⟩ := look_ok hs (show s.go cf (steps (more' ++ rest) cf) h e = .ok x h' e' from g)
      obtain ⟨g2, h2⟩ := looks_ok hm' g1
      refine ⟨g2, fun z hz => ?_⟩
      cases hz with
      | head => exact ⟨hst, h1⟩
      | tail _ hz => exact h2 z hz
    · cases hs

structure StepAt (ops : Array Oper) (n : Nat) (cf : CF) (L : List (Nat × OI)) (S : Nat → Hp × QE) (p : Nat) (x : OI) : Prop where
  dst : ∀ t, x.o.dst = some t → t < n ∧ t < 256
  grd : ∀ j w t, x.o.guard = some (j, w) → (ops[j]?).bind (·.dst) = some t → t < 256
  one : OneOk ops cf x.o x.a (S p).1 (S p).2 (S (p + 1)).1 (S (p + 1)).2
  again : x.a.loud = true → ∀ q j y, q < p → L[q]? = some (j, y) → (y.a.makes = true ∨ y.a.looks = true) → x.bef.testBit j = false →
    (∀ r k z, q ≤ r → r ≤ p → L[r]? = some (k, z) → ∀ d, z.o.dst = some d → d ∉ y.reads) ∧ AgainOk ops cf y.o y.a (S (p + 1)).1 (S (p + 1)).2

theorem dropWhile_mem {α : Type} (f : α → Bool) : ∀ (l : List α) (q r : Nat) (a b : α), l[q]? = some a → f a = false → q ≤ r → l[r]? = some b → b ∈ l.dropWhile f
  | [], q, r, a, b, hq, _, _, _ => by cases hq
  | c :: l, q, r, a, b, hq, hf, hr, hb => by
    rw [List.dropWhile_cons]
    split
    · rename_i hc
      cases q with
      | zero => cases hq; rw [hf] at hc; cases hc
      | succ q =>
        cases r with
        | zero => omega
        | succ r => exact dropWhile_mem f l q r a b hq hf (by omega) hb
    · exact List.mem_of_getElem? hb

theorem walk_trace {ops : Array Oper} {n : Nat} {cf : CF} : ∀ (c pre : List (Nat × OI)) (as : List AS), walk ops n pre c = some as → ∀ (h : Hp) (e : QE) (x : Ex) (h' : Hp) (e' : QE), steps as cf h e = .ok x h' e' →
    x = .n ∧ ∃ S : Nat → Hp × QE, S pre.length = (h, e) ∧ S (pre.length + c.length) = (h', e') ∧ ∀ p i y, pre.length ≤ p → (pre ++ c)[p]? = some (i, y) → StepAt ops n cf (pre ++ c) S p y
  | [], pre, as, hw, h, e, x, h', e', g => by
    cases hw
    cases (show X.ok .n h e = .ok x h' e' from g)
    refine ⟨rfl, fun _ => (h, e), rfl, rfl, fun p i y hp hy => ?_⟩
    rw [List.append_nil, List.getElem?_eq_none hp] at hy
    cases hy
  | (i0, x0) :: l, pre, as, hw, h, e, x, h', e', g => by
    simp only [walk, Option.bind_eq_bind, Option.bind_eq_some_iff, Option.some.injEq] at hw
    obtain ⟨s, hs, more, hm, rest, hr, rfl⟩ := hw
    have hgd : ∀ j w t, x0.o.guard = some (j, w) → (ops[j]?).bind (·.dst) = some t → t < 256 := by
      intro j w t hg ht
      unfold stepOf at hs
      simp only [Option.bind_eq_bind, Option.bind_eq_some_iff] at hs
      obtain ⟨gg, hgg, _⟩ := hs
      rcases gd_ok hgg with ⟨hn, _⟩ | ⟨j', w', t', h3, h4, h5, _⟩
      · rw [hg] at hn; cases hn
      · rw [hg] at h3; cases h3; rw [ht] at h4; cases h4; exact h5
    obtain ⟨hd, h1, e1, ho, g1⟩ := step_ok hs (show s.go cf (steps (more ++ rest) cf) h e = .ok x h' e' from g)
    have key : steps rest cf h1 e1 = .ok x h' e' ∧ (x0.a.loud = true → ∀ y ∈ opens x0 pre, stands (pre ++ [(i0, x0)]) y.2 y.1 = true ∧ AgainOk ops cf y.2.o y.2.a h1 e1) := by
      cases hl : x0.a.loud with
      | true =>
        rw [hl, if_pos rfl] at hm
        obtain ⟨g2, h2⟩ := looks_ok hm g1
        exact ⟨g2, fun _ => h2⟩
      | false =>
        rw [hl] at hm
        cases hm
        exact ⟨g1, fun hh => by cases hh⟩
    obtain ⟨g2, hopen⟩ := key
    obtain ⟨hx, S, hS1, hS2, hS3⟩ := walk_trace l (pre ++ [(i0, x0)]) rest hr h1 e1 x h' e' g2
    have hlen : (pre ++ [(i0, x0)]).length = pre.length + 1 := by simp
    have happ : pre ++ [(i0, x0)] ++ l = pre ++ (i0, x0) :: l := by simp
    rw [hlen] at hS1 hS2 hS3
    rw [happ] at hS3
    refine ⟨hx, fun p => if p = pre.length then (h, e) else S p, by simp, ?_, fun p i y hp hy => ?_⟩
    · have : pre.length + ((i0, x0) :: l).length = pre.length + 1 + l.length := by simp; omega
      rw [this]
      dsimp only
      rw [if_neg (by omega)]
      exact hS2
    · have hp1 : p + 1 ≠ pre.length := by omega
      by_cases hpe : p = pre.length
      · subst hpe
        have : (pre ++ (i0, x0) :: l)[pre.length]? = some (i0, x0) := by simp
        rw [this] at hy
        cases hy
        refine ⟨hd, hgd, ?_, ?_⟩
        · rw [if_pos rfl, if_neg (by omega), hS1]
          exact ho
        · intro hl q j z hq hz hmk hbit
          rw [if_neg (by omega), hS1]
          have hzpre : pre[q]? = some (j, z) := by rw [List.getElem?_append_left hq] at hz; exact hz
          have hmem : (j, z) ∈ opens x0 pre := by
            refine List.mem_filter.2 ⟨List.mem_of_getElem? hzpre, ?_⟩
            simp only [hbit, Bool.not_false, Bool.and_true, Bool.or_eq_true]
            exact hmk
          obtain ⟨hst, hag⟩ := hopen hl _ hmem
          refine ⟨fun r k u hqr hr' hu d hdu hdr => ?_, hag⟩
          unfold stands at hst
          have hpre : (pre ++ [(i0, x0)])[r]? = some (k, u) := by
            rw [← happ, List.getElem?_append_left (by rw [hlen]; omega)] at hu
            exact hu
          have hpq : (pre ++ [(i0, x0)])[q]? = some (j, z) := by rw [List.getElem?_append_left hq]; exact hzpre
          have hmem2 := dropWhile_mem (fun z : Nat × OI => z.1 != j) (pre ++ [(i0, x0)]) q r _ _ hpq (by simp) hqr hpre
          have := List.all_eq_true.1 hst _ hmem2
          simp only [hdu] at this
          have hcon : z.reads.contains d = true := by simpa using hdr
          rw [hcon] at this
          cases this
      · have h3 := hS3 p i y (by omega) hy
        refine ⟨h3.dst, h3.grd, ?_, ?_⟩
        · rw [if_neg hpe, if_neg hp1]
          exact h3.one
        · rw [if_neg hp1]
          exact h3.again
end Go.Proofs.YtoipldpekiikjaaGreatDoor.Clo

namespace Go.Proofs.YtoipldpekiikjaaGreatDoor.Clo
set_option linter.all false

def befG (acc : Array Nat) (o : Oper) : Nat := o.after.foldl (fun s e => if Region.binds .any e then s ||| 2 ^ e.on ||| acc.getD e.on 0 else s) 0
theorem befG_bit (acc : Array Nat) (j : Nat) : ∀ (l : List Edge) (s : Nat), (l.foldl (fun s e => if Region.binds .any e then s ||| 2 ^ e.on ||| acc.getD e.on 0 else s) s).testBit j = true ↔
    s.testBit j = true ∨ ∃ e ∈ l, Region.binds .any e = true ∧ (e.on = j ∨ (acc.getD e.on 0).testBit j = true)
  | [], s => by simp
  | e :: l, s => by
    rw [List.foldl_cons, befG_bit acc j l]
    by_cases hb : Region.binds .any e = true
    · simp only [hb, if_true, Nat.testBit_or, Bool.or_eq_true, Nat.testBit_two_pow, decide_eq_true_eq, List.mem_cons, exists_eq_or_imp, true_and]
      constructor
      · rintro (((h | h) | h) | h)
        · exact .inl h
        · exact .inr (.inl (.inl h))
        · exact .inr (.inl (.inr h))
        · exact .inr (.inr h)
      · rintro (h | (h | h) | h)
        · exact .inl (.inl (.inl h))
        · exact .inl (.inl (.inr h))
        · exact .inl (.inr h)
        · exact .inr h
    · simp [hb]
theorem before_go : ∀ (l : List Oper) (acc : Array Nat), let R := l.foldl (fun acc o => acc.push (befG acc o)) acc
    (∀ i, i < acc.size → R[i]? = acc[i]?) ∧ ∀ k o, l[k]? = some o → ∃ acc' : Array Nat, acc'.size = acc.size + k ∧ (∀ i, i < acc'.size → R[i]? = acc'[i]?) ∧ R[acc.size + k]? = some (befG acc' o)
  | [], acc => by simp
  | o :: l, acc => by
    intro R
    obtain ⟨h1, h2⟩ := before_go l (acc.push (befG acc o))
    refine ⟨fun i hi => ?_, fun k o' hk => ?_⟩
    · show (l.foldl _ (acc.push (befG acc o)))[i]? = _
      rw [h1 i (by simp; omega), Array.getElem?_push]
      rw [if_neg (by omega)]
    · cases k with
      | zero =>
        cases hk
        refine ⟨acc, rfl, fun i hi => ?_, ?_⟩
        · show (l.foldl _ (acc.push (befG acc o)))[i]? = _
          rw [h1 i (by simp; omega), Array.getElem?_push, if_neg (by omega)]
        · show (l.foldl _ (acc.push (befG acc o)))[acc.size + 0]? = _
          rw [h1 _ (by simp)]
          simp
      | succ k =>
        obtain ⟨acc', a1, a2, a3⟩ := h2 k o' hk
        simp only [Array.size_push] at a1 a3
        refine ⟨acc', by omega, a2, ?_⟩
        rw [show acc.size + (k + 1) = acc.size + 1 + k by omega]
        exact a3
theorem before_bit {ops : Array Oper} {i : Nat} {o : Oper} (ho : ops[i]? = some o) (j : Nat) : ((Region.before ops).getD i 0).testBit j = true →
    ∃ e ∈ o.after.toList, Region.binds .any e = true ∧ (e.on = j ∨ ((Region.before ops).getD e.on 0).testBit j = true) := by
  intro hb
  have hR : Region.before ops = ops.toList.foldl (fun acc o => acc.push (befG acc o)) #[] := by
    unfold Region.before
    rw [← Array.foldl_toList]; rfl
  obtain ⟨_, h2⟩ := before_go ops.toList #[]
  obtain ⟨acc', a1, a2, a3⟩ := h2 i o (by rw [Array.getElem?_toList]; exact ho)
  rw [← hR] at a2 a3
  simp only [List.size_toArray, List.length_nil, Nat.zero_add] at a1 a3
  have hget : ∀ (A : Array Nat) (k : Nat), A.getD k 0 = (A[k]?).getD 0 := fun A k => by simp [Array.getD_eq_getD_getElem?]
  rw [hget, a3, Option.getD_some, befG, ← Array.foldl_toList, befG_bit] at hb
  rcases hb with hb | ⟨e, he, hbi, hh⟩
  · simp at hb
  · refine ⟨e, he, hbi, hh.imp id fun h => ?_⟩
    rw [hget] at h ⊢
    by_cases hlt : e.on < acc'.size
    · rw [a2 _ hlt]; exact h
    · rw [Array.getElem?_eq_none (by omega)] at h; simp at h
theorem before_direct {ops : Array Oper} {i : Nat} {o : Oper} (ho : ops[i]? = some o) {e : Edge} (he : e ∈ o.after.toList) (hb : Region.binds .any e = true) : ((Region.before ops).getD i 0).testBit e.on = true := by
  have hR : Region.before ops = ops.toList.foldl (fun acc o => acc.push (befG acc o)) #[] := by
    unfold Region.before
    rw [← Array.foldl_toList]; rfl
  obtain ⟨_, h2⟩ := before_go ops.toList #[]
  obtain ⟨acc', a1, a2, a3⟩ := h2 i o (by rw [Array.getElem?_toList]; exact ho)
  rw [← hR] at a2 a3
  simp only [List.size_toArray, List.length_nil, Nat.zero_add] at a1 a3
  have hget : ∀ (A : Array Nat) (k : Nat), A.getD k 0 = (A[k]?).getD 0 := fun A k => by simp [Array.getD_eq_getD_getElem?]
  rw [hget, a3, Option.getD_some, befG, ← Array.foldl_toList, befG_bit]
  exact .inr ⟨e, he, hb, .inl rfl⟩

theorem early_mem {l : List (Nat × OI)} : ∀ (f d : Nat) (acc : List (Nat × OI)) (z : Nat × OI), z ∈ early l f d acc → z ∈ l ∨ z ∈ acc
  | 0, d, acc, z, h => .inr (by simpa [early] using h)
  | f + 1, d, acc, z, h => by
    simp only [early] at h
    split at h
    · rename_i x hx
      rcases early_mem f _ _ z h with h | h
      · exact .inl h
      · cases h with
        | head => exact .inl (List.mem_of_find?_eq_some hx)
        | tail _ h => exact .inr h
    · split at h
      · rename_i x hx
        rcases early_mem f _ _ z h with h | h
        · exact .inl h
        · cases h with
          | head => exact .inl (List.mem_of_find?_eq_some hx)
          | tail _ h => exact .inr h
      · exact .inr (by simpa using h)

theorem befOk_spec : ∀ (l : List (Nat × OI)) (m full : Nat), befOk l m full = true →
    (∀ (p i : Nat) (x : OI), l[p]? = some (i, x) → m.testBit i = false ∧ (∀ j, x.bef.testBit j = true → m.testBit j = true ∨ ∃ (q : Nat) (y : OI), q < p ∧ l[q]? = some (j, y)) ∧ ∀ (q : Nat) (y : OI), q < p → l[q]? ≠ some (i, y)) ∧
    ∀ j, full.testBit j = true → m.testBit j = true ∨ ∃ (q : Nat) (y : OI), l[q]? = some (j, y)
  | [], m, full, h => by
    have : m = full := by simpa [befOk] using h
    subst this
    exact ⟨fun p i x hx => (by cases hx), fun j hj => .inl hj⟩
  | (i0, x0) :: l, m, full, h => by
    simp only [befOk, Bool.and_eq_true, Bool.not_eq_true', beq_iff_eq] at h
    obtain ⟨⟨h1, h2⟩, h3⟩ := h
    obtain ⟨k1, k2⟩ := befOk_spec l _ full h3
    refine ⟨fun p i x hx => ?_, fun j hj => ?_⟩
    · cases p with
      | zero =>
        cases hx
        refine ⟨h2, fun j hj => .inl ?_, fun q y hq => by omega⟩
        rw [← h1, Nat.testBit_and, Bool.and_eq_true] at hj
        exact hj.2
      | succ p =>
        obtain ⟨a1, a2, a3⟩ := k1 p i x hx
        rw [Nat.testBit_or, Bool.or_eq_false_iff, Nat.testBit_two_pow, decide_eq_false_iff_not] at a1
        refine ⟨a1.1, fun j hj => ?_, fun q y hq hy => ?_⟩
        · rcases a2 j hj with h | ⟨q, y, hq, hy⟩
          · rw [Nat.testBit_or, Bool.or_eq_true, Nat.testBit_two_pow, decide_eq_true_eq] at h
            rcases h with h | h
            · exact .inl h
            · subst h; exact .inr ⟨0, x0, by omega, rfl⟩
          · exact .inr ⟨q + 1, y, by omega, hy⟩
        · cases q with
          | zero => cases hy; exact a1.2 rfl
          | succ q => exact a3 q y (by omega) hy
    · rcases k2 j hj with h | ⟨q, y, hy⟩
      · rw [Nat.testBit_or, Bool.or_eq_true, Nat.testBit_two_pow, decide_eq_true_eq] at h
        rcases h with h | h
        · exact .inl h
        · subst h; exact .inr ⟨0, x0, rfl⟩
      · exact .inr ⟨q + 1, y, hy⟩

theorem ordered_spec : ∀ (l : List (Nat × OI)), ordered l = true →
    (∀ (p q i j : Nat) (x y : OI), p < q → l[p]? = some (i, x) → l[q]? = some (j, y) →
      (x.a.loud = true → y.bef.testBit i = true) ∧ (∀ d, x.o.dst = some d → (d ∈ y.reads → y.bef.testBit i = true) ∧ y.o.dst ≠ some d) ∧ (∀ d, y.o.dst = some d → d ∈ x.reads → y.bef.testBit i = true)) ∧
    ∀ (p i : Nat) (x : OI) (d : Tmp), l[p]? = some (i, x) → x.o.dst = some d → d ∉ x.reads
  | [], _ => ⟨fun p q i j x y _ h => (by cases h), fun p i x d h => (by cases h)⟩
  | (i0, x0) :: l, h => by
    simp only [ordered, Bool.and_eq_true] at h
    obtain ⟨⟨h1, h2⟩, h3⟩ := h
    obtain ⟨k1, k2⟩ := ordered_spec l h3
    refine ⟨fun p q i j x y hpq hx hy => ?_, fun p i x d hx hd => ?_⟩
    · cases q with
      | zero => omega
      | succ q =>
        cases p with
        | succ p => exact k1 p q i j x y (by omega) hx hy
        | zero =>
          cases hx
          have h4 := List.all_eq_true.1 h1 (j, y) (List.mem_of_getElem? hy)
          simp only [Bool.and_eq_true] at h4
          obtain ⟨⟨h5, h6⟩, h7⟩ := h4
          refine ⟨fun hl => by rw [hl] at h5; simpa using h5, fun d hd => ?_, fun d hd hr => ?_⟩
          · simp only [hd, Bool.and_eq_true] at h6
            refine ⟨fun hr => ?_, by simpa using h6.2⟩
            have hc : y.reads.contains d = true := by simpa using hr
            have h8 := h6.1
            rw [hc] at h8; simpa using h8
          · simp only [hd] at h7
            have hc : x0.reads.contains d = true := by simpa using hr
            rw [hc] at h7; simpa using h7
    · cases p with
      | succ p => exact k2 p i x d hx hd
      | zero =>
        cases hx
        simp only [hd] at h2
        intro hr
        have hc : x0.reads.contains d = true := by simpa using hr
        rw [hc] at h2; cases h2

structure Stat (P : Program) (n : Nat) (ops : Array Oper) (L : List (Nat × OI)) : Prop where
  mem : ∀ (p i : Nat) (x : OI), L[p]? = some (i, x) → ops[i]? = some x.o ∧ x.a = compOp P (.some n (readsOf ops x.o)) x.o ∧ x.reads = readsOf ops x.o ∧ x.bef = (Region.before ops).getD i 0
  pos : ∀ i, i < ops.size → ∃ (p : Nat) (x : OI), L[p]? = some (i, x)
  uniq : ∀ (p q i : Nat) (x y : OI), L[p]? = some (i, x) → L[q]? = some (i, y) → p = q
  bef : ∀ (p i : Nat) (x : OI) (j : Nat), L[p]? = some (i, x) → x.bef.testBit j = true → ∃ (q : Nat) (y : OI), q < p ∧ L[q]? = some (j, y)
  ord : ∀ (p q i j : Nat) (x y : OI), p < q → L[p]? = some (i, x) → L[q]? = some (j, y) →
      (x.a.loud = true → y.bef.testBit i = true) ∧ (∀ d, x.o.dst = some d → (d ∈ y.reads → y.bef.testBit i = true) ∧ y.o.dst ≠ some d) ∧ (∀ d, y.o.dst = some d → d ∈ x.reads → y.bef.testBit i = true)
  made : ∀ (p i : Nat) (x : OI), L[p]? = some (i, x) → x.a.makes = true → isMade x.o.op = true
  self : ∀ (p i : Nat) (x : OI) (d : Tmp), L[p]? = some (i, x) → x.o.dst = some d → d ∉ x.reads

theorem stat_of {P : Program} {n : Nat} {ops : Array Oper} {l : List AS} (hc : compDrawn P n ops = some l) : ∃ L, Stat P n ops L ∧ walk ops n [] L = some l := by
  unfold compDrawn at hc
  dsimp only at hc
  split at hc
  · rename_i h
    rw [Bool.and_eq_true, Bool.and_eq_true] at h
    obtain ⟨⟨h1, h2⟩, h3⟩ := h
    obtain ⟨b1, b2⟩ := befOk_spec _ _ _ h2
    obtain ⟨o1, o2⟩ := ordered_spec _ h1
    refine ⟨_, ⟨fun p i x hx => ?_, fun i hi => ?_, fun p q i x y hx hy => ?_, fun p i x j hx hj => ?_, o1, fun p i x hx hm => ?_, o2⟩, hc⟩
    · rcases early_mem _ _ _ _ (List.mem_of_getElem? hx) with hm | hm
      · simp only [infos, List.mem_map, Prod.exists] at hm
        obtain ⟨o, k, hk, he⟩ := hm
        obtain ⟨rfl, rfl⟩ := Prod.mk.inj he
        have := List.mem_zipIdx hk
        simp only [Nat.zero_add, Nat.sub_zero] at this
        refine ⟨?_, rfl, rfl, rfl⟩
        rw [Array.getElem?_eq_getElem (by simpa using this.2.1)]
        simpa using this.2.2.symm
      · cases hm
    · rcases b2 i (by rw [Nat.testBit_two_pow_sub_one]; simpa using hi) with h | ⟨q, y, hy⟩
      · simp at h
      · exact ⟨q, y, hy⟩
    · rcases Nat.lt_trichotomy p q with h | h | h
      · exact absurd hx ((b1 q i y hy).2.2 p x h)
      · exact h
      · exact absurd hy ((b1 p i x hx).2.2 q y h)
    · rcases (b1 p i x hx).2.1 j hj with h | ⟨q, y, hq, hy⟩
      · simp at h
      · exact ⟨q, y, hq, hy⟩
    · have h4 := List.all_eq_true.1 h3 _ (List.mem_of_getElem? hx)
      simpa [hm] using h4
  · cases hc
end Go.Proofs.YtoipldpekiikjaaGreatDoor.Clo

namespace Go.Proofs.YtoipldpekiikjaaGreatDoor.Clo
set_option linter.all false
section
variable {P : Program} {n : Tm} {o : Oper} {ao : AO}

theorem made_of (hi : isMade o.op = true) (hc : compOp? P n o = some ao) : MadeSim P n o ao := by
  cases ho : o.op
  all_goals rw [ho] at hi
  all_goals first | (cases hi; done) | skip
  all_goals simp only [compOp?, ho, Option.bind_eq_bind, Option.bind_eq_some_iff, Option.some.injEq] at hc
  case alloc t => obtain ⟨z, hz, rfl⟩ := hc; exact made_alloc hz ho
  case box t x => obtain ⟨m, hm, b, hb, y, hx, rfl⟩ := hc; exact made_box hx ho
  case buildSlice t l ps =>
    split at hc
    · rename_i el hu
      simp only [Option.bind_eq_some_iff] at hc
      obtain ⟨m, hm, z, hz, hc⟩ := hc
      split at hc
      · cases hc
      · rename_i hcond
        simp only [not_or] at hcond
        simp only [Option.bind_eq_some_iff, Option.some.injEq] at hc
        obtain ⟨qs, hq, rfl⟩ := hc
        exact made_bsl hu hm hz (by omega) (by simpa using hcond.2) hq ho
    · cases hc
  case makeMap t r =>
    cases r with
    | none =>
      simp only [Option.some.injEq] at hc
      subst hc
      exact made_map ho
    | some _ => cases hi
theorem made_of' (hi : isMade o.op = true) (hm : (compOp P n o).makes = true) : MadeSim P n o (compOp P n o) := by
  unfold compOp at hm ⊢
  cases hc : compOp? P n o with
  | none => rw [hc] at hm; cases hm
  | some ao => exact made_of hi hc

def Named (v : V) (x : Nm) : Prop := ∀ k : Nm → R1, v.name? k = k x
theorem Named.uniq {v : V} {x y : Nm} (h : Named v x) (h' : Named v y) : x = y := by
  have e := (h fun x => .ok (.m x) ⟨x, QB4.all (QB3.all (QB2.all (QB.all .dead)))⟩).symm.trans (h' fun x => .ok (.m x) ⟨x, QB4.all (QB3.all (QB2.all (QB.all .dead)))⟩)
  cases e; rfl

/-- What makes a block lays a named one. -/
theorem made_abs (hm : ao.makes = true) {e : QE} {k : Blk → (Nm → V) → R1} {v : V} {h' : Hp} (g : ao.made e k = .ok v h') : ∃ b f, k b f = .ok v h' ∧ ∀ x, Named (f x) x := by
  cases ao <;> first | (cases hm; done) | skip
  case alloc t n z => exact ⟨_, _, g, fun x k => rfl⟩
  case box t n b x => obtain ⟨l, g, _⟩ := cells_ok (show cells b n (x.v e) (fun l => k (.cl t .c 0 (@Bool.rec (fun _ => Nat) 1 n b) l) fun a => .p a 0) = .ok v h' from g); exact ⟨_, _, g, fun x k => rfl⟩
  case mkmap => exact ⟨_, _, g, fun x k => rfl⟩
  case bsl t n m z ps =>
    have key : ∀ (ps : List (Nat × Nat × O)) (z : List V) (k : List V → R1), fill ps e z k = .ok v h' → ∃ l, k l = .ok v h' := by
      intro ps
      induction ps with
      | nil => intro z k g; exact ⟨z, g⟩
      | cons p ps ih =>
        intro z k g
        obtain ⟨c, g, _⟩ := anyCells_ok (show anyCells (p.2.2.v e) (fun c => bR (lenIs p.2.1 c) (putC p.1 c z fun z => fill ps e z k) (.no 15)) = .ok v h' from g)
        obtain ⟨_, g⟩ := bR_no g
        obtain ⟨_, g⟩ := putC_ok p.1 g
        exact ih _ _ g
    obtain ⟨l, g⟩ := key ps z _ (show fill ps e z (fun l => fo (Nat.mul n m) fun nm => k (.cl t .c 0 nm l) fun a => .sl a 0 n (.succ n)) = .ok v h' from g)
    rw [fo_eq] at g
    exact ⟨_, _, g, fun x k => rfl⟩
theorem make_go (hm : ao.makes = true) (cf : CF) (h : Hp) (e : QE) : ao.go cf h e = G.make ao h e := by
  cases ao <;> first | (cases hm; done) | rfl

def Tidy (h : Hp) : Prop := ∀ x, h.nx.n ≤ x.n → h.get x = .dead
theorem Grow.refl (h : Hp) : Grow h h := fun _ _ => rfl
theorem Grow.trans {h1 h2 h3 : Hp} (g : Grow h1 h2) (g' : Grow h2 h3) : Grow h1 h3 := fun x hx => by rw [g' x (by rw [g x hx]; exact hx), g x hx]

/-- What is not loud leaves the heap, or lays one block more. -/
theorem quiet_heap (hl : ao.loud = false) {cf : CF} {h h' : Hp} {e : QE} {v : V} (g : ao.go cf h e = .ok v h') :
    (h' = h ∧ ao.makes = false) ∨ (ao.makes = true ∧ ∃ y b, h' = h.add y b ∧ y.n = h.nx.n + 1 ∧ Named v h.nx) := by
  cases hm : ao.makes with
  | false =>
    left
    refine ⟨?_, rfl⟩
    cases hk : ao.looks with
    | false => exact (free_go (h1 := h) (h2 := h) hl hm hk cf e v h' g).1
    | true => exact (look_go (Grow.refl h) hk cf e v h' g).1
  | true =>
    right
    refine ⟨rfl, ?_⟩
    rw [make_go hm] at g
    obtain ⟨b, f, g2, hn⟩ := made_abs hm (show ao.made e (fun b f => h.new b fun a h => .ok (f a) h) = .ok v h' from g)
    obtain ⟨y, hy, g3⟩ := Hp.new_ok g2
    cases g3
    exact ⟨y, b, rfl, hy, hn _⟩

theorem add_grow {h : Hp} (ht : Tidy h) {y : Nm} (hy : y.n = h.nx.n + 1) (b : Blk) : Tidy (h.add y b) ∧ Grow h (h.add y b) := by
  refine ⟨fun x hx => ?_, fun x hx => ?_⟩
  · have hx' : y.n ≤ x.n := hx
    rw [Hp.get_add, if_neg (fun e => by subst e; omega)]
    exact ht x (by omega)
  · rw [Hp.get_add, if_neg (fun e => hx (by rw [e]; exact ht _ (Nat.le_refl _)))]
theorem Rel.grown {σ : Sg} {h : Hp} {hp : Core} (r : Rel P σ h hp) {y : Nm} (hy : y.n = h.nx.n + 1) (b : Blk) : Rel P σ (h.add y b) hp := by
  have hget : ∀ x j, σ x = some j → (h.add y b).get x = h.get x := fun x j hx => by
    rw [Hp.get_add]
    split
    · rename_i e; subst e; rw [r.new _ (Nat.le_refl _)] at hx; cases hx
    · rfl
  refine ⟨fun x j hx => by rw [hget x j hx]; exact r.blk x j hx, fun x z j k hx hz dx dz e => ?_, fun x hx => r.new x ?_, r.lt, r.glob, (add_grow r.free hy b).1, r.fix, fun x j hx dx => by rw [hget x j hx] at dx; exact r.own x j hx dx, r.os, r.out, r.tp⟩
  · rw [hget x j hx] at dx; rw [hget z k hz] at dz; exact r.inj x z j k hx hz dx dz e
  · have hx' : y.n ≤ x.n := hx
    omega

/-- A name that lies in the heap already, and whose block is laid now. -/
theorem Rel.born {σ : Sg} {h : Hp} {hp : Core} (r : Rel P σ h hp) {x : Nm} (hx : σ x = none) (hn : x.n < h.nx.n) {o : Obj} {i : Inf} (hi : i.blk = hp.heap.size)
    (hb : BR P (σ.add x i) (hp.heap.push o) i (h.get x)) : Le σ (σ.add x i) ∧ Rel P (σ.add x i) h (hp.with (hp.heap.push o)) := by
  have le : Le σ (σ.add x i) := fun y j hy => by
    rw [Sg.add_eq]
    split
    · rename_i e; subst e; rw [hx] at hy; cases hy
    · exact hy
  refine ⟨le, fun y j hy => ?_, fun y z j k hy hz dy dz e => ?_, fun y hy => ?_, fun y j hy => ?_, fun g hg => let ⟨j, h1, h2⟩ := r.glob g hg; ⟨j, le _ _ h1, h2⟩, r.free, fun b o2 hb => ?_, fun y j hy dy => ?_, r.os, r.out, r.tp⟩
  · simp only [Sg.add_eq] at hy
    split at hy
    · rename_i e; subst e; cases hy; exact hb
    · refine (r.blk y j hy).mono le ?_
      rw [Array.getElem?_push_lt (r.lt y j hy), Array.getElem?_eq_getElem (r.lt y j hy)]
  · simp only [Sg.add_eq] at hy hz
    split at hy <;> split at hz
    · rename_i e1 e2; rw [e1, e2]
    · cases hy; have := r.lt z k hz; omega
    · cases hz; have := r.lt y j hy; omega
    · exact r.inj y z j k hy hz dy dz e
  · rw [Sg.add_eq]
    split
    · rename_i e; subst e; omega
    · exact r.new y hy
  · simp only [Sg.add_eq] at hy
    split at hy
    · cases hy; rw [Array.size_push]; omega
    · rw [Array.size_push]; have := r.lt y j hy; omega
  · have hb' := r.fix b o2 hb
    show (hp.heap.push o)[b]? = _
    rw [Array.getElem?_push_lt (Array.getElem?_eq_some_iff.1 hb').1, ← Array.getElem?_eq_getElem]; exact hb'
  · rw [Sg.add_eq] at hy
    split at hy
    · cases hy
      show σ.fr.b i.blk = none
      cases hf : σ.fr.b i.blk with
      | none => rfl
      | some o => have := (Array.getElem?_eq_some_iff.1 (r.fix _ o hf)).1; omega
    · exact r.own y j hy dy

/-- A float that is found as it was made. -/
theorem fresh_ok (hs : MadeSim P n o ao) {v : V} {h : Hp} {e : QE} (hf : freshly ao v h e = true) : ∃ x b f, Named v x ∧ h.get x = b ∧ v = f x ∧ b ≠ .dead ∧
    ∀ (σ : Sg) (h : Hp) (w : World) (a : Act), Rel P σ h (core w) → EnvR σ n e a.tmps → MadeAt P σ w (execOp a.eval o) b f := by
  unfold freshly at hf
  have key : ∀ x, Named v x → ∃ x b f, Named v x ∧ h.get x = b ∧ v = f x ∧ b ≠ .dead ∧
      ∀ (σ : Sg) (h : Hp) (w : World) (a : Act), Rel P σ h (core w) → EnvR σ n e a.tmps → MadeAt P σ w (execOp a.eval o) b f := by
    intro x hx
    rw [hx] at hf
    split at hf
    · rename_i v2 h2 g
      obtain ⟨b, f, g2, hb, hM⟩ := hs e _ v2 h2 g
      split at g2
      · rename_i h3 h4
        exact ⟨x, b, f, hx, Blk.beq_eq h3, V.beq_eq h4, hb, hM⟩
      · cases g2
    · cases hf
  cases v with
  | p x o =>
    cases o with
    | zero => exact key x fun k => rfl
    | succ o => exact absurd hf (by simp [V.name?])
  | sl x o l c =>
    cases o with
    | zero => exact key x fun k => rfl
    | succ o => exact absurd hf (by simp [V.name?])
  | m x => exact key x fun k => rfl
  | _ => exact absurd hf (by simp [V.name?])
end
end Go.Proofs.YtoipldpekiikjaaGreatDoor.Clo

namespace Go.Proofs.YtoipldpekiikjaaGreatDoor.Clo
set_option linter.all false

theorem Wants.not_both {ops : Array Oper} {e : QE} {o : Oper} (h : Wants ops e o true) (h' : Wants ops e o false) : False := by
  unfold Wants at h h'
  cases hg : o.guard with
  | none => rw [hg] at h'; cases h'
  | some p =>
    obtain ⟨j, w⟩ := p
    simp only [hg] at h h'
    obtain ⟨t, ht, _, hv⟩ := h
    obtain ⟨t', ht', _, hv'⟩ := h'
    rw [ht] at ht'; cases ht'
    simp only [if_true] at hv
    simp only [Bool.false_eq_true, if_false] at hv'
    rcases hv' with ⟨c, hc, hne⟩ | ⟨l, hl⟩
    · rw [hv] at hc; cases hc; exact hne rfl
    · rw [hv] at hl; cases hl
theorem Wants.congr {ops : Array Oper} {e e' : QE} {o : Oper} {b : Bool} (h : Wants ops e o b) (he : ∀ t ∈ readsOf ops o, t < 256 → e'.at t = e.at t) : Wants ops e' o b := by
  unfold Wants at h ⊢
  cases hg : o.guard with
  | none => rw [hg] at h; exact h
  | some p =>
    obtain ⟨j, w⟩ := p
    simp only [hg] at h ⊢
    obtain ⟨t, ht, h2, hv⟩ := h
    have : t ∈ readsOf ops o := by
      unfold readsOf
      simp only [hg, ht, Option.toList_some, List.mem_append]
      exact .inr (by simp)
    exact ⟨t, ht, h2, by rw [he t this h2]; exact hv⟩
theorem guard_reads {ops : Array Oper} {o : Oper} {j : Nat} {w : Bool} {t : Tmp} (hg : o.guard = some (j, w)) (ht : (ops[j]?).bind (·.dst) = some t) : t ∈ readsOf ops o := by
  unfold readsOf
  simp only [hg, ht, Option.toList_some, List.mem_append]
  exact .inr (by simp)

section
variable {P : Program} {n : Nat} {ops : Array Oper} {cf : CF} {L : List (Nat × OI)} {S : Nat → Hp × QE}

theorem env_same (hS : ∀ (p i : Nat) (y : OI), L[p]? = some (i, y) → StepAt ops n cf L S p y) {t : Nat} (ht : t < 256) {p : Nat} : ∀ {q : Nat}, p ≤ q → q ≤ L.length →
    (∀ (r i : Nat) (x : OI), p ≤ r → r < q → L[r]? = some (i, x) → x.o.dst ≠ some t) → (S q).2.at t = (S p).2.at t := by
  intro q
  induction q with
  | zero => intro hp _ _; rw [show p = 0 by omega]
  | succ q ih =>
    intro hp hq hw
    by_cases hpq : p = q + 1
    · rw [hpq]
    · have hql : q < L.length := by omega
      have hy : L[q]? = some (L[q].1, L[q].2) := by rw [List.getElem?_eq_getElem hql]
      have st := hS q _ _ hy
      rw [← ih (by omega) (by omega) fun r i x h1 h2 h3 => hw r i x h1 (by omega) h3]
      have hne := hw q _ _ (by omega) (by omega) hy
      rcases st.one with ⟨_, v, _, he⟩ | ⟨_, _, he⟩
      · rw [he, QE.at_put _ ht (fun s hs => (st.dst s hs).2), if_neg hne]
      · rw [he, QE.at_put _ ht (fun s hs => (st.dst s hs).2), if_neg hne]

/-- What stands when all of D is done, and none else; K: the loud ones before are done, none from there on. -/
structure Inv (P : Program) (n : Nat) (ops : Array Oper) (L : List (Nat × OI)) (S : Nat → Hp × QE) (σ0 : Sg) (a0 : Act) (D : Nat → Prop) (σ : Sg) (K : Nat) (a : Act) (w : World) : Prop where
  kle : K ≤ L.length
  done : ∀ (p i : Nat) (x : OI), p < K → L[p]? = some (i, x) → x.a.loud = true → D i
  late : ∀ (p i : Nat) (x : OI), K ≤ p → L[p]? = some (i, x) → x.a.loud = true → ¬ D i
  cl : ∀ i, D i → ∀ j, ((Region.before ops).getD i 0).testBit j = true → D j
  rel : Rel P σ (S K).1 (core w)
  sz : n ≤ a.tmps.size
  dft : a.defers = a0.defers
  new : ∀ (p i : Nat) (x : OI) (t : Nat), L[p]? = some (i, x) → D i → x.o.dst = some t → VR σ ((S (p + 1)).2.at t) (a.tmps.getD t undef)
  old : ∀ t, t < 256 → (∀ (p i : Nat) (x : OI), L[p]? = some (i, x) → x.o.dst = some t → ¬ D i) → VR σ ((S 0).2.at t) (a.tmps.getD t undef)
  unb : ∀ (p i : Nat) (x : OI), p < K → L[p]? = some (i, x) → x.a.makes = true → Wants ops (S p).2 x.o true → ¬ D i → σ (S p).1.nx = none
  mono : ∀ p q, p ≤ q → q ≤ K → (S p).1.nx.n ≤ (S q).1.nx.n
  tidy : ∀ p, p ≤ K → Tidy (S p).1
  ext : ∀ x, x.n < (S 0).1.nx.n → σ x = σ0 x
  frm : σ.fr = σ0.fr

/-- What one that is not loud does to the heap. -/
theorem quiet_step {p i : Nat} {x : OI} (hy : L[p]? = some (i, x)) (hl : x.a.loud = false) (hS : ∀ (p i : Nat) (y : OI), L[p]? = some (i, y) → StepAt ops n cf L S p y) :
    ((S (p + 1)).1 = (S p).1 ∧ ¬ (x.a.makes = true ∧ Wants ops (S p).2 x.o true)) ∨
    (x.a.makes = true ∧ ∃ y b, (S (p + 1)).1 = (S p).1.add y b ∧ y.n = (S p).1.nx.n + 1 ∧ ∀ d, x.o.dst = some d → Named ((S (p + 1)).2.at d) (S p).1.nx) := by
  have st := hS p i x hy
  rcases st.one with ⟨hw, v, hv, he⟩ | ⟨hw, hh, he⟩
  · rcases quiet_heap hl hv with ⟨h1, hm⟩ | ⟨hm, y, b, h1, h2, h3⟩
    · exact .inl ⟨h1, fun h => by rw [hm] at h; cases h.1⟩
    · refine .inr ⟨hm, y, b, h1, h2, fun d hd => ?_⟩
      rw [he, QE.at_put _ (st.dst d hd).2 (fun s hs => (st.dst s hs).2), if_pos hd]
      exact h3
  · exact .inl ⟨hh, fun h => h.2.not_both hw⟩

variable {σ0 σ : Sg} {a0 a : Act} {D : Nat → Prop} {K : Nat} {w : World}

/-- On to the next loud one. -/
theorem Inv.on (hS : ∀ (p i : Nat) (y : OI), L[p]? = some (i, y) → StepAt ops n cf L S p y) : ∀ (k K : Nat), L.length - K = k → Inv P n ops L S σ0 a0 D σ K a w →
    ∃ K', Inv P n ops L S σ0 a0 D σ K' a w ∧ ∀ (i : Nat) (x : OI), L[K']? = some (i, x) → x.a.loud = true := by
  intro k
  induction k with
  | zero =>
    intro K hk I
    refine ⟨K, I, fun i x hx => ?_⟩
    rw [List.getElem?_eq_none (by omega)] at hx
    cases hx
  | succ k ih =>
    intro K hk I
    have hlt : K < L.length := by omega
    have hy : L[K]? = some (L[K].1, L[K].2) := by rw [List.getElem?_eq_getElem hlt]
    cases hl : L[K].2.a.loud with
    | true => exact ⟨K, I, fun i x hx => by rw [hy] at hx; cases hx; exact hl⟩
    | false =>
      refine ih (K + 1) (by omega) ?_
      have hq := quiet_step hy hl hS
      have hT : Tidy (S (K + 1)).1 ∧ (S K).1.nx.n ≤ (S (K + 1)).1.nx.n ∧ Rel P σ (S (K + 1)).1 (core w) := by
        rcases hq with ⟨h, _⟩ | ⟨_, y, b, h, h2, _⟩
        · rw [h]; exact ⟨I.tidy K (Nat.le_refl _), Nat.le_refl _, I.rel⟩
        · rw [h]; exact ⟨(add_grow (I.tidy K (Nat.le_refl _)) h2 b).1, by show _ ≤ y.n; omega, I.rel.grown h2 b⟩
      refine ⟨hlt, fun p i x hp hx hlo => ?_, fun p i x hp hx hlo => I.late p i x (by omega) hx hlo, I.cl, hT.2.2, I.sz, I.dft, I.new, I.old, fun p i x hp hx hm hw hd => ?_, fun p q hpq hq => ?_, fun p hp => ?_, I.ext, I.frm⟩
      · by_cases hpK : p = K
        · subst hpK; rw [hy] at hx; cases hx; rw [hl] at hlo; cases hlo
        · exact I.done p i x (by omega) hx hlo
      · by_cases hpK : p = K
        · subst hpK; exact I.rel.new _ (Nat.le_refl _)
        · exact I.unb p i x (by omega) hx hm hw hd
      · by_cases hqK : q = K + 1
        · subst hqK
          by_cases hpK : p = K + 1
          · rw [hpK]; exact Nat.le_refl _
          · exact Nat.le_trans (I.mono p K (by omega) (Nat.le_refl _)) hT.2.1
        · exact I.mono p q hpq (by omega)
      · by_cases hpK : p = K + 1
        · rw [hpK]; exact hT.1
        · exact I.tidy p (by omega)

/-- What is read is as it is to be. -/
theorem Inv.reads (hL : Stat P n ops L) (hS : ∀ (p i : Nat) (y : OI), L[p]? = some (i, y) → StepAt ops n cf L S p y) (I : Inv P n ops L S σ0 a0 D σ K a w) {q j : Nat} {y : OI} (hy : L[q]? = some (j, y))
    (hr : ∀ b, y.bef.testBit b = true → D b) (hj : ¬ D j) {t : Nat} (ht : t < 256) (hm : t ∈ y.reads) : VR σ ((S q).2.at t) (a.tmps.getD t undef) := by
  have hql : q < L.length := (List.getElem?_eq_some_iff.1 hy).1
  by_cases hw : ∃ (p i : Nat) (x : OI), L[p]? = some (i, x) ∧ x.o.dst = some t ∧ D i
  · obtain ⟨p, i, x, hx, hd, hD⟩ := hw
    rcases Nat.lt_trichotomy p q with h | h | h
    · rw [env_same hS ht (show p + 1 ≤ q by omega) (by omega) fun r i' z h1 h2 h3 => ((hL.ord p r i i' x z (by omega) hx h3).2.1 t hd).2]
      exact I.new p i x t hx hD hd
    · subst h; rw [hx] at hy; cases hy; exact absurd hD hj
    · have := (hL.ord q p j i y x h hy hx).2.2 t hd hm
      rw [(hL.mem p i x hx).2.2.2] at this
      exact absurd (I.cl i hD j this) hj
  · have hno : ∀ (p i : Nat) (x : OI), L[p]? = some (i, x) → x.o.dst = some t → ¬ D i := fun p i x h1 h2 h3 => hw ⟨p, i, x, h1, h2, h3⟩
    rw [env_same hS ht (Nat.zero_le q) (by omega) fun r i x _ h2 h3 hd => hno r i x h3 hd (hr i (((hL.ord r q i j x y h2 h3 hy).2.1 t hd).1 hm))]
    exact I.old t ht hno

/-- No loud one between: the heap has but grown. -/
theorem Inv.grow (hS : ∀ (p i : Nat) (y : OI), L[p]? = some (i, y) → StepAt ops n cf L S p y) (I : Inv P n ops L S σ0 a0 D σ K a w) {s : Nat} : ∀ {q : Nat}, s ≤ q → q ≤ K →
    (∀ (r i : Nat) (x : OI), s ≤ r → r < q → L[r]? = some (i, x) → x.a.loud = false) → Grow (S s).1 (S q).1 := by
  intro q
  induction q with
  | zero => intro hs _ _; rw [show s = 0 by omega]; exact Grow.refl _
  | succ q ih =>
    intro hs hq hn
    by_cases hsq : s = q + 1
    · rw [hsq]; exact Grow.refl _
    · have hkl := I.kle
      have hql : q < L.length := by omega
      have hy : L[q]? = some (L[q].1, L[q].2) := by rw [List.getElem?_eq_getElem hql]
      refine (ih (by omega) (by omega) fun r i x h1 h2 h3 => hn r i x h1 (by omega) h3).trans ?_
      rcases quiet_step hy (hn q _ _ (by omega) (by omega) hy) hS with ⟨h, _⟩ | ⟨_, y, b, h, h2, _⟩
      · rw [h]; exact Grow.refl _
      · rw [h]; exact (add_grow (I.tidy q (by omega)) h2 b).2

/-- Where a float is looked at last. -/
theorem last_look {q : Nat} {j : Nat} {y : OI} (hy : L[q]? = some (j, y)) (hl : y.a.loud = false) : ∀ {K : Nat}, q < K → K ≤ L.length →
    ∃ s, s ≤ K ∧ (∀ (r i : Nat) (x : OI), s ≤ r → r < K → L[r]? = some (i, x) → x.a.loud = false) ∧ (s = q ∨ ∃ (l i : Nat) (x : OI), q < l ∧ l < K ∧ s = l + 1 ∧ L[l]? = some (i, x) ∧ x.a.loud = true) := by
  intro K
  induction K with
  | zero => intro h; omega
  | succ K ih =>
    intro hq hK
    by_cases hqK : q = K
    · subst hqK
      refine ⟨q, by omega, fun r i x h1 h2 h3 => ?_, .inl rfl⟩
      have : r = q := by omega
      subst this; rw [hy] at h3; cases h3; exact hl
    · have hlt : K < L.length := by omega
      have hK' : L[K]? = some (L[K].1, L[K].2) := by rw [List.getElem?_eq_getElem hlt]
      cases hlo : L[K].2.a.loud with
      | true => exact ⟨K + 1, Nat.le_refl _, fun r i x h1 h2 => by omega, .inr ⟨K, _, _, by omega, by omega, rfl, hK', hlo⟩⟩
      | false =>
        obtain ⟨s, h1, h2, h3⟩ := ih (by omega) (by omega)
        refine ⟨s, by omega, fun r i x g1 g2 g3 => ?_, ?_⟩
        · by_cases hr : r = K
          · subst hr; rw [hK'] at g3; cases g3; exact hlo
          · exact h2 r i x g1 (by omega) g3
        · rcases h3 with h3 | ⟨l, i, x, g1, g2, g3, g4, g5⟩
          · exact .inl h3
          · exact .inr ⟨l, i, x, g1, by omega, g3, g4, g5⟩
end
end Go.Proofs.YtoipldpekiikjaaGreatDoor.Clo

namespace Go.Proofs.YtoipldpekiikjaaGreatDoor.Clo
set_option linter.all false
section
variable {P : Program} {n : Nat} {ops : Array Oper} {cf : CF} {L : List (Nat × OI)} {S : Nat → Hp × QE} {σ0 σ : Sg} {a0 a : Act} {D : Nat → Prop} {K : Nat} {w : World}

/-- One more is done: the temporaries. -/
theorem Inv.put_new (hL : Stat P n ops L) (hS : ∀ (p i : Nat) (y : OI), L[p]? = some (i, y) → StepAt ops n cf L S p y) (I : Inv P n ops L S σ0 a0 D σ K a w) {q j : Nat} {y : OI} (hy : L[q]? = some (j, y))
    {σ' : Sg} (le : Le σ σ') {c : Value} (hc : ∀ d, y.o.dst = some d → VR σ' ((S (q + 1)).2.at d) c) :
    (∀ (p i : Nat) (x : OI) (t : Nat), L[p]? = some (i, x) → (i = j ∨ D i) → x.o.dst = some t → VR σ' ((S (p + 1)).2.at t) ((a.put y.o.dst c).tmps.getD t undef)) ∧
    (∀ t, t < 256 → (∀ (p i : Nat) (x : OI), L[p]? = some (i, x) → x.o.dst = some t → ¬ (i = j ∨ D i)) → VR σ' ((S 0).2.at t) ((a.put y.o.dst c).tmps.getD t undef)) := by
  refine ⟨fun p i x t hx hi hd => ?_, fun t ht hno => ?_⟩
  · rw [Act.put_tmps]
    by_cases hpq : p = q
    · subst hpq
      rw [hx] at hy; cases hy
      rw [if_pos ⟨hd, Nat.lt_of_lt_of_le ((hS p _ _ hx).dst t hd).1 I.sz⟩]
      exact hc t hd
    · have hij : i ≠ j := fun e => by subst e; exact hpq (hL.uniq p q i x y hx hy)
      have hD : D i := hi.resolve_left hij
      have hne : y.o.dst ≠ some t := by
        rcases Nat.lt_or_gt_of_ne hpq with h | h
        · exact ((hL.ord p q i j x y h hx hy).2.1 t hd).2
        · intro e; exact ((hL.ord q p j i y x h hy hx).2.1 t e).2 hd
      rw [if_neg fun h => hne h.1]
      exact (I.new p i x t hx hD hd).mono le
  · rw [Act.put_tmps, if_neg fun h => hno q j y hy h.1 (.inl rfl)]
    exact (I.old t ht fun p i x h1 h2 h3 => hno p i x h1 h2 (.inr h3)).mono le

theorem Inv.more_cl (hL : Stat P n ops L) (I : Inv P n ops L S σ0 a0 D σ K a w) {q j : Nat} {y : OI} (hy : L[q]? = some (j, y)) (hr : ∀ b, y.bef.testBit b = true → D b) :
    ∀ i, (i = j ∨ D i) → ∀ b, ((Region.before ops).getD i 0).testBit b = true → (b = j ∨ D b) := by
  intro i hi b hb
  rcases hi with rfl | hi
  · rw [← (hL.mem q i y hy).2.2.2] at hb; exact .inr (hr b hb)
  · exact .inr (I.cl i hi b hb)

/-- A loud one is done. -/
theorem Inv.loud (hL : Stat P n ops L) (hS : ∀ (p i : Nat) (y : OI), L[p]? = some (i, y) → StepAt ops n cf L S p y) (I : Inv P n ops L S σ0 a0 D σ K a w) {j : Nat} {y : OI} (hy : L[K]? = some (j, y))
    (hr : ∀ b, y.bef.testBit b = true → D b) {σ' : Sg} {c : Value} {v : V} {w' : World} (hx : Ext σ σ' (S K).1 (S (K + 1)).1) (r' : Rel P σ' (S (K + 1)).1 (core w')) (hv : VR σ' v c)
    (he : (S (K + 1)).2 = (S K).2.put y.o.dst v) : Inv P n ops L S σ0 a0 (fun i => i = j ∨ D i) σ' (K + 1) (a.put y.o.dst c) w' := by
  have le := hx.to_le I.rel
  have hlt : K < L.length := (List.getElem?_eq_some_iff.1 hy).1
  obtain ⟨t1, t2⟩ := I.put_new hL hS hy le (c := c) fun d hd => by
    rw [he, QE.at_put _ ((hS K j y hy).dst d hd).2 (fun s hs => ((hS K j y hy).dst s hs).2), if_pos hd]; exact hv
  have hm : ∀ p q, p ≤ q → q ≤ K + 1 → (S p).1.nx.n ≤ (S q).1.nx.n := fun p q hpq hq => by
    by_cases hqK : q = K + 1
    · subst hqK
      by_cases hpK : p = K + 1
      · rw [hpK]; exact Nat.le_refl _
      · exact Nat.le_trans (I.mono p K (by omega) (Nat.le_refl _)) hx.le
    · exact I.mono p q hpq (by omega)
  refine ⟨hlt, fun p i x hp hx' hl => ?_, fun p i x hp hx' hl hD => ?_, I.more_cl hL hy hr, r', by rw [Act.put_size]; exact I.sz, by rw [Act.put_defers]; exact I.dft, t1, t2, fun p i x hp hx' hmk hw hD => ?_, hm, fun p hp => ?_, fun x hx' => ?_, hx.fr.trans I.frm⟩
  · by_cases hpK : p = K
    · subst hpK; rw [hx'] at hy; cases hy; exact .inl rfl
    · exact .inr (I.done p i x (by omega) hx' hl)
  · rcases hD with rfl | hD
    · have := hL.uniq p K i x y hx' hy; omega
    · exact I.late p i x (by omega) hx' hl hD
  · have hpK : p ≠ K := fun e => by subst e; rw [hx'] at hy; cases hy; exact hD (.inl rfl)
    have h0 := I.unb p i x (by omega) hx' hmk hw fun h => hD (.inr h)
    rw [hx.old _ ?_]
    · exact h0
    · have hpl : x.a.loud = false := by
        cases hxl : x.a.loud with
        | false => rfl
        | true => exact absurd (I.done p i x (by omega) hx' hxl) fun h => hD (.inr h)
      rcases quiet_step hx' hpl hS with ⟨_, hn⟩ | ⟨_, z, b, h1, h2, _⟩
      · exact absurd ⟨hmk, hw⟩ hn
      · have := I.mono (p + 1) K (by omega) (Nat.le_refl _)
        rw [h1] at this
        have : z.n ≤ (S K).1.nx.n := this
        omega
  · by_cases hpK : p = K + 1
    · rw [hpK]; exact r'.free
    · exact I.tidy p (by omega)
  · rw [hx.old x (Nat.lt_of_lt_of_le hx' (I.mono 0 K (Nat.zero_le _) (Nat.le_refl _)))]
    exact I.ext x hx'

/-- A float is done. -/
theorem Inv.float (hL : Stat P n ops L) (hS : ∀ (p i : Nat) (y : OI), L[p]? = some (i, y) → StepAt ops n cf L S p y) (I : Inv P n ops L S σ0 a0 D σ K a w) {q j : Nat} {y : OI} (hq : q < K) (hy : L[q]? = some (j, y))
    (hr : ∀ b, y.bef.testBit b = true → D b) {σ' : Sg} {c : Value} {w' : World} (le : Le σ σ') (r' : Rel P σ' (S K).1 (core w')) (hv : ∀ d, y.o.dst = some d → VR σ' ((S (q + 1)).2.at d) c) (hlo : y.a.loud = false)
    (hun : ∀ x, σ x = none → x.n < (S K).1.nx.n → (y.a.makes = true → Wants ops (S q).2 y.o true → x ≠ (S q).1.nx) → σ' x = none)
    (hex : ∀ x, x.n < (S 0).1.nx.n → σ' x = σ x) (hfr : σ'.fr = σ.fr) : Inv P n ops L S σ0 a0 (fun i => i = j ∨ D i) σ' K (a.put y.o.dst c) w' := by
  obtain ⟨t1, t2⟩ := I.put_new hL hS hy le hv
  refine ⟨I.kle, fun p i x hp hx' hl => .inr (I.done p i x hp hx' hl), fun p i x hp hx' hl hD => ?_, I.more_cl hL hy hr, r', by rw [Act.put_size]; exact I.sz, by rw [Act.put_defers]; exact I.dft, t1, t2, fun p i x hp hx' hmk hw hD => ?_, I.mono, I.tidy, fun x hx' => by rw [hex x hx']; exact I.ext x hx', hfr.trans I.frm⟩
  · rcases hD with rfl | hD
    · have := hL.uniq p q i x y hx' hy; omega
    · exact I.late p i x hp hx' hl hD
  · have hpl : ∀ {p i : Nat} {x : OI}, p < K → L[p]? = some (i, x) → x.a.makes = true → Wants ops (S p).2 x.o true → x.a.loud = false → (S p).1.nx.n < (S (p + 1)).1.nx.n := by
      intro p i x hp hx' hmk hw hl
      rcases quiet_step hx' hl hS with ⟨_, hn⟩ | ⟨_, z, b, h1, h2, _⟩
      · exact absurd ⟨hmk, hw⟩ hn
      · rw [h1]; show _ < z.n; omega
    have hxl : x.a.loud = false := by
      cases hxl : x.a.loud with
      | false => rfl
      | true => exact absurd (I.done p i x hp hx' hxl) fun h => hD (.inr h)
    have h1 := hpl hp hx' hmk hw hxl
    refine hun _ (I.unb p i x hp hx' hmk hw fun h => hD (.inr h)) (Nat.lt_of_lt_of_le h1 (I.mono (p + 1) K hp (Nat.le_refl _))) fun hm2 hw2 e => ?_
    have h2 := hpl hq hy hm2 hw2 hlo
    rcases Nat.lt_trichotomy p q with h | h | h
    · have := I.mono (p + 1) q h (by omega); rw [e] at h1; omega
    · subst h; rw [hx'] at hy; cases hy; exact hD (.inl rfl)
    · have := I.mono (q + 1) p h (by omega); rw [← e] at h2; omega

/-- The whole state, at the end. -/
theorem Inv.all (hL : Stat P n ops L) (hS : ∀ (p i : Nat) (y : OI), L[p]? = some (i, y) → StepAt ops n cf L S p y) (I : Inv P n ops L S σ0 a0 D σ K a w) (hD : ∀ (p i : Nat) (x : OI), L[p]? = some (i, x) → D i)
    (hK : ∀ (i : Nat) (x : OI), L[K]? = some (i, x) → x.a.loud = true) : Kept P n σ0 (S 0).1 a0 (S L.length).1 (S L.length).2 a w := by
  have hKL : K = L.length := by
    apply Classical.byContradiction
    intro h
    have hkl := I.kle
    have hlt : K < L.length := by omega
    have hy : L[K]? = some (L[K].1, L[K].2) := by rw [List.getElem?_eq_getElem hlt]
    exact I.late K _ _ (Nat.le_refl _) hy (hK _ _ hy) (hD K _ _ hy)
  subst hKL
  refine ⟨σ, ⟨I.ext, I.mono 0 _ (Nat.zero_le _) (Nat.le_refl _), I.frm⟩, I.rel, ⟨I.sz, fun t ht _ => ?_⟩, I.dft⟩
  show VR σ ((S L.length).2.at t) _
  by_cases hw : ∃ (p i : Nat) (x : OI), L[p]? = some (i, x) ∧ x.o.dst = some t
  · obtain ⟨p, i, x, hx, hd⟩ := hw
    have hpl : p < L.length := (List.getElem?_eq_some_iff.1 hx).1
    rw [env_same hS ht (show p + 1 ≤ L.length by omega) (Nat.le_refl _) fun r i' z h1 h2 h3 => ((hL.ord p r i i' x z (by omega) hx h3).2.1 t hd).2]
    exact I.new p i x t hx (hD p i x hx) hd
  · rw [env_same hS ht (Nat.zero_le _) (Nat.le_refl _) fun r i x _ _ h3 hd => hw ⟨r, i, x, h3, hd⟩]
    exact I.old t ht fun p i x h1 h2 _ => hw ⟨p, i, x, h1, h2⟩

/-- A float is done, whenever. -/
theorem float_wp (hL : Stat P n ops L) (hS : ∀ (p i : Nat) (y : OI), L[p]? = some (i, y) → StepAt ops n cf L S p y) (hcf : CallOk P cf) (I : Inv P n ops L S σ0 a0 D σ K a w) {q j : Nat} {y : OI} (hq : q < K) (hy : L[q]? = some (j, y))
    (hr : ∀ b, y.bef.testBit b = true → D b) (hj : ¬ D j) {next : Act → World → Prop} {Q : Exit → Act → World → Prop} {Z : Prop}
    (hn : ∀ σ' a' w', Inv P n ops L S σ0 a0 (fun i => i = j ∨ D i) σ' K a' w' → next a' w') :
    if Region.wanted y.o (yielded ops a.tmps) then y.o.wp P a w next Q ∨ Z else next (a.put y.o.dst undef) w := by
  have hlo : y.a.loud = false := by
    cases h : y.a.loud with
    | false => rfl
    | true => exact absurd (I.done q j y hq hy h) hj
  have hkl := I.kle
  obtain ⟨hmo, hma, hmr, hmb⟩ := hL.mem q j y hy
  have st := hS q j y hy
  have hrd : ∀ {t : Nat}, t < 256 → t ∈ y.reads → VR σ ((S q).2.at t) (a.tmps.getD t undef) := fun ht hm => I.reads hL hS hy hr hj ht hm
  have hgr : ∀ j b t, y.o.guard = some (j, b) → (ops[j]?).bind (·.dst) = some t → VR σ ((S q).2.at t) (a.tmps.getD t undef) := fun j b t hg ht =>
    hrd (st.grd j b t hg ht) (by rw [hmr]; exact guard_reads hg ht)
  have hE : EnvR σ (.some n (readsOf ops y.o)) (S q).2 a.tmps := ⟨I.sz, fun t ht hk => hrd ht (by rw [hmr]; simpa [Tm.some] using hk)⟩
  have hs : OpSim P (.some n (readsOf ops y.o)) y.o y.a := by rw [hma]; exact op_sim'
  have hat : ∀ v, (S (q + 1)).2 = (S q).2.put y.o.dst v → ∀ d, y.o.dst = some d → (S (q + 1)).2.at d = v := fun v he d hd => by
    rw [he, QE.at_put _ (st.dst d hd).2 (fun s hs => (st.dst s hs).2), if_pos hd]
  rcases st.one with ⟨hw, v, hv, he⟩ | ⟨hw, _, he⟩
  · -- it is wanted
    rw [wanted_of hw hgr, if_pos rfl]
    obtain ⟨s, hsK, hsn, hs2⟩ := last_look hy hlo hq hkl
    have hqs : q ≤ s := by rcases hs2 with h | ⟨l, _, _, h1, _, h2, _, _⟩ <;> omega
    have hgrow := I.grow hS hsK (Nat.le_refl K) hsn
    -- what it is where it is looked at last
    have hag : s = q ∨ (q < s ∧ ((y.a.makes = true ∨ y.a.looks = true) → (∀ t ∈ y.reads, t < 256 → (S s).2.at t = (S q).2.at t) ∧ AgainOk ops cf y.o y.a (S s).1 (S s).2 ∧
        ∀ d, y.o.dst = some d → (S s).2.at d = (S (q + 1)).2.at d)) := by
      rcases hs2 with h | ⟨l, i, x, h1, h2, h3, h4, h5⟩
      · exact .inl h
      · refine .inr ⟨by omega, fun hmk => ?_⟩
        subst h3
        have hbit : x.bef.testBit j = false := by
          cases hb : x.bef.testBit j with
          | false => rfl
          | true =>
            rw [(hL.mem l i x h4).2.2.2] at hb
            exact absurd (I.cl i (I.done l i x h2 h4 h5) j hb) hj
        obtain ⟨g1, g2⟩ := (hS l i x h4).again h5 q j y h1 hy hmk hbit
        refine ⟨fun t ht h256 => env_same hS h256 (by omega) (by omega) fun r k z r1 r2 r3 hd => g1 r k z r1 (by omega) r3 t hd ht, g2, fun d hd => ?_⟩
        exact env_same hS (st.dst d hd).2 (by omega) (by omega) fun r k z r1 r2 r3 => ((hL.ord q r j k y z (by omega) hy r3).2.1 d hd).2
    cases hmk : y.a.makes with
    | true =>
      have hms : MadeSim P (.some n (readsOf ops y.o)) y.o y.a := by
        rw [hma]; exact made_of' (hL.made q j y hy hmk) (by rw [← hma]; exact hmk)
      have key : ∃ b f, (S K).1.get (S q).1.nx = b ∧ v = f (S q).1.nx ∧ b ≠ .dead ∧ MadeAt P σ w (execOp a.eval y.o) b f := by
        rcases hag with h | ⟨hlt, hag⟩
        · subst h
          have hv2 := hv
          rw [make_go hmk] at hv2
          obtain ⟨b, f, g2, hb, hM⟩ := hms (S s).2 _ v _ (show y.a.made (S s).2 (fun b f => (S s).1.new b fun a h => .ok (f a) h) = .ok v _ from hv2)
          obtain ⟨z, hz, g3⟩ := Hp.new_ok g2
          injection g3 with g4 g5
          refine ⟨b, f, ?_, g4.symm, hb, hM σ (S K).1 w a I.rel hE⟩
          have hg2 := I.grow hS (show s + 1 ≤ K by omega) (Nat.le_refl K) fun r i x h1 h2 h3 => hsn r i x (by omega) h2 h3
          have h6 : (S (s + 1)).1.get (S s).1.nx = b := by rw [← g5, Hp.get_add, if_pos rfl]
          rw [hg2 _ (by rw [h6]; exact hb), h6]
        · obtain ⟨g1, g2, g3⟩ := hag (.inl hmk)
          have hE2 : EnvR σ (.some n (readsOf ops y.o)) (S s).2 a.tmps := ⟨I.sz, fun t ht hk => by
            have hm : t ∈ y.reads := by rw [hmr]; simpa [Tm.some] using hk
            show VR σ ((S s).2.at t) _
            rw [g1 t hm ht]; exact hrd ht hm⟩
          rcases g2 with ⟨_, d, hd, hf⟩ | hw2
          · rw [hmk, if_pos rfl] at hf
            obtain ⟨x, b, f, hx, hb, hvf, hbd, hM⟩ := fresh_ok hms hf
            have hvv : (S s).2.at d = v := by rw [g3 d hd, hat v he d hd]
            rw [hvv] at hx hvf
            have hxq : x = (S q).1.nx := by
              rcases quiet_step hy hlo hS with ⟨_, hn⟩ | ⟨_, z, b', h1, h2, h3⟩
              · exact absurd ⟨hmk, hw⟩ hn
              · have := h3 d hd
                rw [hat v he d hd] at this
                exact hx.uniq this
            subst hxq
            exact ⟨b, f, by rw [hgrow _ (by rw [hb]; exact hbd), hb], hvf, hbd, hM σ (S K).1 w a I.rel hE2⟩
          · exact (hw.not_both (hw2.congr fun t ht h256 => (g1 t (by rw [hmr]; exact ht) h256).symm)).elim
      obtain ⟨b, f, hb, hvf, hbd, ⟨obj, c, i, hrun, hi, hxx⟩⟩ := key
      have hun := I.unb q j y hq hy hmk hw hj
      have hnx : (S q).1.nx.n < (S K).1.nx.n := by
        apply Classical.byContradiction
        intro h
        exact hbd (by rw [← hb]; exact I.tidy K (Nat.le_refl _) _ (by omega))
      have hle : Le σ (σ.add (S q).1.nx i) := fun z k hz => by
        rw [Sg.add_eq]
        split
        · rename_i e; subst e; rw [hun] at hz; cases hz
        · exact hz
      obtain ⟨h1, h2⟩ := hxx (S q).1.nx hle
      obtain ⟨_, r2⟩ := I.rel.born hun hnx hi (by rw [hb]; exact h2)
      left
      unfold Oper.wp
      rw [hrun]
      refine hn _ _ _ (I.float hL hS hq hy hr hle (w' := { w with heap := w.heap.push obj }) r2 (fun d hd => by rw [hat v he d hd, hvf]; exact h1) hlo (fun x hx _ hne => ?_) (fun x hx => ?_) rfl)
      · rw [Sg.add_eq]
        rw [if_neg (hne hmk hw)]; exact hx
      · rw [Sg.add_eq]
        rw [if_neg fun e => by subst e; have := I.mono 0 q (Nat.zero_le _) (by omega); omega]
    | false =>
      -- it does not make a block: it gives in the greater heap what it gave
      have key : ∃ e', EnvR σ (.some n (readsOf ops y.o)) e' a.tmps ∧ ∃ u, y.a.go cf (S K).1 e' = .ok u (S K).1 ∧ ∀ d, y.o.dst = some d → (S (q + 1)).2.at d = u := by
        cases hlk : y.a.looks with
        | false => exact ⟨(S q).2, hE, v, (free_go (h2 := (S K).1) hlo hmk hlk cf (S q).2 v _ hv).2, hat v he⟩
        | true =>
          rcases hag with h | ⟨hlt, hag⟩
          · subst h; exact ⟨(S s).2, hE, v, (look_go hgrow hlk cf (S s).2 v _ hv).2, hat v he⟩
          · obtain ⟨g1, g2, g3⟩ := hag (.inr hlk)
            have hE2 : EnvR σ (.some n (readsOf ops y.o)) (S s).2 a.tmps := ⟨I.sz, fun t ht hk => by
              have hm : t ∈ y.reads := by rw [hmr]; simpa [Tm.some] using hk
              show VR σ ((S s).2.at t) _
              rw [g1 t hm ht]; exact hrd ht hm⟩
            rcases g2 with ⟨_, d, hd, hf⟩ | hw2
            · rw [hmk] at hf
              simp only [Bool.false_eq_true, if_false] at hf
              obtain ⟨h', hf⟩ := hf
              exact ⟨(S s).2, hE2, _, (look_go hgrow hlk cf (S s).2 _ _ hf).2, fun d' hd' => by rw [hd] at hd'; cases hd'; rw [g3 d hd]⟩
            · exact (hw.not_both (hw2.congr fun t ht h256 => (g1 t (by rw [hmr]; exact ht) h256).symm)).elim
      obtain ⟨e', hE2, u, hu, hd⟩ := key
      refine .inl (NextOk.wp (hs cf σ (S K).1 w e' a u (S K).1 hcf I.rel hE2 hu) fun σ' c w' hx r' hc => ?_)
      refine hn _ _ _ (I.float hL hS hq hy hr (hx.to_le I.rel) r' (fun d hd' => by rw [hd d hd']; exact hc) hlo (fun x h1 h2 _ => by rw [hx.old x h2]; exact h1) (fun x h => hx.old x ?_) hx.fr)
      exact Nat.lt_of_lt_of_le h (I.mono 0 K (Nat.zero_le _) (Nat.le_refl _))
  · rw [wanted_of hw hgr]
    simp only [Bool.false_eq_true, if_false]
    refine hn σ _ _ (I.float hL hS hq hy hr (Le.refl _) I.rel (fun d hd => ?_) hlo (fun x hx _ _ => hx) (fun _ _ => rfl) rfl)
    rw [hat _ he d hd]; exact undef_t _
end
end Go.Proofs.YtoipldpekiikjaaGreatDoor.Clo

namespace Go.Proofs.YtoipldpekiikjaaGreatDoor.Clo
set_option linter.all false

theorem count_lt {p q : Nat → Bool} : ∀ {l : List Nat} {x : Nat}, (∀ y ∈ l, q y = true → p y = true) → x ∈ l → p x = true → q x = false → (l.filter q).length < (l.filter p).length
  | y :: l, x, h, hx, hp, hq => by
    have hle : ∀ (l : List Nat), (∀ y ∈ l, q y = true → p y = true) → (l.filter q).length ≤ (l.filter p).length := by
      intro l
      induction l with
      | nil => intro _; simp
      | cons z l ih =>
        intro h
        have h1 := ih fun y hy => h y (List.mem_cons_of_mem _ hy)
        simp only [List.filter_cons]
        by_cases hz : q z = true
        · rw [if_pos hz, if_pos (h z (List.mem_cons_self ..) hz)]; simp; exact h1
        · rw [if_neg hz]
          split
          · simp; omega
          · exact h1
    simp only [List.filter_cons]
    by_cases hxy : x = y
    · subst hxy
      rw [if_neg (by simp [hq]), if_pos hp]
      have := hle l fun y hy => h y (List.mem_cons_of_mem _ hy)
      simp; omega
    · have hxl : x ∈ l := by cases hx with | head => exact absurd rfl hxy | tail _ h => exact h
      have ih := count_lt (fun y hy => h y (List.mem_cons_of_mem _ hy)) hxl hp hq
      by_cases hy : q y = true
      · rw [if_pos hy, if_pos (h y (List.mem_cons_self ..) hy)]; simp; exact ih
      · rw [if_neg hy]
        split
        · simp; omega
        · exact ih

section
variable {P : Program} {n : Nat} {ops : Array Oper} {cf : CF} {L : List (Nat × OI)} {S : Nat → Hp × QE} {σ0 : Sg} {a0 : Act}

def undone (ops : Array Oper) (listed : Array Bool) : Nat := ((List.range ops.size).filter fun i => !listed.getD i true).length

theorem getD_same {ops : Array Oper} {listed : Array Bool} (hs : listed.size = ops.size) {i : Nat} (hi : i < ops.size) (b b' : Bool) : listed.getD i b = listed.getD i b' := by
  simp [Array.getD, show i < listed.size by omega]
theorem getD_put {listed : Array Bool} {i k : Nat} (hi : i < listed.size) : ((listed.setIfInBounds i true).getD k false = true) ↔ (k = i ∨ listed.getD k false = true) := by
  by_cases hk : k < listed.size
  · by_cases h : k = i
    · subst h; simp [Array.getD, hk]
    · simp [Array.getD, hk, h, Array.getElem_setIfInBounds_ne hk (Ne.symm h)]
  · have : k ≠ i := fun e => hk (by omega)
    simp [Array.getD, hk, this]

theorem Inv.congr {D D' : Nat → Prop} {σ : Sg} {K : Nat} {a : Act} {w : World} (I : Inv P n ops L S σ0 a0 D σ K a w) (h : ∀ i, D i ↔ D' i) : Inv P n ops L S σ0 a0 D' σ K a w := by
  have : D = D' := funext fun i => propext (h i)
  rw [← this]; exact I

theorem any_wp (hL : Stat P n ops L) (hS : ∀ (p i : Nat) (y : OI), L[p]? = some (i, y) → StepAt ops n cf L S p y) (hcf : CallOk P cf) {Q : Exit → Act → World → Prop}
    (hq : ∀ a' w', Kept P n σ0 (S 0).1 a0 (S L.length).1 (S L.length).2 a' w' → Q .normal a' w') :
    ∀ (fuel : Nat) (listed : Array Bool) (σ : Sg) (K : Nat) (a : Act) (w : World), listed.size = ops.size → undone ops listed ≤ fuel → Inv P n ops L S σ0 a0 (fun i => listed.getD i false = true) σ K a w →
      (∀ (i : Nat) (x : OI), L[K]? = some (i, x) → x.a.loud = true) → wpAny P .any ops Q fuel listed a w := by
  intro fuel
  have fin : ∀ (listed : Array Bool) (σ : Sg) (K : Nat) (a : Act) (w : World), listed.size = ops.size → Inv P n ops L S σ0 a0 (fun i => listed.getD i false = true) σ K a w →
      (∀ (i : Nat) (x : OI), L[K]? = some (i, x) → x.a.loud = true) → Region.ready .any ops listed = [] → Q .normal a w := by
    intro listed σ K a w hs I hK hr
    refine hq _ _ (I.all hL hS ?_ hK)
    intro p
    induction p using Nat.strongRecOn with
    | _ p ih =>
      intro i x hx
      apply Classical.byContradiction
      intro hD
      obtain ⟨ho, _, _, hb⟩ := hL.mem p i x hx
      have hi : i < ops.size := (Array.getElem?_eq_some_iff.1 ho).1
      have : i ∈ Region.ready .any ops listed := by
        unfold Region.ready
        rw [List.mem_filter]
        refine ⟨List.mem_range.2 hi, ?_⟩
        rw [ho, getD_same hs hi true false]
        simp only [Bool.and_eq_true, Bool.not_eq_true', Option.map_some, Option.getD_some]
        refine ⟨by simpa using hD, ?_⟩
        rw [← Array.all_toList, List.all_eq_true]
        intro e he
        cases hbi : Region.binds .any e with
        | false => simp
        | true =>
          have hbit := before_direct ho he hbi
          rw [← hb] at hbit
          obtain ⟨q, y, hq', hy⟩ := hL.bef p i x _ hx hbit
          have := ih q hq' _ y hy
          simpa using this
      rw [hr] at this
      cases this
  induction fuel with
  | zero =>
    intro listed σ K a w hs hu I hK
    have hr : Region.ready .any ops listed = [] := by
      unfold undone at hu
      have : (List.range ops.size).filter (fun i => !listed.getD i true) = [] := List.eq_nil_of_length_eq_zero (by omega)
      unfold Region.ready
      rw [List.filter_eq_nil_iff] at this ⊢
      intro i hi
      have := this i hi
      simp only [Bool.not_eq_true', Bool.not_eq_false] at this
      simp [this]
    exact ⟨hr, fin listed σ K a w hs I hK hr⟩
  | succ fuel ih =>
    intro listed σ K a w hs hu I hK
    refine ⟨fin listed σ K a w hs I hK, fun i hi => ?_⟩
    unfold Region.ready at hi
    rw [List.mem_filter] at hi
    obtain ⟨hir, hi2⟩ := hi
    have hil : i < ops.size := List.mem_range.1 hir
    obtain ⟨q, y, hy⟩ := hL.pos i hil
    obtain ⟨ho, hma, hmr, hb⟩ := hL.mem q i y hy
    rw [ho, Bool.and_eq_true] at hi2
    obtain ⟨hnd, hall⟩ := hi2
    simp only [Option.map_some, Option.getD_some] at hall
    have hj : ¬ (listed.getD i false = true) := by
      rw [getD_same hs hil false true]
      simpa using hnd
    have hr : ∀ b, y.bef.testBit b = true → listed.getD b false = true := by
      intro b hbb
      rw [hb] at hbb
      obtain ⟨e, he, hbi, h⟩ := before_bit ho b hbb
      rw [← Array.all_toList, List.all_eq_true] at hall
      have h1 := hall e he
      rw [hbi] at h1
      have h1 : listed.getD e.on false = true := by simpa using h1
      rcases h with h | h
      · rw [← h]; exact h1
      · exact I.cl _ h1 b h
    have hn : ∀ σ' K' a' w', Inv P n ops L S σ0 a0 (fun k => k = i ∨ listed.getD k false = true) σ' K' a' w' → wpAny P .any ops Q fuel (listed.setIfInBounds i true) a' w' := by
      intro σ' K' a' w' I'
      obtain ⟨K2, I2, hK2⟩ := I'.on hS _ K' rfl
      refine ih (listed.setIfInBounds i true) σ' K2 a' w' (by simpa using hs) ?_ (I2.congr fun k => (getD_put (by omega)).symm) hK2
      have : undone ops (listed.setIfInBounds i true) < undone ops listed := by
        unfold undone
        refine count_lt (fun k hk h => ?_) hir (by simpa using hnd) ?_
        · have hkl := List.mem_range.1 hk
          rw [getD_same (by simpa using hs) hkl true false] at h
          rw [getD_same hs hkl true false]
          simp only [Bool.not_eq_true'] at h ⊢
          cases h2 : listed.getD k false with
          | false => rfl
          | true => rw [(getD_put (by omega)).2 (.inr h2)] at h; cases h
        · rw [getD_same (by simpa using hs) hil true false, (getD_put (by omega)).2 (.inl rfl)]; rfl
      omega
    have hqK : q ≤ K := by
      apply Classical.byContradiction
      intro h
      have hql : q < L.length := (List.getElem?_eq_some_iff.1 hy).1
      have hx : L[K]? = some (L[K].1, L[K].2) := by rw [List.getElem?_eq_getElem (by omega)]
      have hl := hK _ _ hx
      exact I.late K _ _ (Nat.le_refl _) hx hl (hr _ ((hL.ord K q _ _ _ y (by omega) hx hy).1 hl))
    unfold wpOp
    simp only [ho]
    rcases Nat.lt_or_eq_of_le hqK with hlt | rfl
    · exact float_wp hL hS hcf I hlt hy hr hj fun σ' a' w' I' => hn σ' K a' w' I'
    · have st := hS q i y hy
      have hrd : ∀ {t : Nat}, t < 256 → t ∈ y.reads → VR σ ((S q).2.at t) (a.tmps.getD t undef) := fun ht hm => I.reads hL hS hy hr hj ht hm
      have hE : EnvR σ (.some n (readsOf ops y.o)) (S q).2 a.tmps := ⟨I.sz, fun t ht hk => hrd ht (by rw [hmr]; simpa [Tm.some] using hk)⟩
      have hs' : OpSim P (.some n (readsOf ops y.o)) y.o y.a := by rw [hma]; exact op_sim'
      refine one_wp hs' st.one hcf I.rel hE (fun j b t hg ht => hrd (st.grd j b t hg ht) (by rw [hmr]; exact guard_reads hg ht)) fun σ' c w' v hx r' hv he => ?_
      exact hn σ' (q + 1) _ _ (I.loud hL hS hy hr hx r' hv he)

/-- A region that is drawn does what its steps say, in whatever order. -/
theorem drawn_ok (hm : P.follows .mixedOrders = true) {l : List AS} (hc : compDrawn P n ops = some l) : RegOk P n ops true l := by
  obtain ⟨L, hL, hw⟩ := stat_of hc
  intro cf hcf σ h e a w x h' e' g r he
  obtain ⟨hx, S, hS0, hSm, hS⟩ := walk_trace L [] l hw h e x h' e' g
  simp only [List.length_nil, Nat.zero_add, List.nil_append] at hS0 hSm hS
  refine ⟨hx, fun Q id hq => ?_⟩
  have hS' : ∀ (p i : Nat) (y : OI), L[p]? = some (i, y) → StepAt ops n cf L S p y := fun p i y h => hS p i y (Nat.zero_le _) h
  have hrep : ∀ i, (Array.replicate ops.size false).getD i false = true ↔ False := fun i => by
    by_cases hi : i < ops.size <;> simp [Array.getD, hi]
  have I0 : Inv P n ops L S σ a (fun i => (Array.replicate ops.size false).getD i false = true) σ 0 a { w with drawn := w.drawn + 1 } := by
    refine ⟨Nat.zero_le _, fun p i x hp => by omega, fun p i x _ _ _ hd => (hrep i).1 hd, fun i hd => ((hrep i).1 hd).elim, by rw [hS0]; exact r, he.1, rfl, fun p i x t _ hd => ((hrep i).1 hd).elim, fun t ht _ => by rw [hS0]; exact he.2 t ht rfl,
      fun p i x hp => by omega, fun p q hpq hq => by rw [show p = q by omega]; exact Nat.le_refl _, fun p hp => by rw [show p = 0 by omega, hS0]; exact r.free, fun _ _ => rfl, rfl⟩
  obtain ⟨K, I, hK⟩ := I0.on hS' _ 0 rfl
  refine wp_region_any hm (any_wp hL hS' hcf (fun a' w' hk => hq a' w' ?_) ops.size _ σ K a _ (by simp) ?_ I hK)
  · rw [hS0, hSm] at hk; exact hk
  · unfold undone
    exact Nat.le_trans (List.length_filter_le _ _) (by simp)
end
end Go.Proofs.YtoipldpekiikjaaGreatDoor.Clo

namespace Go.Proofs.YtoipldpekiikjaaGreatDoor.Clo
set_option linter.all false
section
variable {P : Program} {h h' : Hp} {v : V} {f : Nat} {fn : Func} {as : List V}

/-- A call of a function without a body, by its row. -/
theorem ext_call {e : Array Value → Sem Value} (hf : P.funcs[f]? = some fn) (hname : (fn.name == "runtime.NumGoroutine") = false) (hb : fn.body.isNone = true) (hn : Extern.findNext fn = none) (he : Extern.find fn = some e)
    (hs : ∀ σ w (args : Array Value), Rel P σ h (core w) → VRs σ as args.toList → SimV P σ h h' w v (e args)) : CallAt P f as h v h' := by
  intro σ w args r hv
  obtain ⟨σ', c, w', hr, hx, r', hc⟩ := hs σ w args r hv
  exact .inl ⟨σ', c, w', by rw [run_callFunc_extern hf hname hb hn he, hr]; rfl, hx, r', hc⟩

theorem ext0 {bt : Nat} (g : extrn 0 bt as h = .ok v h') : ∀ σ w (args : Array Value), Rel P σ h (core w) → VRs σ as args.toList → SimV P σ h h' w v (Extern.AbiNoEscape.same args) := by
  intro σ w args r hv
  obtain ⟨args⟩ := args
  match as, g with
  | [x], g =>
    cases (show R1.ok x h = .ok v h' from g)
    cases hv with
    | cons _ c _ cs h1 hs =>
      cases hs
      exact .here (c := c) rfl r h1

theorem digits_size : ∀ (n t : Nat) (acc : Array Value), (Extern.BytealgMakeNoZero.digits n t acc).size = acc.size + n
  | 0, _, _ => rfl
  | n + 1, t, acc => by rw [Extern.BytealgMakeNoZero.digits, digits_size n]; simp; omega
theorem digits_one : ∀ (n t : Nat) (acc : Array Value), (∀ x ∈ acc, x.oneCell' = true) → ∀ x ∈ Extern.BytealgMakeNoZero.digits n t acc, x.oneCell' = true
  | 0, _, _, h => h
  | n + 1, t, acc, h => by
    rw [Extern.BytealgMakeNoZero.digits]
    refine digits_one n _ _ fun x hx => ?_
    rcases Array.mem_push.1 hx with hx | rfl
    · exact h x hx
    · rfl

theorem extrn_inv {k bt : Nat} (g : extrn k bt as h = .ok v h') :
    (k = 0 ∧ ∃ x, as = [x] ∧ R1.ok x h = .ok v h') ∨ (k = 1 ∧ ∃ l n c, as = [.s l n, .i .u8 c] ∧ count8 l c n 0 (fun r => okL r h) = .ok v h') ∨
    (k = 2 ∧ ∃ l n c, as = [.s l n, .i .u8 c] ∧ index8 l c n 0 (fun r => okL r h) (.ok (.i .i64 18446744073709551615) h) = .ok v h') ∨
    (k = 3 ∧ ∃ n, as = [.i .i64 n] ∧ n ≤ 1000000 ∧ (h.new (.cl bt .o 0 n (List.replicate n .u)) fun a h => .ok (.sl a 0 n 0) h) = .ok v h') := by
  unfold extrn at g
  split at g
  · exact .inl ⟨rfl, _, rfl, g⟩
  · exact .inr (.inl ⟨rfl, _, _, _, rfl, g⟩)
  · exact .inr (.inr (.inl ⟨rfl, _, _, _, rfl, g⟩))
  · split at g
    · rename_i hb
      rw [repC_eq] at g
      exact .inr (.inr (.inr ⟨rfl, _, rfl, Nat.le_of_ble_eq_true hb, g⟩))
    · cases g
  · cases g

theorem choose_then {q : Question} {w : World} {k : Nat → World → Result Value} {R : Result Value → Prop} (hq : q.forced = false) (h : ∀ b, R (k b (drew w))) : R ((Sem.run P (choose q) w).andThen k) := by
  have := h (q.cut (w.tape w.drawn q))
  simpa [hq, drew] using this

theorem ext3 {bt : Nat} {ps rs : Array TypeId} {rt : TypeId} (hrt : rs = #[rt]) (hu : P.underlying rt = some (.slice bt)) (hsz : P.cellsOf bt = 1) (g : extrn 3 bt as h = .ok v h') :
    ∀ σ w (args : Array Value), Rel P σ h (core w) → VRs σ as args.toList → SimV P σ h h' w v (Extern.BytealgMakeNoZero.makeNoZero ps rs args) := by
  intro σ w args r hv
  obtain ⟨args⟩ := args
  rcases extrn_inv g with ⟨h0, _⟩ | ⟨h0, _⟩ | ⟨h0, _⟩ | ⟨_, n, rfl, hn, g⟩
  · cases h0
  · cases h0
  · cases h0
  obtain ⟨y, hy, g2⟩ := Hp.new_ok g
  cases g2
  cases hv with
  | cons _ c _ cs h1 hs =>
    cases hs
    obtain ⟨_, rfl⟩ := h1.inv_i
    have hp : pos .i64 n = true := by simp [pos, sgn, half]; omega
    rw [toI_pos hp]
    have hcap := cap_ge n 0 bt (w.tape w.drawn (.appendCap n 0 bt))
    have h1' : ¬ (n : Int) < 0 := by omega
    have h2' : ¬ (281474976710656 : Int) < (n : Int) := by omega
    have hcs : ∃ (cs : Array Value) (w2 : World), (Extern.BytealgMakeNoZero.makeNoZero ps rs #[.int .i64 (n : Int)]).run P w = .ok (.slice (some ⟨w.heap.size, 0, none⟩) n cs.size) w2 ∧ core w2 = (core w).with (w.heap.push (.cells cs bt)) ∧
        n ≤ cs.size ∧ ∀ x ∈ cs, x.oneCell' = true := by
      subst hrt
      have hd : Extern.BytealgMakeNoZero.makeNoZero ps #[rt] #[.int .i64 (n : Int)] = (underlying rt >>= _) := rfl
      rw [hd]
      have h3' : decide ((n : Int) > 2 ^ 48) = false := by simp; omega
      simp only [h3', Sem.run_bind, run_underlying hu, Result.andThen_ok, h1', decide_false, Bool.or_self, Bool.false_eq_true, if_false, Int.toNat_natCast, run_cap, run_askRoom]
      refine choose_then (R := fun r => ∃ (cs : Array Value) (w2 : World), r = .ok (.slice (some ⟨w.heap.size, 0, none⟩) n cs.size) w2 ∧ core w2 = (core w).with (w.heap.push (.cells cs bt)) ∧ n ≤ cs.size ∧ ∀ x ∈ cs, x.oneCell' = true) rfl fun b => ?_
      refine ⟨Extern.BytealgMakeNoZero.digits ((Question.appendCap n 0 bt).cut (w.tape w.drawn (.appendCap n 0 bt))) b #[], { drew (drew w) with heap := w.heap.push (.cells (Extern.BytealgMakeNoZero.digits ((Question.appendCap n 0 bt).cut (w.tape w.drawn (.appendCap n 0 bt))) b #[]) bt) }, ?_, rfl, ?_, digits_one _ _ #[] (by simp)⟩
      · simp [newRow, drew, digits_size]
        rfl
      · rw [digits_size]; simpa using hcap
    obtain ⟨cs, w2, hrun, hw2, hle, hone⟩ := hcs
    have hlen : (List.replicate n V.u).length = n := List.length_replicate
    obtain ⟨r1, r2, r3⟩ := new_cells (w := w) r hy (l := List.replicate n V.u) (cs := cs) (t := bt) (st := .o) (fz := 0) (fr := (0, 0)) (by rw [hlen]; exact hle) (fun e => by cases e)
      (fun j q hq => by
        obtain ⟨hj, hq'⟩ := List.getElem?_eq_some_iff.1 hq
        rw [hlen] at hj
        rw [List.getElem_replicate] at hq'
        subst hq'
        refine ⟨cs[j]'(by omega), by rw [Array.getElem?_eq_getElem], .u _, hone _ (Array.getElem_mem _)⟩)
      (fun j _ _ h3 => by simp at h3) (fun _ => .inr rfl) (fun _ _ => rfl)
    rw [hlen] at r1 r2
    refine ⟨_, _, w2, hrun, r2, by rw [hw2]; exact r1, ?_⟩
    exact VR.sl h.nx 0 n 0 _ cs.size r3 hle (fun _ => by simp only [hsz, Nat.mul_one, Nat.add_zero]) (fun k hk => by omega)

/-- The letters of a packed string, counted; found. -/
theorem packB_cons_mod (b : UInt8) (l : List UInt8) : packB (b :: l) % 256 = b.toNat ∧ packB (b :: l) / 256 = packB l := by
  have h := b.toNat_lt
  simp only [packB]
  constructor <;> omega
def countL (c : Nat) : List UInt8 → Nat
  | [] => 0
  | b :: l => (if b.toNat = c then 1 else 0) + countL c l
theorem count8_eq (c : Nat) : ∀ (l : List UInt8) (acc : Nat) (k : Nat → R1), count8 l.length c (packB l) acc k = k (acc + countL c l)
  | [], acc, k => rfl
  | b :: l, acc, k => by
    obtain ⟨h1, h2⟩ := packB_cons_mod b l
    show (fo (Nat.div (packB (b :: l)) 256) fun n' => bR (Nat.beq (Nat.mod (packB (b :: l)) 256) c) (fo (.succ acc) fun acc => count8 l.length c n' acc k) (count8 l.length c n' acc k)) = _
    rw [fo_eq, fo_eq, show Nat.div (packB (b :: l)) 256 = packB l from h2, show Nat.mod (packB (b :: l)) 256 = b.toNat from h1, count8_eq c l, count8_eq c l]
    simp only [countL]
    by_cases h : b.toNat = c
    · subst h; rw [Nat.beq_refl, if_pos rfl]; show k (acc + 1 + _) = _; congr 1; omega
    · have : Nat.beq b.toNat c = false := by
        cases hb : Nat.beq b.toNat c with
        | false => rfl
        | true => exact absurd (Nat.eq_of_beq_eq_true hb) h
      rw [this, if_neg h]; show k (acc + _) = _; congr 1; omega
def indexL (c : Nat) : List UInt8 → Option Nat
  | [] => none
  | b :: l => if b.toNat = c then some 0 else (indexL c l).map (· + 1)
theorem index8_eq (c : Nat) : ∀ (l : List UInt8) (i : Nat) (k : Nat → R1) (z : R1), index8 l.length c (packB l) i k z = match indexL c l with | some j => k (i + j) | none => z
  | [], i, k, z => rfl
  | b :: l, i, k, z => by
    obtain ⟨h1, h2⟩ := packB_cons_mod b l
    show bR (Nat.beq (Nat.mod (packB (b :: l)) 256) c) (k i) (fo (Nat.div (packB (b :: l)) 256) fun n' => fo (.succ i) fun i' => index8 l.length c n' i' k z) = _
    rw [fo_eq, fo_eq, show Nat.div (packB (b :: l)) 256 = packB l from h2, show Nat.mod (packB (b :: l)) 256 = b.toNat from h1, index8_eq c l]
    simp only [indexL]
    by_cases h : b.toNat = c
    · subst h; rw [Nat.beq_refl, if_pos rfl]; rfl
    · have : Nat.beq b.toNat c = false := by
        cases hb : Nat.beq b.toNat c with
        | false => rfl
        | true => exact absurd (Nat.eq_of_beq_eq_true hb) h
      rw [this, if_neg h]
      cases indexL c l with
      | none => rfl
      | some j => show k (i.succ + j) = k (i + (j + 1)); congr 1; omega

theorem countL_eq {c : Nat} {b : UInt8} (hb : b.toNat = c) : ∀ l : List UInt8, countL c l = l.count b
  | [] => rfl
  | x :: l => by
    simp only [countL, List.count_cons, countL_eq hb l]
    by_cases h : x = b
    · subst h; simp [hb]; omega
    · have h2 : x.toNat ≠ c := fun e => h (by rw [← hb] at e; exact UInt8.toNat_inj.1 e)
      simp [h, h2]
theorem indexL_eq {c : Nat} {b : UInt8} (hb : b.toNat = c) : ∀ l : List UInt8, Lib.indexByte l b = match indexL c l with | some j => (j : Int) | none => -1
  | [] => rfl
  | x :: l => by
    simp only [indexL, Lib.indexByte, indexL_eq hb l]
    by_cases h : x = b
    · subst h; simp [hb]
    · have h2 : x.toNat ≠ c := fun e => h (by rw [← hb] at e; exact UInt8.toNat_inj.1 e)
      rw [if_neg h2]
      have h3 : (x == b) = false := by simpa using h
      rw [h3]
      cases indexL c l with
      | none => rfl
      | some j =>
        have : ((j : Int) == -1) = false := by simp
        simp [this]
theorem u8_of {c : Nat} (h : c < mod .u8) : (toI .u8 c) = (c : Int) ∧ (c : Int).toNat.toUInt8.toNat = c := by
  have h : c < 256 := h
  refine ⟨toI_pos rfl, ?_⟩
  simp only [Int.toNat_natCast, Nat.toUInt8_eq, UInt8.toNat_ofNat']
  omega

theorem ext1 {bt : Nat} (g : extrn 1 bt as h = .ok v h') : ∀ σ w (args : Array Value), Rel P σ h (core w) → VRs σ as args.toList → SimV P σ h h' w v (Extern.BytealgCount.count args) := by
  intro σ w args r hv
  obtain ⟨args⟩ := args
  have gi := extrn_inv g
  clear g
  rcases gi with ⟨h0, _⟩ | ⟨_, l, n, c, rfl, g⟩ | ⟨h0, _⟩ | ⟨h0, _⟩
  · cases h0
  · cases hv with
    | cons _ c1 _ cs h1 hs =>
      cases hs with
      | cons _ c2 _ cs h2 hs =>
        cases hs
        obtain ⟨bs, rfl, rfl, rfl⟩ := h1.inv_s
        obtain ⟨hc, rfl⟩ := h2.inv_i
        obtain ⟨e1, e2⟩ := u8_of hc
        rw [count8_eq] at g
        obtain ⟨rfl, rfl, hm⟩ := okL_ok g
        rw [e1]
        refine .here (c := .int .i64 ((Lib.countByte bs.data.toList (c : Int).toNat.toUInt8 : Nat) : Int)) (Lib.run_countString bs c w) r ?_
        have := VR.len σ hm
        rw [Nat.zero_add, countL_eq e2] at this ⊢
        exact this
  · cases h0
  · cases h0

theorem ext2 {bt : Nat} (g : extrn 2 bt as h = .ok v h') : ∀ σ w (args : Array Value), Rel P σ h (core w) → VRs σ as args.toList → SimV P σ h h' w v (Extern.BytealgIndexByte.indexByte args) := by
  intro σ w args r hv
  obtain ⟨args⟩ := args
  have gi := extrn_inv g
  clear g
  rcases gi with ⟨h0, _⟩ | ⟨h0, _⟩ | ⟨_, l, n, c, rfl, g⟩ | ⟨h0, _⟩
  · cases h0
  · cases h0
  · cases hv with
    | cons _ c1 _ cs h1 hs =>
      cases hs with
      | cons _ c2 _ cs h2 hs =>
        cases hs
        obtain ⟨bs, rfl, rfl, rfl⟩ := h1.inv_s
        obtain ⟨hc, rfl⟩ := h2.inv_i
        obtain ⟨e1, e2⟩ := u8_of hc
        rw [index8_eq] at g
        rw [e1]
        have hrun := run_indexByte_string (P := P) bs c w
        rw [Lib.firstIdx_eq, indexL_eq e2] at hrun
        cases hi : indexL c bs.data.toList with
        | some j =>
          rw [hi] at g hrun
          obtain ⟨rfl, rfl, hm⟩ := okL_ok g
          refine .here hrun r ?_
          have := VR.len σ hm
          rw [Nat.zero_add] at this ⊢
          exact this
        | none =>
          rw [hi] at g hrun
          cases g
          refine .here hrun r ?_
          exact VR.i (σ := σ) .i64 18446744073709551615 (by decide)
  · cases h0
end
end Go.Proofs.YtoipldpekiikjaaGreatDoor.Clo
