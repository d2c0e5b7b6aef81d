/-
  More operations: abstract runs agree with the model. No condition but those of each law.
-/
import Derived.Test.YtoipldpekiikjaaGreatDoorCloB
namespace Go.Proofs.YtoipldpekiikjaaGreatDoor.Clo
set_option linter.all false
section
variable {P : Program} {n : Tm} {o : Oper} {σ σ' : Sg} {h h' : Hp} {w : World} {v : V}

theorem depth_succ (P : Program) : ∃ d, P.depth = d + 2 := ⟨2 * (P.types.size + Made.depth), rfl⟩
theorem sameLayout_refl (d : Nat) (t : TypeId) : sameLayout P (d + 1) t t = true := by simp [sameLayout]

theorem stC_ok {st : BS} {x : R1} (g : stC st x = .ok v h') : st = .c ∧ x = .ok v h' := by cases st <;> first | (cases g; done) | exact ⟨rfl, g⟩
theorem unp_ok {t m : Nat} {x : V} {cv : Value} (r : Rel P σ h (core w)) (vx : VR σ x cv)
    (g : asP x (fun a o => h.cl a fun t' st _ n _ => nR o (bR (Nat.ble m n) (stC st (bR (Nat.beq t t') (.ok (.p a 0) h) (.no 59))) (.no 60)) fun _ => .no 60) = .ok v h') :
    h' = h ∧ VR σ v cv ∧ ∃ (i : Inf) (cs : Array Value) (fr : Nat × Nat), cv = .pointer (some ⟨i.blk, 0, none⟩) ∧ w.heap[i.blk]? = some (.cells cs t fr) ∧ m ≤ cs.size := by
  obtain ⟨b, off, h1, g1⟩ := asP_ok g
  obtain ⟨t', st, fz, nn, l, hb, g2⟩ := Hp.cl_ok g1
  rcases nR_ok g2 with ⟨rfl, g3⟩ | ⟨_, _, g3⟩
  case inr => cases g3
  obtain ⟨hm, g4⟩ := bR_no g3
  have hm := nble hm
  obtain ⟨rfl, g5⟩ := stC_ok g4
  obtain ⟨ht, g6⟩ := bR_no g5
  have ht := nbeq ht
  subst ht
  cases g6
  subst h1
  obtain ⟨i, hi, ex⟩ := vx.inv_p
  obtain ⟨cs, fr, br⟩ := r.cl hi hb
  obtain ⟨hE, hd⟩ := br.shut rfl
  have := br.size
  refine ⟨rfl, vx, i, cs, fr, by rw [ex, hd], br.at_, by omega⟩
theorem run_shape_cells {q : Nat} {cs : Array Value} {t : Nat} {fr : Nat × Nat} (ha : w.heap[q]? = some (.cells cs t fr)) : (shape q).run P w = .ok (some (t, cs.size)) w := by simp [World.shape?, ha]

theorem sim_unp1 {s d el : TypeId} {m : Nat} {x : Operand} {y : O} (hs : P.underlying s = some (.pointer el)) (hd : P.underlying d = some .unsafePointer) (hm : size? P el = some (m + 1))
    (hx : opd P n x = some y) (ho : o.op = .convert s d x) : OpSim P n o (.unp el (m + 1) y) := by
  intro cf σ h w e a v h' _ r he g
  obtain ⟨rfl, hv, i, cs, fr, ex, ha, hle⟩ := unp_ok r (opd_sim r he hx) g
  have hex : execOp a.eval o = (do let v ← convert s d (a.eval x); pure (.value v)) := by simp [execOp, ho]
  rw [hex]
  refine .val (.here (c := a.eval x) ?_ r hv)
  rw [ex]
  have hsh := run_shape_cells (P := P) ha
  have hpos : ¬ (0 ≥ cs.size) := by omega
  have hview : (viewAt i.blk).run P w = .ok none w := by simp only [viewAt, Sem.run_bind, hsh, Result.andThen_ok, Option.isSome_some, if_true, Sem.run_pure]
  have hcin : (cellsIn i.blk).run P w = .ok (some cs.size) w := by simp only [cellsIn, Sem.run_bind, hsh, Result.andThen_ok, Sem.run_pure]
  have hseen : (Conv.seenAt ⟨i.blk, 0, none⟩).run P w = .ok ⟨i.blk, 0, none⟩ w := by simp only [Conv.seenAt, Sem.run_bind, hview, Result.andThen_ok, Sem.run_pure]
  simp [convert, run_underlying hs, run_underlying hd, Conv.unsafePointer, hseen, hcin, (run_size (w := w) hm).1]
  intro h0; exact absurd h0 (by intro hc; rw [hc] at hle; simp at hle)
theorem sim_unp2 {s d el : TypeId} {m : Nat} {x : Operand} {y : O} (hs : P.underlying s = some .unsafePointer) (hd : P.underlying d = some (.pointer el)) (hm : size? P el = some (m + 1))
    (hx : opd P n x = some y) (ho : o.op = .convert s d x) : OpSim P n o (.unp el (m + 1) y) := by
  intro cf σ h w e a v h' _ r he g
  obtain ⟨rfl, hv, i, cs, fr, ex, ha, hle⟩ := unp_ok r (opd_sim r he hx) g
  have hex : execOp a.eval o = (do let v ← convert s d (a.eval x); pure (.value v)) := by simp [execOp, ho]
  rw [hex]
  refine .val (.here (c := a.eval x) ?_ r hv)
  rw [ex]
  have hsh := run_shape_cells (P := P) ha
  have hview : (viewAt i.blk).run P w = .ok none w := by simp only [viewAt, Sem.run_bind, hsh, Result.andThen_ok, Option.isSome_some, if_true, Sem.run_pure]
  have hseen : (Conv.seenAt ⟨i.blk, 0, none⟩).run P w = .ok ⟨i.blk, 0, none⟩ w := by simp only [Conv.seenAt, Sem.run_bind, hview, Result.andThen_ok, Sem.run_pure]
  obtain ⟨dd, hdd⟩ := depth_succ P
  have hc := (run_size (w := w) hm).2
  have hrow : rowAt P (sameLayout P (dd + 2) · el) (dd + 2) el (cs.size / P.cellsOf el) 0 1 = true := by
    have h1 : 1 ≤ cs.size / (m + 1) := (Nat.one_le_div_iff (by omega)).2 hle
    simp [rowAt, hc, sameLayout_refl, h1]
  have hva : (variablesAt ⟨i.blk, 0, none⟩ el 1).run P w = .ok true w := by
    simp only [variablesAt, Sem.run_bind, run_program, hsh, Result.andThen_ok, Sem.run_pure, hdd]
    simp [liesAt, hdd, hrow]
  simp [convert, run_underlying hs, run_underlying hd, Conv.unsafePointer, hseen, (run_size (w := w) hm).1, hva]

/-- Plain values. -/
theorem eq1_sim {t : TypeId} {q : Nat} {x y : V} {c d : Value} {k : Bool → R1} (hq : kindOf P t = some q) (hx : VR σ x c) (hy : VR σ y d) (g : eq1 q x y k = .ok v h') :
    ∃ b, k b = .ok v h' ∧ ∀ D, (Op.equalIn (D + 1) t c d).run P w = .ok b w := by
  unfold kindOf at hq
  split at hq
  · rename_i hu
    cases hq
    have g : asB x (asB y (k true) (k false)) (asB y (k false) (k true)) = .ok v h' := g
    rcases asB_ok g with ⟨rfl, g2⟩ | ⟨rfl, g2⟩ <;> rcases asB_ok g2 with ⟨rfl, g3⟩ | ⟨rfl, g3⟩ <;> (rw [hx.inv_b, hy.inv_b]; refine ⟨_, g3, fun D => ?_⟩; rw [run_equalIn_bool' w D t _ _ hu]; rfl)
  · rename_i kk hu
    cases hq
    obtain ⟨k1, m1, rfl, g2⟩ := asI_ok (show eqI x y k = .ok v h' from g)
    obtain ⟨k2, m2, rfl, g3⟩ := asI_ok g2
    obtain ⟨hk, g4⟩ := bR_no g3
    rw [kin_eq] at hk
    have hk := of_decide_eq_true hk
    subst hk
    obtain ⟨h1, rfl⟩ := hx.inv_i
    obtain ⟨h2, rfl⟩ := hy.inv_i
    refine ⟨_, g4, fun D => ?_⟩
    rw [run_equalIn_int w D t _ _ _ _ hu, nbeq_eq]
    congr 1
    by_cases e : m1 = m2
    · subst e; simp
    · have : toI k1 m1 ≠ toI k1 m2 := fun e2 => e (toI_inj h1 h2 e2)
      simp [e, this]
  · rename_i hu
    cases hq
    obtain ⟨l1, m1, rfl, g2⟩ := asS_ok (show eqS x y k = .ok v h' from g)
    obtain ⟨l2, m2, rfl, g3⟩ := asS_ok g2
    obtain ⟨bs, rfl, hl1, hn1⟩ := hx.inv_s
    obtain ⟨bs', rfl, hl2, hn2⟩ := hy.inv_s
    rcases bR_ok g3 with ⟨hb, g4⟩ | ⟨hb, g4⟩
    · have hb := nbeq hb
      refine ⟨_, g4, fun D => ?_⟩
      rw [run_equalIn_string w D t _ _ hu, str_eq hl1 hl2 hn1 hn2, nbeq_eq]; simp [hb]
    · refine ⟨_, g4, fun D => ?_⟩
      rw [nbeq_eq] at hb
      rw [run_equalIn_string w D t _ _ hu, str_eq hl1 hl2 hn1 hn2, hb]; rfl
  · rename_i el hu
    split at hq
    · rename_i hz
      cases hq
      have g : peq x y k = .ok v h' := g
      simp only [Option.any_eq_true] at hz
      obtain ⟨sz, hsz, hpos⟩ := hz
      have hne : ¬ sz = 0 := by simpa [Nat.pos_iff_ne_zero] using hpos
      rcases asPP_ok g with ⟨rfl, g2⟩ | ⟨b, off, rfl, g2⟩
      · rcases asPP_ok g2 with ⟨rfl, g3⟩ | ⟨b', off', rfl, g3⟩
        · rw [hx.inv_p0, hy.inv_p0]
          exact ⟨_, g3, fun D => by simp [Op.equalIn, run_underlying hu]⟩
        · obtain ⟨i, _, rfl⟩ := hy.inv_p
          rw [hx.inv_p0]
          exact ⟨_, g3, fun D => by simp [Op.equalIn, run_underlying hu]⟩
      · rcases asPP_ok g2 with ⟨rfl, g3⟩ | ⟨b', off', rfl, g3⟩
        · obtain ⟨i, _, rfl⟩ := hx.inv_p
          rw [hy.inv_p0]
          exact ⟨_, g3, fun D => by simp [Op.equalIn, run_underlying hu]⟩
        · obtain ⟨hs, g4⟩ := bR_no g3
          rw [Nm.same_eq] at hs
          have hs := of_decide_eq_true hs
          subst hs
          obtain ⟨i, hi, rfl⟩ := hx.inv_p
          obtain ⟨i', hi', rfl⟩ := hy.inv_p
          rw [hi] at hi'; cases hi'
          refine ⟨_, g4, fun D => ?_⟩
          simp only [Op.equalIn, Sem.run_bind, run_underlying hu, Result.andThen_ok, (run_size (w := w) hsz).1, ne_eq, hne, not_false_eq_true, if_true, sameAddr, beq_self_eq_true, Sem.run_pure, nbeq_eq]
          congr 1
          by_cases e : off = off'
          · subst e; simp
          · simp [e]
    · cases hq
  · cases hq

theorem sim_q {t yt : TypeId} {x y : Operand} {x' y' : O} (hq : kindOf P t = some 3) (hx : opd P n x = some x') (hy : opd P n y = some y') (ho : o.op = .binOp .eql t x y yt) : OpSim P n o (.qeq x' y') := by
  intro cf σ h w e a v h' _ r he g
  obtain ⟨b, g2, hr⟩ := eq1_sim (w := w) hq (opd_sim r he hx) (opd_sim r he hy) (show eq1 3 (x'.v e) (y'.v e) (fun r => okB r h) = .ok v h' from g)
  obtain ⟨rfl, rfl⟩ := okB_ok g2
  rw [exec_bin ho]
  have hp : ∀ {x : V} {y : V} {k : Bool → R1}, peq x y k = .ok (.b b) h' → (x = .p0 ∨ ∃ b o, x = .p b o) := fun g => by
    rcases asPP_ok g with ⟨h, _⟩ | ⟨b, o, h, _⟩
    · exact .inl h
    · exact .inr ⟨b, o, h⟩
  have hc : ∃ ao, a.eval x = .pointer ao := by
    have vx := opd_sim r he hx
    rcases hp (show peq (x'.v e) (y'.v e) (fun r => okB r h') = .ok (.b b) h' from g) with h1 | ⟨_, _, h1⟩ <;> rw [h1] at vx
    · exact ⟨_, vx.inv_p0⟩
    · obtain ⟨i, _, e⟩ := vx.inv_p; exact ⟨_, e⟩
  obtain ⟨ao, hc⟩ := hc
  have hc2 : ∃ ao, a.eval y = .pointer ao := by
    have vy := opd_sim r he hy
    have hh : y'.v e = .p0 ∨ ∃ b o, y'.v e = .p b o := by
      rcases asPP_ok (show peq (x'.v e) (y'.v e) (fun r => okB r h') = .ok (.b b) h' from g) with ⟨_, g⟩ | ⟨_, _, _, g⟩ <;> rcases asPP_ok g with ⟨h, _⟩ | ⟨b, o, h, _⟩
      · exact .inl h
      · exact .inr ⟨b, o, h⟩
      · exact .inl h
      · exact .inr ⟨b, o, h⟩
    rcases hh with h1 | ⟨_, _, h1⟩ <;> rw [h1] at vy
    · exact ⟨_, vy.inv_p0⟩
    · obtain ⟨i, _, e⟩ := vy.inv_p; exact ⟨_, e⟩
  obtain ⟨ao', hc2⟩ := hc2
  have hr' := hr 9999
  rw [hc, hc2] at hr' ⊢
  refine .val (.guard (eqGuard_plain rfl) (.here (c := .bool b) ?_ r (.b _)))
  have : binOp .eql t (.pointer ao) (.pointer ao') = (do pure (.bool (← Op.equal t (.pointer ao) (.pointer ao')))) := by simp [binOp]
  rw [this]
  simp only [Sem.run_bind, Op.equal, Op.maxDepth, hr', Result.andThen_ok, Sem.run_pure]
theorem sim_qn {t yt : TypeId} {x y : Operand} {x' y' : O} (hq : kindOf P t = some 3) (hx : opd P n x = some x') (hy : opd P n y = some y') (ho : o.op = .binOp .neq t x y yt) : OpSim P n o (.qne x' y') := by
  intro cf σ h w e a v h' _ r he g
  obtain ⟨b, g2, hr⟩ := eq1_sim (w := w) hq (opd_sim r he hx) (opd_sim r he hy) (show eq1 3 (x'.v e) (y'.v e) (fun r => okN r h) = .ok v h' from g)
  obtain ⟨rfl, rfl⟩ := okN_ok g2
  rw [exec_bin ho]
  have hh : (x'.v e = .p0 ∨ ∃ b o, x'.v e = .p b o) ∧ (y'.v e = .p0 ∨ ∃ b o, y'.v e = .p b o) := by
    rcases asPP_ok (show peq (x'.v e) (y'.v e) (fun r => okN r h') = .ok (.b (!b)) h' from g) with ⟨h1, g⟩ | ⟨b1, o1, h1, g⟩ <;> rcases asPP_ok g with ⟨h2, _⟩ | ⟨b2, o2, h2, _⟩
    · exact ⟨.inl h1, .inl h2⟩
    · exact ⟨.inl h1, .inr ⟨_, _, h2⟩⟩
    · exact ⟨.inr ⟨_, _, h1⟩, .inl h2⟩
    · exact ⟨.inr ⟨_, _, h1⟩, .inr ⟨_, _, h2⟩⟩
  have hptr : ∀ {x : V} {c : Value}, (x = .p0 ∨ ∃ b o, x = .p b o) → VR σ x c → ∃ ao, c = .pointer ao := fun hx hv => by
    rcases hx with rfl | ⟨_, _, rfl⟩
    · exact ⟨_, hv.inv_p0⟩
    · obtain ⟨i, _, e⟩ := hv.inv_p; exact ⟨_, e⟩
  obtain ⟨ao, hc⟩ := hptr hh.1 (opd_sim r he hx)
  obtain ⟨ao', hc2⟩ := hptr hh.2 (opd_sim r he hy)
  have hr' := hr 9999
  rw [hc, hc2] at hr' ⊢
  refine .val (.guard (eqGuard_plain rfl) (.here (c := .bool !b) ?_ r (.b _)))
  have : binOp .neq t (.pointer ao) (.pointer ao') = (do pure (.bool (!(← Op.equal t (.pointer ao) (.pointer ao'))))) := by simp [binOp]
  rw [this]
  simp only [Sem.run_bind, Op.equal, Op.maxDepth, hr', Result.andThen_ok, Sem.run_pure]

/-- A slice against nil. -/
theorem eqNil_ok {x y : V} {k : Bool → R1} {c d : Value} {t el : TypeId} (hu : P.underlying t = some (.slice el)) (vx : VR σ x c) (vy : VR σ y d) (g : eqNil x y k = .ok v h') :
    ∃ b, k b = .ok v h' ∧ (∃ A l cap, c = .slice A l cap) ∧ d = .slice none 0 0 ∧ (Op.equalIn 10000 t c d).run P w = .ok b w := by
  rcases asSl_ok g with ⟨rfl, g2⟩ | ⟨_, g2⟩ | ⟨_, _, _, _, _, g2⟩
  case inr.inl => cases g2
  case inr.inr => cases g2
  rw [vy.inv_s0]
  have he' : ∀ (D : Nat) (A : Option Addr) (l cap : Nat), (Op.equalIn (D + 1) t (.slice A l cap) (.slice none 0 0)).run P w = .ok A.isNone w := fun D A l cap => by
    cases A <;> simp [Op.equalIn, run_underlying hu]
  have he : ∀ (A : Option Addr) (l cap : Nat), (Op.equalIn 10000 t (.slice A l cap) (.slice none 0 0)).run P w = .ok A.isNone w := he' 9999
  rcases asSl_ok g2 with ⟨rfl, g3⟩ | ⟨rfl, g3⟩ | ⟨b, o, l, cc, rfl, g3⟩
  · rw [vx.inv_s0]; exact ⟨_, g3, ⟨_, _, _, rfl⟩, rfl, he _ _ _⟩
  · obtain ⟨b, cap, rfl⟩ := vx.inv_se; exact ⟨_, g3, ⟨_, _, _, rfl⟩, rfl, he _ _ _⟩
  · obtain ⟨i, cap, _, rfl, _⟩ := vx.inv_sl; exact ⟨_, g3, ⟨_, _, _, rfl⟩, rfl, he _ _ _⟩
theorem sim_geq {t yt el : TypeId} {x y : Operand} {x' y' : O} (hu : P.underlying t = some (.slice el)) (hx : opd P n x = some x') (hy : opd P n y = some y') (ho : o.op = .binOp .eql t x y yt) : OpSim P n o (.geq x' y') := by
  intro cf σ h w e a v h' _ r he g
  obtain ⟨b, g2, ⟨A, l, cap, hc⟩, hd, hr⟩ := eqNil_ok (w := w) hu (opd_sim r he hx) (opd_sim r he hy) (show eqNil (x'.v e) (y'.v e) (fun r => okB r h) = .ok v h' from g)
  obtain ⟨rfl, rfl⟩ := okB_ok g2
  rw [exec_bin ho]
  rw [hc, hd] at hr ⊢
  refine .val (.guard (eqGuard_plain rfl) (.here (c := .bool b) ?_ r (.b _)))
  have : binOp .eql t (.slice A l cap) (.slice none 0 0) = (do pure (.bool (← Op.equal t (.slice A l cap) (.slice none 0 0)))) := by simp [binOp]
  rw [this]
  simp only [Sem.run_bind, Op.equal, Op.maxDepth, hr, Result.andThen_ok, Sem.run_pure]
theorem sim_gne {t yt el : TypeId} {x y : Operand} {x' y' : O} (hu : P.underlying t = some (.slice el)) (hx : opd P n x = some x') (hy : opd P n y = some y') (ho : o.op = .binOp .neq t x y yt) : OpSim P n o (.gne x' y') := by
  intro cf σ h w e a v h' _ r he g
  obtain ⟨b, g2, ⟨A, l, cap, hc⟩, hd, hr⟩ := eqNil_ok (w := w) hu (opd_sim r he hx) (opd_sim r he hy) (show eqNil (x'.v e) (y'.v e) (fun r => okN r h) = .ok v h' from g)
  obtain ⟨rfl, rfl⟩ := okN_ok g2
  rw [exec_bin ho]
  rw [hc, hd] at hr ⊢
  refine .val (.guard (eqGuard_plain rfl) (.here (c := .bool !b) ?_ r (.b _)))
  have : binOp .neq t (.slice A l cap) (.slice none 0 0) = (do pure (.bool (!(← Op.equal t (.slice A l cap) (.slice none 0 0))))) := by simp [binOp]
  rw [this]
  simp only [Sem.run_bind, Op.equal, Op.maxDepth, hr, Result.andThen_ok, Sem.run_pure]
end
end Go.Proofs.YtoipldpekiikjaaGreatDoor.Clo

namespace Go.Proofs.YtoipldpekiikjaaGreatDoor.Clo
set_option linter.all false
section
variable {P : Program} {n : Tm} {o : Oper} {σ σ' : Sg} {h h' : Hp} {w : World} {v : V}

theorem pickK_ok : ∀ {l : List (Nat × Nat)} {t : Nat} {k : Nat → R1}, pickK l t k = .ok v h' → ∃ q, (t, q) ∈ l ∧ k q = .ok v h'
  | [], _, _, g => by cases g
  | p :: l, t, k, g => by
    rcases bR_ok (show bR (Nat.beq t p.1) (k p.2) (pickK l t k) = .ok v h' from g) with ⟨hb, g2⟩ | ⟨_, g2⟩
    · have hb := nbeq hb
      exact ⟨p.2, by rw [hb]; exact List.mem_cons_self, g2⟩
    · obtain ⟨q, h1, h2⟩ := pickK_ok g2
      exact ⟨q, List.mem_cons_of_mem _ h1, h2⟩
theorem dynOf_mem {ms : Array (String × TypeId)} {t q : Nat} (hm : (t, q) ∈ dynOf P ms) : kindOf P t = some q ∧ ∃ i, P.info? t = some i ∧ i.comparable = true := by
  unfold dynOf at hm
  split at hm
  · cases hm
  · simp only [List.mem_filterMap] at hm
    obtain ⟨⟨i, t'⟩, _, hm⟩ := hm
    split at hm
    · rename_i hc
      simp only [Option.map_eq_some_iff] at hm
      obtain ⟨q', hq, e⟩ := hm
      cases e
      simp only [Bool.and_eq_true, Option.any_eq_true] at hc
      exact ⟨hq, hc.2⟩
    · cases hm

/-- Interface values. -/
theorem eqIf_sim {t : TypeId} {ms : Array (String × TypeId)} {b0 : Bool} {x y : V} {c d : Value} {k : Bool → R1} (hu : P.underlying t = some (.interface ms)) (hx : VR σ x c) (hy : VR σ y d)
    (g : eqIf b0 (dynOf P ms) x y k = .ok v h') : ∃ b, k b = .ok v h' ∧ (Op.equalIn 10000 t c d).run P w = .ok b w ∧ ((c = .nilIface ∧ d = .nilIface ∧ b0 = true) ∨ (∃ t v, c = .iface t v ∧ (d = .nilIface ∨ ∃ t' v', d = .iface t' v')) ∨ (c = .nilIface ∧ ∃ t v, d = .iface t v)) := by
  have e0 : ∀ D, (Op.equalIn (D + 1) t .nilIface .nilIface).run P w = .ok true w := fun D => by simp [Op.equalIn, run_underlying hu]
  have e1 : ∀ D t' u, (Op.equalIn (D + 1) t .nilIface (.iface t' u)).run P w = .ok false w := fun D t' u => by simp [Op.equalIn, run_underlying hu]
  have e2 : ∀ D t' u, (Op.equalIn (D + 1) t (.iface t' u) .nilIface).run P w = .ok false w := fun D t' u => by simp [Op.equalIn, run_underlying hu]
  rcases asZ_ok g with ⟨rfl, g2⟩ | ⟨t1, x1, rfl, g2⟩
  · rw [hx.inv_z0]
    rcases asZ_ok g2 with ⟨rfl, g3⟩ | ⟨t2, y1, rfl, g3⟩
    · rw [hy.inv_z0]
      obtain ⟨hb, g4⟩ := bR_no g3
      exact ⟨true, g4, e0 9999, .inl ⟨rfl, rfl, hb⟩⟩
    · obtain ⟨d1, rfl, _⟩ := hy.inv_z
      exact ⟨false, g3, e1 9999 _ _, .inr (.inr ⟨rfl, _, _, rfl⟩)⟩
  · obtain ⟨c1, rfl, hx1⟩ := hx.inv_z
    rcases asZ_ok g2 with ⟨rfl, g3⟩ | ⟨t2, y1, rfl, g3⟩
    · rw [hy.inv_z0]
      exact ⟨false, g3, e2 9999 _ _, .inr (.inl ⟨_, _, rfl, .inl rfl⟩)⟩
    · obtain ⟨d1, rfl, hy1⟩ := hy.inv_z
      rcases bR_ok g3 with ⟨hb, g4⟩ | ⟨hb, g4⟩
      · have hb := nbeq hb
        subst hb
        obtain ⟨q, hq, g5⟩ := pickK_ok g4
        obtain ⟨hk, inf, hinf, hcmp⟩ := dynOf_mem hq
        obtain ⟨b, g6, hr⟩ := eq1_sim (w := w) hk hx1 hy1 g5
        have e3 : ∀ D, (Op.equalIn (D + 1 + 1) t (.iface t1 c1) (.iface t1 d1)).run P w = .ok b w := fun D => by
          have hr := hr D
          simp only [Op.equalIn.eq_def (D + 1 + 1), Sem.run_bind, run_underlying hu, Result.andThen_ok, ne_eq, not_true_eq_false, if_false, run_typeInfo w hinf, hcmp, Bool.not_true, Bool.false_eq_true, hr]
        exact ⟨b, g6, e3 9998, .inr (.inl ⟨_, _, rfl, .inr ⟨_, _, rfl⟩⟩)⟩
      · have hne : t1 ≠ t2 := fun e => by rw [e] at hb; simp at hb
        have e3 : ∀ D, (Op.equalIn (D + 1) t (.iface t1 c1) (.iface t2 d1)).run P w = .ok false w := fun D => by simp [Op.equalIn, run_underlying hu, hne]
        exact ⟨false, g4, e3 9999, .inr (.inl ⟨_, _, rfl, .inr ⟨_, _, rfl⟩⟩)⟩

theorem guard_nil {op : BinOp} {t : TypeId} {ms : Array (String × TypeId)} {x y : Operand} (hu : P.underlying t = some (.interface ms)) (hb : (isC x || isC y || ms.isEmpty) = true) : (eqGuard op t x y .nilIface .nilIface).run P w = .ok () w := by
  have hg : ∀ D, (Op.eqGuardIn (D + 1) t .nilIface .nilIface).run P w = .ok (!ms.isEmpty) w := fun D => by simp [Op.eqGuardIn, run_underlying hu]
  have hg := hg 9999
  by_cases hc : (isC x || isC y) = true
  · unfold eqGuard
    cases op <;> first | rfl | (cases x <;> cases y <;> first | rfl | simp [isC] at hc)
  · have hm : ms.isEmpty = true := by simpa [hc] using hb
    rw [hm] at hg
    unfold eqGuard
    cases op <;> first | rfl | (cases x <;> cases y <;> first | (simp [isC] at hc; done) | simp [Op.maxDepth, hg])

theorem sim_ieq {t yt : TypeId} {ms : Array (String × TypeId)} {x y : Operand} {x' y' : O} (hu : P.underlying t = some (.interface ms)) (hx : opd P n x = some x') (hy : opd P n y = some y') (ho : o.op = .binOp .eql t x y yt) :
    OpSim P n o (.ieq (isC x || isC y || ms.isEmpty) (dynOf P ms) x' y') := by
  intro cf σ h w e a v h' _ r he g
  obtain ⟨b, g2, hr, hc⟩ := eqIf_sim (w := w) hu (opd_sim r he hx) (opd_sim r he hy) (show eqIf (isC x || isC y || ms.isEmpty) (dynOf P ms) (x'.v e) (y'.v e) (fun r => okB r h) = .ok v h' from g)
  obtain ⟨rfl, rfl⟩ := okB_ok g2
  rw [exec_bin ho]
  have key : ∀ c d : Value, (Op.equalIn 10000 t c d).run P w = .ok b w → (binOp .eql t c d = do pure (.bool (← Op.equal t c d))) → SimV P σ h' h' w (.b b) (binOp .eql t c d) := fun c d hr hb => by
    rw [hb]
    exact .here (c := .bool b) (by simp only [Sem.run_bind, Op.equal, Op.maxDepth, hr, Result.andThen_ok, Sem.run_pure]) r (.b _)
  rcases hc with ⟨h1, h2, h3⟩ | ⟨t1, c1, h1, h2 | ⟨t2, c2, h2⟩⟩ | ⟨h1, t2, c2, h2⟩ <;> rw [h1, h2] at hr ⊢
  · exact .val (.guard (guard_nil hu h3) (key _ _ hr (by simp [binOp])))
  · exact .val (.guard (eqGuard_plain rfl) (key _ _ hr (by simp [binOp])))
  · exact .val (.guard (eqGuard_plain rfl) (key _ _ hr (by simp [binOp])))
  · exact .val (.guard (eqGuard_plain rfl) (key _ _ hr (by simp [binOp])))
theorem sim_ine {t yt : TypeId} {ms : Array (String × TypeId)} {x y : Operand} {x' y' : O} (hu : P.underlying t = some (.interface ms)) (hx : opd P n x = some x') (hy : opd P n y = some y') (ho : o.op = .binOp .neq t x y yt) :
    OpSim P n o (.ine (isC x || isC y || ms.isEmpty) (dynOf P ms) x' y') := by
  intro cf σ h w e a v h' _ r he g
  obtain ⟨b, g2, hr, hc⟩ := eqIf_sim (w := w) hu (opd_sim r he hx) (opd_sim r he hy) (show eqIf (isC x || isC y || ms.isEmpty) (dynOf P ms) (x'.v e) (y'.v e) (fun r => okN r h) = .ok v h' from g)
  obtain ⟨rfl, rfl⟩ := okN_ok g2
  rw [exec_bin ho]
  have key : ∀ c d : Value, (Op.equalIn 10000 t c d).run P w = .ok b w → (binOp .neq t c d = do pure (.bool (!(← Op.equal t c d)))) → SimV P σ h' h' w (.b !b) (binOp .neq t c d) := fun c d hr hb => by
    rw [hb]
    exact .here (c := .bool !b) (by simp only [Sem.run_bind, Op.equal, Op.maxDepth, hr, Result.andThen_ok, Sem.run_pure]) r (.b _)
  rcases hc with ⟨h1, h2, h3⟩ | ⟨t1, c1, h1, h2 | ⟨t2, c2, h2⟩⟩ | ⟨h1, t2, c2, h2⟩ <;> rw [h1, h2] at hr ⊢
  · exact .val (.guard (guard_nil hu h3) (key _ _ hr (by simp [binOp])))
  · exact .val (.guard (eqGuard_plain rfl) (key _ _ hr (by simp [binOp])))
  · exact .val (.guard (eqGuard_plain rfl) (key _ _ hr (by simp [binOp])))
  · exact .val (.guard (eqGuard_plain rfl) (key _ _ hr (by simp [binOp])))

/-- Structs of plain fields. -/
theorem kind_lt {t : TypeId} {q : Nat} (hq : kindOf P t = some q) (h3 : q ≠ 3) : agg? P t = some false ∧ (∀ D, P.eqGuardType (D + 1) t = false) := by
  unfold kindOf at hq
  split at hq <;> first | (cases hq; done) | skip
  · rename_i hu; exact ⟨by simp [agg?, hu], fun D => by simp [Program.eqGuardType, hu]⟩
  · rename_i hu; exact ⟨by simp [agg?, hu], fun D => by simp [Program.eqGuardType, hu]⟩
  · rename_i hu; exact ⟨by simp [agg?, hu], fun D => by simp [Program.eqGuardType, hu]⟩
  · split at hq
    · cases hq; exact absurd rfl h3
    · cases hq
theorem eqs_sim : ∀ {fs : List Field} {ks : List Nat} {j : Nat} {l l' : List V} {xs ys : Array Value} {k : Bool → R1}, kindsS P fs j = some ks → VRs σ l (xs.toList.drop j) → VRs σ l' (ys.toList.drop j) →
    eqs ks l l' k = .ok v h' → ∃ b, k b = .ok v h' ∧ ∀ D, (Op.eqFields (D + 1) xs ys fs).run P w = .ok b w
  | [], ks, j, l, l', xs, ys, k, hk, hx, hy, g => by
    cases hk
    cases l with
    | nil => cases l' with
      | nil => exact ⟨true, g, fun D => rfl⟩
      | cons => cases g
    | cons => cases g
  | f :: fs, ks, j, l, l', xs, ys, k, hk, hx, hy, g => by
    simp only [kindsS, Option.bind_eq_bind, Option.bind_eq_some_iff] at hk
    obtain ⟨q, hq, hk⟩ := hk
    split at hk
    · cases hk
    rename_i hcond
    simp only [not_or] at hcond
    obtain ⟨hn, hoff, h3⟩ := hcond
    simp only [Option.some.injEq, Option.bind_eq_some_iff] at hk
    obtain ⟨ks', hks, rfl⟩ := hk
    have g : hdL l (fun x => hdL l' fun y => eq1 q x y fun b => bR b (eqs ks' (tlL l) (tlL l') k) (k false)) = .ok v h' := g
    obtain ⟨x, lr, hl, g2⟩ := hdL_ok g
    obtain ⟨y, lr', hl', g3⟩ := hdL_ok g2
    subst hl hl'
    have hoff : f.offset = j := by simpa using hoff
    obtain ⟨ag, hgt⟩ := kind_lt hq h3
    generalize hxd : xs.toList.drop j = xd at hx
    generalize hyd : ys.toList.drop j = yd at hy
    cases hx with
    | cons _ c _ cs hxc hxs =>
      cases hy with
      | cons _ d _ ds hyc hys =>
        obtain ⟨b, g4, hr⟩ := eq1_sim (w := w) hq hxc hyc g3
        have hc : xs[j]? = some c := by have := congrArg (·[0]?) hxd; simpa [List.getElem?_drop] using this
        have hd : ys[j]? = some d := by have := congrArg (·[0]?) hyd; simpa [List.getElem?_drop] using this
        have hxs' : xs.toList.drop (j + 1) = cs := by rw [← List.drop_drop, hxd]; rfl
        have hys' : ys.toList.drop (j + 1) = ds := by rw [← List.drop_drop, hyd]; rfl
        have hp1 : (Go.part f.type xs f.offset).run P w = .ok c w := by simp [Go.part, run_isAgg ag, hoff, hc]
        have hp2 : (Go.part f.type ys f.offset).run P w = .ok d w := by simp [Go.part, run_isAgg ag, hoff, hd]
        have hn' : f.name ≠ "_" := hn
        have g4 : bR b (eqs ks' lr lr' k) (k false) = .ok v h' := g4
        rcases bR_ok g4 with ⟨rfl, g5⟩ | ⟨rfl, g5⟩
        · obtain ⟨b', g6, hr'⟩ := eqs_sim hks (by rw [hxs']; exact hxs) (by rw [hys']; exact hys) g5
          refine ⟨b', g6, fun D => ?_⟩
          simp only [Op.eqFields, ne_eq, hn', not_false_eq_true, if_true, Sem.run_bind, hp1, hp2, Result.andThen_ok, hr D, Bool.not_true, Bool.false_eq_true, if_false]
          exact hr' D
        · refine ⟨false, g5, fun D => ?_⟩
          simp only [Op.eqFields, ne_eq, hn', not_false_eq_true, if_true, Sem.run_bind, hp1, hp2, Result.andThen_ok, hr D, Bool.not_false, Sem.run_pure]
theorem kindsS_guard : ∀ {fs : List Field} {ks : List Nat} {j : Nat}, kindsS P fs j = some ks → ∀ f ∈ fs, ∀ D, P.eqGuardType (D + 1) f.type = false
  | [], _, _, _, f, hf => by cases hf
  | f :: fs, ks, j, hk, f', hf => by
    simp only [kindsS, Option.bind_eq_bind, Option.bind_eq_some_iff] at hk
    obtain ⟨q, hq, hk⟩ := hk
    split at hk
    · cases hk
    rename_i hcond
    simp only [not_or] at hcond
    simp only [Option.some.injEq, Option.bind_eq_some_iff] at hk
    obtain ⟨ks', hks, rfl⟩ := hk
    cases hf with
    | head => exact (kind_lt hq hcond.2.2).2
    | tail _ hf => exact kindsS_guard hks f' hf
theorem guard_struct {t : TypeId} {fs : Array Field} {ks : List Nat} (hu : P.underlying t = some (.struct fs)) (hk : kindsS P fs.toList 0 = some ks) : P.eqGuardType P.depth t = false := by
  obtain ⟨d, hd⟩ := depth_succ P
  rw [hd]
  have e : P.eqGuardType (d + 2) t = fs.any fun f => f.name != "_" && P.eqGuardType (d + 1) f.type := by
    show P.eqGuardType ((d + 1) + 1) t = _
    rw [Program.eqGuardType.eq_def]; simp only [hu]
  rw [e, Array.any_eq_false']
  intro f hf
  rw [kindsS_guard hk f (by simpa using hf) d]; simp
theorem fieldsOf_eq {t : TypeId} {fs : Array Field} (hu : P.underlying t = some (.struct fs)) : P.fieldsOf t = fs := by simp [Program.fieldsOf, hu]

theorem sim_aeq {t yt : TypeId} {fs : Array Field} {ks : List Nat} {x y : Operand} {x' y' : O} (hu : P.underlying t = some (.struct fs)) (hs : P.stoodInHeld t = false) (hk : kindsS P fs.toList 0 = some ks)
    (hx : opd P n x = some x') (hy : opd P n y = some y') (ho : o.op = .binOp .eql t x y yt) : OpSim P n o (.aeq ks x' y') := by
  intro cf σ h w e a v h' _ r he g
  have vx := opd_sim r he hx
  have vy := opd_sim r he hy
  obtain ⟨l, h1, g2⟩ := asA_ok (show asA (x'.v e) (fun l => asA (y'.v e) fun l' => eqs ks l l' fun r => okB r h) = .ok v h' from g)
  obtain ⟨l', h2, g3⟩ := asA_ok g2
  rw [h1] at vx; rw [h2] at vy
  obtain ⟨xs, ex, hxs, _⟩ := vx.inv_a
  obtain ⟨ys, ey, hys, _⟩ := vy.inv_a
  obtain ⟨b, g4, hr⟩ := eqs_sim (w := w) hk (xs := xs) (ys := ys) (by simpa using hxs) (by simpa using hys) g3
  obtain ⟨rfl, rfl⟩ := okB_ok g4
  rw [exec_bin ho, ex, ey]
  refine .val (.guard (run_eqGuard_agg w _ _ _ _ _ _ (guard_struct hu hk)) (.here (c := .bool b) ?_ r (.b _)))
  have hf := fieldsOf_eq hu
  rw [run_eql_struct, show (10000 : Nat) = 9999 + 1 from rfl, run_equalIn_agg w 9999 t xs ys (by rw [hf]; exact hu) hs, hf, hr 9998]; rfl
theorem sim_ane {t yt : TypeId} {fs : Array Field} {ks : List Nat} {x y : Operand} {x' y' : O} (hu : P.underlying t = some (.struct fs)) (hs : P.stoodInHeld t = false) (hk : kindsS P fs.toList 0 = some ks)
    (hx : opd P n x = some x') (hy : opd P n y = some y') (ho : o.op = .binOp .neq t x y yt) : OpSim P n o (.ane ks x' y') := by
  intro cf σ h w e a v h' _ r he g
  have vx := opd_sim r he hx
  have vy := opd_sim r he hy
  obtain ⟨l, h1, g2⟩ := asA_ok (show asA (x'.v e) (fun l => asA (y'.v e) fun l' => eqs ks l l' fun r => okN r h) = .ok v h' from g)
  obtain ⟨l', h2, g3⟩ := asA_ok g2
  rw [h1] at vx; rw [h2] at vy
  obtain ⟨xs, ex, hxs, _⟩ := vx.inv_a
  obtain ⟨ys, ey, hys, _⟩ := vy.inv_a
  obtain ⟨b, g4, hr⟩ := eqs_sim (w := w) hk (xs := xs) (ys := ys) (by simpa using hxs) (by simpa using hys) g3
  obtain ⟨rfl, rfl⟩ := okN_ok g4
  rw [exec_bin ho, ex, ey]
  refine .val (.guard (run_eqGuard_agg w _ _ _ _ _ _ (guard_struct hu hk)) (.here (c := .bool !b) ?_ r (.b _)))
  have hf := fieldsOf_eq hu
  rw [run_neq_struct, show (10000 : Nat) = 9999 + 1 from rfl, run_equalIn_agg w 9999 t xs ys (by rw [hf]; exact hu) hs, hf, hr 9998]; rfl
end
end Go.Proofs.YtoipldpekiikjaaGreatDoor.Clo

namespace Go.Proofs.YtoipldpekiikjaaGreatDoor.Clo
set_option linter.all false
section
variable {P : Program} {n : Tm} {o : Oper} {σ σ' : Sg} {h h' : Hp} {w : World} {v : V}

theorem optR_none {k : O → R1} {z : R1} : optR none z k = z := rfl
theorem optR_some {x : O} {k : O → R1} {z : R1} : optR (some x) z k = k x := rfl

/-- A cut out of a slice, by its capacity. -/
theorem cutC_sim {m : Nat} {q : Nm} {off A B C : Nat} {i : Inf} (hi : σ q = some i) (hAB : A ≤ B) (hB : B ≤ C) (g : cutC m q off A B C h = .ok v h') :
    h' = h ∧ VR σ v (.slice (some (if C = A then ⟨i.blk, i.d + off, none⟩ else (⟨i.blk, i.d + off, none⟩ : Addr).add (A * m))) (B - A) (C - A)) := by
  unfold cutC at g
  rw [fo_eq, fo_eq] at g
  rcases nR_ok g with ⟨h0, g2⟩ | ⟨c, h0, g2⟩
  · cases g2
    have h0 : C - A = 0 := h0
    have hCA : C = A := by omega
    refine ⟨rfl, ?_⟩
    rw [if_pos hCA, h0]
    exact VR.sl q off (B - A) 1 i 0 hi (by omega) (fun h => by omega) (fun k hk => by omega)
  · rw [fo_eq] at g2
    cases g2
    have h0 : C - A = c + 1 := h0
    refine ⟨rfl, ?_⟩
    rw [if_neg (by omega), addr_add, Nat.add_assoc]
    exact VR.sl q (off + A * m) (B - A) (C - A + 1) i (C - A) hi (by omega) (fun h => by omega) (fun k hk => by omega)
theorem cutO_sim {t t' st fz l} {m : Nat} {q : Nm} {off A B nn cap : Nat} {i : Inf} {cs : Array Value} {fr : Nat × Nat} (hi : σ q = some i) (br : BRc P σ w.heap i t' st fz nn l cs fr) (hm : P.cellsOf t = m) (hm0 : m ≠ 0)
    (hcap : cap * i.sz + off = i.E) (hAB : A ≤ B) (g : cutO t t' m q off A B nn h = .ok v h') :
    B ≤ cap ∧ h' = h ∧ VR σ v (.slice (some (if cap = A then ⟨i.blk, i.d + off, none⟩ else (⟨i.blk, i.d + off, none⟩ : Addr).add (A * m))) (B - A) (cap - A)) := by
  obtain ⟨ht, g1⟩ := bR_no g
  have ht := nbeq ht
  subst ht
  obtain ⟨hle, g2⟩ := bR_no g1
  have hle : off + B * m ≤ nn := nble hle
  have hsz : i.sz = m := by rw [br.sz, hm]
  have hE := br.le
  rw [hsz] at hcap
  have hBc : B ≤ cap := by
    have : B * m ≤ cap * m := by omega
    exact Nat.le_of_mul_le_mul_right this (Nat.pos_of_ne_zero hm0)
  refine ⟨hBc, ?_⟩
  rcases nR_ok g2 with ⟨rfl, g3⟩ | ⟨A', rfl, g3⟩
  · cases g3
    refine ⟨rfl, ?_⟩
    have : (if cap = 0 then (⟨i.blk, i.d + off, none⟩ : Addr) else (⟨i.blk, i.d + off, none⟩ : Addr).add (0 * m)) = ⟨i.blk, i.d + off, none⟩ := by split <;> simp [Addr.add]
    rw [this]
    exact VR.sl q off B 0 i cap hi hBc (fun _ => by rw [hsz]; exact hcap) (fun k hk => by omega)
  · rcases bR_ok g3 with ⟨hlt, g4⟩ | ⟨hlt, g4⟩
    · rw [fo_eq, fo_eq] at g4
      cases g4
      have hlt : off + (A' + 1) * m + 1 ≤ nn := nble hlt
      have hAc : A' + 1 < cap := by
        have : (A' + 1) * m < cap * m := by omega
        exact Nat.lt_of_mul_lt_mul_right this
      refine ⟨rfl, ?_⟩
      rw [if_neg (by omega), addr_add, Nat.add_assoc]
      exact VR.sl q (off + (A' + 1) * m) (B - (A' + 1)) 0 i (cap - (A' + 1)) hi (by omega) (fun _ => by rw [hsz, Nat.sub_mul]; have : (A' + 1) * m ≤ cap * m := Nat.mul_le_mul_right _ (by omega); omega) (fun k hk => by omega)
    · obtain ⟨hb, g5⟩ := bR_no g4
      cases g5
      have hb := nbeq hb
      refine ⟨rfl, ?_⟩
      rw [← hb, Nat.sub_self]
      exact VR.se _ _

theorem sim_sll {t el : TypeId} {m : Nat} {x : Operand} {lo hi mx : Option Operand} {x' : O} {lo' hi' mx' : Option O} (hu : P.underlying t = some (.slice el)) (hm : size? P el = some m) (hm0 : m ≠ 0)
    (hx : opd P n x = some x') (hlo : (match lo with | none => some none | some y => (opd P n y).map some) = some lo') (hhi : (match hi with | none => some none | some y => (opd P n y).map some) = some hi')
    (hmx : (match mx with | none => some none | some y => (opd P n y).map some) = some mx') (ho : o.op = .slice t x lo hi mx) (hmh : (mx.isSome && hi.isNone) = false) : OpSim P n o (.sll el m x' lo' hi' mx') := by
  intro cf σ h w e a v h' _ r he g
  have vx := opd_sim r he hx
  have hsz := run_size (P := P) (w := w) hm
  have hex : execOp a.eval o = (do let v ← Instr.sliceAt t (a.eval x) (lo.map a.eval) (hi.map a.eval) (mx.map a.eval); pure (.value v)) := by simp [execOp, ho]
  rw [hex]
  have hrun : ∀ (A : Option Addr) (len cap L R M : Nat), (Instr.sliceBounds true len cap (lo.map a.eval) (hi.map a.eval) (mx.map a.eval)).run P w = .ok (L, R, M) w →
      (Instr.sliceAt t (.slice A len cap) (lo.map a.eval) (hi.map a.eval) (mx.map a.eval)).run P w = .ok (.slice (if M = L then A else A.map (·.add (L * m))) (R - L) (M - L)) w := fun A len cap L R M hb => by
    simp only [Instr.sliceAt, Sem.run_bind, run_underlying hu, Result.andThen_ok, Instr.slice, hb, hsz.1, Sem.run_pure]
  have hlB : ∀ {top : Nat} {k : Nat → Nat → R1}, slB lo' hi' e top k = .ok v h' → ∃ A B, k A B = .ok v h' ∧ A ≤ B ∧ ((hi.map a.eval = none ∧ B = top) ∨ ∃ q, hi.map a.eval = some (.int q B)) ∧ ((lo.map a.eval = none ∧ A = 0) ∨ ∃ q, lo.map a.eval = some (.int q A)) := fun gg => by
    obtain ⟨A, B, g2, hAB, e1, e2, e3, e4⟩ := slB_ok r he hlo hhi gg
    refine ⟨A, B, g2, hAB, ?_, ?_⟩
    · cases hi with
      | none => exact .inl ⟨rfl, e1 rfl⟩
      | some y => obtain ⟨q, hq⟩ := e3 y rfl; exact .inr ⟨q, by simp [hq]⟩
    · cases lo with
      | none => exact .inl ⟨rfl, e2 rfl⟩
      | some y => obtain ⟨q, hq⟩ := e4 y rfl; exact .inr ⟨q, by simp [hq]⟩
  cases mx with
  | none =>
    simp only [Option.some.injEq] at hmx
    subst hmx
    rcases asSl_ok (show sl2 el m (x'.v e) lo' hi' h e = .ok v h' from g) with ⟨h1, g1⟩ | ⟨_, g1⟩ | ⟨q, off, l, c, h1, g1⟩
    · rw [h1] at vx
      obtain ⟨A, B, g2, hAB, eB, eA⟩ := hlB g1
      rcases nR_ok g2 with ⟨rfl, g3⟩ | ⟨_, _, g3⟩
      case inr => cases g3
      rcases nR_ok g3 with ⟨rfl, g4⟩ | ⟨_, _, g4⟩
      case inr => cases g4
      cases g4
      rw [vx.inv_s0]
      have hb := run_bounds (P := P) (w := w) (b := true) (len := 0) (cap := 0) (A := 0) (B := 0) (M := 0) (lo := lo.map a.eval) (hi := hi.map a.eval) (mx := none) (Nat.le_refl _) (Nat.le_refl _) (Nat.le_refl _) (.inl ⟨rfl, rfl⟩)
        (by rcases eB with ⟨h1, _⟩ | h1; exact .inl ⟨h1, rfl, rfl⟩; exact .inr h1) eA
      exact .val (.here (hrun none 0 0 0 0 0 hb) r .s0)
    · cases g1
    · rw [h1] at vx
      obtain ⟨i, cap, hi2, ex, hl, hc0, hc1⟩ := vx.inv_sl
      rw [ex]
      obtain ⟨A, B, g2, hAB, eB, eA⟩ := hlB g1
      have fin : B ≤ cap → h' = h → VR σ v (.slice (some (if cap = A then ⟨i.blk, i.d + off, none⟩ else (⟨i.blk, i.d + off, none⟩ : Addr).add (A * m))) (B - A) (cap - A)) → NextOk P σ h h' w v (do let v ← Instr.sliceAt t (.slice (some ⟨i.blk, i.d + off, none⟩) l cap) (lo.map a.eval) (hi.map a.eval) (none.map a.eval); pure (.value v)) := fun hB hh hv => by
        subst hh
        have hb := run_bounds (P := P) (w := w) (b := true) (len := l) (cap := cap) (A := A) (B := B) (M := cap) (lo := lo.map a.eval) (hi := hi.map a.eval) (mx := none) (Nat.le_refl _) hB hAB (.inl ⟨rfl, rfl⟩)
          (by rcases eB with ⟨h1, h2⟩ | h1; exact .inl ⟨h1, rfl, h2⟩; exact .inr h1) eA
        have := hrun (some ⟨i.blk, i.d + off, none⟩) l cap A B cap hb
        refine .val (.here (this.trans ?_) r hv)
        by_cases hca : cap = A
        · simp [hca]
        · simp [hca]
      rcases nR_ok g2 with ⟨rfl, g3⟩ | ⟨c', rfl, g3⟩
      · obtain ⟨t', st, fz, nn, ll, hb, g4⟩ := Hp.cl_ok g3
        obtain ⟨cs, fr, br⟩ := r.cl hi2 hb
        obtain ⟨hB, hh, hv⟩ := cutO_sim hi2 br hsz.2 hm0 (hc0 rfl) hAB g4
        exact fin hB hh hv
      · obtain ⟨hB, g4⟩ := bR_no g3
        have hB := nble hB
        have hcc := hc1 _ rfl
        subst hcc
        obtain ⟨hh, hv⟩ := cutC_sim hi2 hAB hB g4
        exact fin hB hh hv
  | some z =>
    simp only [Option.map_eq_some_iff] at hmx
    obtain ⟨z', hz, rfl⟩ := hmx
    have hhs : hi.isNone = false := by simpa using hmh
    rcases asSl_ok (show sl3 el m (x'.v e) lo' hi' z' h e = .ok v h' from g) with ⟨_, g1⟩ | ⟨_, g1⟩ | ⟨q, off, l, c, h1, g1⟩
    · cases g1
    · cases g1
    rw [h1] at vx
    obtain ⟨i, cap, hi2, ex, hl, hc0, hc1⟩ := vx.inv_sl
    rw [ex]
    obtain ⟨qz, M, hz1, hz2, hz3, hzp, g2⟩ := idx_ok (opd_sim r he hz) g1
    have fin : ∀ {A B : Nat}, M ≤ cap → A ≤ B → B ≤ M → ((hi.map a.eval = none ∧ B = l) ∨ ∃ q, hi.map a.eval = some (.int q B)) → ((lo.map a.eval = none ∧ A = 0) ∨ ∃ q, lo.map a.eval = some (.int q A)) →
        cutC m q off A B M h = .ok v h' → NextOk P σ h h' w v (do let v ← Instr.sliceAt t (.slice (some ⟨i.blk, i.d + off, none⟩) l cap) (lo.map a.eval) (hi.map a.eval) ((some z).map a.eval); pure (.value v)) := fun {A B} hM hAB hB eB eA gg => by
      obtain ⟨hh, hv⟩ := cutC_sim hi2 hAB hB gg
      subst hh
      have hb := run_bounds (P := P) (w := w) (b := true) (len := l) (cap := cap) (A := A) (B := B) (M := M) (lo := lo.map a.eval) (hi := hi.map a.eval) (mx := (some z).map a.eval) hM hB hAB (.inr ⟨qz, by simp [hz2]⟩)
        (by rcases eB with ⟨h1, h2⟩ | h1
            · cases hi with
              | none => cases hhs
              | some y => cases h1
            · exact .inr h1) eA
      have := hrun (some ⟨i.blk, i.d + off, none⟩) l cap A B M hb
      refine .val (.here (this.trans ?_) r hv)
      by_cases hca : M = A
      · simp [hca]
      · simp [hca]
    rcases nR_ok g2 with ⟨rfl, g3⟩ | ⟨c', rfl, g3⟩
    · obtain ⟨t', st, fz, nn, ll, hb, g4⟩ := Hp.cl_ok g3
      obtain ⟨cs, fr, br⟩ := r.cl hi2 hb
      obtain ⟨ht, g5⟩ := bR_no g4
      have ht := nbeq ht
      subst ht
      obtain ⟨hle, g6⟩ := bR_no g5
      have hle : off + M * m ≤ nn := nble hle
      have hszz : i.sz = m := by rw [br.sz, hsz.2]
      have hE := br.le
      have hcap := hc0 rfl
      rw [hszz] at hcap
      have hMc : M ≤ cap := by
        have : M * m ≤ cap * m := by omega
        exact Nat.le_of_mul_le_mul_right this (Nat.pos_of_ne_zero hm0)
      obtain ⟨A, B, g7, hAB, eB, eA⟩ := hlB g6
      obtain ⟨hB, g8⟩ := bR_no g7
      exact fin hMc hAB (nble hB) eB eA g8
    · obtain ⟨hM, g4⟩ := bR_no g3
      have hM := nble hM
      have hcc := hc1 _ rfl
      subst hcc
      obtain ⟨A, B, g7, hAB, eB, eA⟩ := hlB g4
      obtain ⟨hB, g8⟩ := bR_no g7
      exact fin hM hAB (nble hB) eB eA g8

/-- The elements of a slice. -/
theorem elems_sim {m : Nat} {x : V} {c : Value} {k : Nat → List V → R1} (r : Rel P σ h (core w)) (hx : VR σ x c) (g : elems m x h k = .ok v h') :
    ∃ len xs vs, k len xs = .ok v h' ∧ VRs σ xs vs ∧ (∀ y ∈ vs, y.oneCell' = true) ∧ vs.length = len * m ∧ (∃ A cap, c = .slice A len cap) ∧
      (∀ j, j ≤ len → ∀ d, (Builtin.firstCells m j c).run P { w with drawn := d } = .ok (vs.take (j * m)).toArray { w with drawn := d }) := by
  rcases asSl_ok g with ⟨rfl, g2⟩ | ⟨rfl, g2⟩ | ⟨b, off, l, cc, rfl, g2⟩
  · rw [hx.inv_s0]
    exact ⟨0, [], [], g2, .nil, by simp, by simp, ⟨_, _, rfl⟩, fun j hj d => by simp [Builtin.firstCells]⟩
  · obtain ⟨A, cap, rfl⟩ := hx.inv_se
    refine ⟨0, [], [], g2, .nil, by simp, by simp, ⟨_, _, rfl⟩, fun j hj d => ?_⟩
    have : j = 0 := by omega
    subst this
    simp [Builtin.firstCells, loadCells, loadCellsFrom]
  · obtain ⟨i, cap, hi, rfl, hl, _⟩ := hx.inv_sl
    rcases nR_ok g2 with ⟨rfl, g3⟩ | ⟨l', rfl, g3⟩
    · refine ⟨0, [], [], g3, .nil, by simp, by simp, ⟨_, _, rfl⟩, fun j hj d => ?_⟩
      have : j = 0 := by omega
      subst this
      simp [Builtin.firstCells, loadCells, loadCellsFrom]
    · obtain ⟨t', st, fz, nn, ll, hb, g4⟩ := Hp.cl_ok g3
      obtain ⟨cs, fr, br⟩ := r.cl hi hb
      obtain ⟨hle, g5⟩ := takeC_ok _ g4
      rw [dropL_eq, List.length_drop] at hle
      simp only [nmul] at hle g5
      rw [dropL_eq] at g5
      have hor : (l' + 1) * m = 0 ∨ off + (l' + 1) * m ≤ ll.length := by omega
      obtain ⟨vs, v1, v2, v3, v4, _⟩ := br.cells off ((l' + 1) * m) hor
      refine ⟨l' + 1, _, vs, g5, v2, v3, v1, ⟨_, _, rfl⟩, fun j hj d => ?_⟩
      have hjm : j * m ≤ (l' + 1) * m := Nat.mul_le_mul_right _ hj
      have hlen : (vs.take (j * m)).length = j * m := by rw [List.length_take, v1]; omega
      have := run_loadCells_list (P := P) { w with drawn := d } ⟨i.blk, i.d + off, none⟩ (vs.take (j * m)) (fun k u hu => by
        rw [List.getElem?_take] at hu
        split at hu
        · rw [addr_add]; exact v4 k u hu
        · cases hu)
      rw [hlen] at this
      exact this
theorem lined_ok {x : V} {k : R1} {c : Value} (hx : VR σ x c) (g : lined x k = .ok v h') : k = .ok v h' ∧ ((∃ A l cap, c = .slice A l cap) ∨ ∃ s, c = .string s) := by
  unfold lined at g
  cases x <;> first | (cases g; done) | skip
  · obtain ⟨bs, rfl, _⟩ := hx.inv_s; exact ⟨g, .inr ⟨_, rfl⟩⟩
  · rw [hx.inv_s0]; exact ⟨g, .inl ⟨_, _, _, rfl⟩⟩
  · obtain ⟨A, cap, rfl⟩ := hx.inv_se; exact ⟨g, .inl ⟨_, _, _, rfl⟩⟩
  · obtain ⟨i, cap, _, rfl, _⟩ := hx.inv_sl; exact ⟨g, .inl ⟨_, _, _, rfl⟩⟩
end
end Go.Proofs.YtoipldpekiikjaaGreatDoor.Clo

namespace Go.Proofs.YtoipldpekiikjaaGreatDoor.Clo
set_option linter.all false
section
variable {P : Program} {n : Tm} {o : Oper} {σ σ' : Sg} {h h' : Hp} {w : World} {v : V}

theorem lenOf_slice {A : Option Addr} {l c : Nat} : (Builtin.lenOf (.slice A l c)).run P w = .ok l w := rfl
theorem lenOf_string {s : ByteArray} : (Builtin.lenOf (.string s)).run P w = .ok s.size w := rfl
theorem firstCells_string {s : ByteArray} {m j : Nat} : (Builtin.firstCells m j (.string s)).run P w = .ok ((s.data.toList.take j).map fun b => Value.int .u8 (b.toNat : Int)).toArray w := by
  have : ((s.extract 0 j).data.map fun b => Value.int .u8 (b.toNat : Int)) = ((s.data.toList.take j).map fun b => Value.int .u8 (b.toNat : Int)).toArray := by
    apply Array.ext'
    rw [Array.toList_map, bs_extract]; simp
  show (Pure.pure ((s.extract 0 j).data.map fun b => Value.int .u8 (b.toNat : Int)) : Sem (Array Value)).run P w = _
  rw [this]; rfl

/-- copy, what comes being vs. -/
theorem copyC_sim {t u el : TypeId} {ty : TypeId} {m : Nat} {b : Nm} {off l : Nat} {k : Nat} {xs : List V} {vs : List Value} {src : Value} {i : Inf} {cap : Nat} (hu : P.underlying t = some (.slice el)) (hm : size? P el = some m)
    (r : Rel P σ h (core w)) (hi : σ b = some i) (hv : VRs σ xs vs) (hone : ∀ y ∈ vs, y.oneCell' = true) (hvl : vs.length = k * m)
    (hlen : (Builtin.lenOf src).run P w = .ok k w) (hfc : ∀ j, j ≤ k → (Builtin.firstCells m j src).run P w = .ok (vs.take (j * m)).toArray w)
    (g : copyC m b off l k xs h = .ok v h') : NextOk P σ h h' w v (do let v ← Builtin.copy_ #[t, u] ty #[.slice (some ⟨i.blk, i.d + off, none⟩) l cap, src]; pure (.value v)) := by
  have hsz := run_size (P := P) (w := w) hm
  have hrun : ∀ j, Nat.min k l = j → ∀ w2, (storeCells ⟨i.blk, i.d + off, none⟩ (vs.take (j * m))).run P w = .ok () w2 → (Builtin.copy_ #[t, u] ty #[.slice (some ⟨i.blk, i.d + off, none⟩) l cap, src]).run P w = .ok (goInt j) w2 := fun j hj w2 hst => by
    have hjk : j ≤ k := by rw [← hj]; exact Nat.min_le_left _ _
    simp only [Builtin.copy_, List.getElem?_toArray, List.getElem?_cons_zero, List.getElem?_cons_succ, Sem.run_bind, run_underlying hu, Result.andThen_ok, hlen, hsz.1, hj, hfc j hjk, hst, Sem.run_pure]
  unfold copyC at g
  rcases bR_ok g with ⟨hb, g2⟩ | ⟨hb, g2⟩
  · have hb := nble hb
    obtain ⟨h2, w2, g3, hst, r2, hn⟩ := put_sim r hi hv hone g2
    obtain ⟨rfl, rfl, hk⟩ := okL_ok g3
    have hj := hrun k (Nat.min_eq_left hb) w2 (by rw [← hvl, List.take_length]; exact hst)
    exact .inl ⟨σ, goInt k, w2, by rw [Sem.run_bind, hj]; rfl, ⟨fun _ _ => rfl, by rw [hn]; exact Nat.le_refl _, rfl⟩, r2, .len _ hk⟩
  · have hb := nble_false hb
    obtain ⟨hle, g3⟩ := takeC_ok _ g2
    simp only [nmul] at g3 hle
    obtain ⟨h2, w2, g4, hst, r2, hn⟩ := put_sim r hi (hv.take (l * m)) (fun y hy => hone y (List.mem_of_mem_take hy)) g3
    obtain ⟨rfl, rfl, hk⟩ := okL_ok g4
    have hj := hrun l (Nat.min_eq_right (Nat.le_of_lt hb)) w2 hst
    exact .inl ⟨σ, goInt l, w2, by rw [Sem.run_bind, hj]; rfl, ⟨fun _ _ => rfl, by rw [hn]; exact Nat.le_refl _, rfl⟩, r2, .len _ hk⟩

theorem exec_copy {t u : TypeId} {x y : Operand} {a : Act} (ho : o.op = .call { callee := .builtin .copy, args := #[x, y], argTypes := #[t, u] }) :
    execOp a.eval o = (do let v ← Builtin.copy_ #[t, u] o.type #[a.eval x, a.eval y]; pure (.value v)) := by simp [execOp, ho, resolve, invoke, builtin]
theorem copy_nil {t u el ty : TypeId} {m : Nat} {c : Value} (hu : P.underlying t = some (.slice el)) (hm : size? P el = some m) (hc : (∃ A l cap, c = .slice A l cap) ∨ ∃ s, c = .string s) :
    (Builtin.copy_ #[t, u] ty #[.slice none 0 0, c]).run P w = .ok (goInt 0) w := by
  have hsz := run_size (P := P) (w := w) hm
  rcases hc with ⟨A, l, cap, rfl⟩ | ⟨s, rfl⟩
  · have hfc : (Builtin.firstCells m 0 (.slice A l cap)).run P w = .ok #[] w := by cases A <;> simp [Builtin.firstCells, loadCells, loadCellsFrom]
    simp only [Builtin.copy_, List.getElem?_toArray, List.getElem?_cons_zero, List.getElem?_cons_succ, Sem.run_bind, run_underlying hu, Result.andThen_ok, lenOf_slice, hsz.1, show Nat.min l 0 = 0 from Nat.min_zero l, hfc, Sem.run_pure]; rfl
  · have hfc : (Builtin.firstCells m 0 (.string s)).run P w = .ok #[] w := by rw [firstCells_string]; rfl
    simp only [Builtin.copy_, List.getElem?_toArray, List.getElem?_cons_zero, List.getElem?_cons_succ, Sem.run_bind, run_underlying hu, Result.andThen_ok, lenOf_string, hsz.1, show Nat.min s.size 0 = 0 from Nat.min_zero _, hfc, Sem.run_pure]; rfl
theorem sim_copy {t u el : TypeId} {m : Nat} {b : Bool} {x y : Operand} {x' y' : O} (hu : P.underlying t = some (.slice el)) (hm : size? P el = some m) (hb : b = true → m = 1)
    (hx : opd P n x = some x') (hy : opd P n y = some y') (ho : o.op = .call { callee := .builtin .copy, args := #[x, y], argTypes := #[t, u] }) : OpSim P n o (.copy b m x' y') := by
  intro cf σ h w e a v h' _ r he g
  have vx := opd_sim r he hx
  have vy := opd_sim r he hy
  rw [exec_copy ho]
  rcases asSl_ok (show asSl (x'.v e) (lined (y'.v e) (.ok (.i .i64 0) h)) (.no 107) (fun a o l _ =>
    @Bool.rec (fun _ => R1) (elems m (y'.v e) h fun k xs => copyC m a o l k xs h) (asS (y'.v e) fun l' n => letters l' n fun xs => copyC m a o l l' xs h) b) = .ok v h' from g) with ⟨h1, g2⟩ | ⟨_, g2⟩ | ⟨q, off, l, c, h1, g2⟩
  · obtain ⟨g3, hc⟩ := lined_ok vy g2
    cases g3
    rw [h1] at vx
    rw [vx.inv_s0]
    exact .val (.here (copy_nil hu hm hc) r (.len (m := 0) _ (by omega)))
  · cases g2
  · rw [h1] at vx
    obtain ⟨i, cap, hi, ex, _⟩ := vx.inv_sl
    rw [ex]
    cases b with
    | false =>
      obtain ⟨len, xs, vs, g3, hv, hone, hvl, ⟨A, cap', hA⟩, hfc⟩ := elems_sim r vy (show elems m (y'.v e) h (fun k xs => copyC m q off l k xs h) = .ok v h' from g2)
      exact copyC_sim hu hm r hi hv hone hvl (by rw [hA]; rfl) (fun j hj => hfc j hj w.drawn) g3
    | true =>
      have hm1 := hb rfl
      subst hm1
      obtain ⟨l', nn, h2, g3⟩ := asS_ok (show asS (y'.v e) (fun l' n => letters l' n fun xs => copyC 1 q off l l' xs h) = .ok v h' from g2)
      rw [h2] at vy
      obtain ⟨bs, ey, rfl, rfl⟩ := vy.inv_s
      rw [letters_eq] at g3
      rw [ey]
      refine copyC_sim (vs := bs.data.toList.map fun b => Value.int .u8 (b.toNat : Int)) hu hm r hi (bytes_sim σ _) (bytes_one _) (by simp) ?_ (fun j hj => ?_) g3
      · rw [lenOf_string, bs_size]
      · rw [firstCells_string, Nat.mul_one, List.map_take]

theorem sim_clr {t el : TypeId} {m : Nat} {z : List V} {x : Operand} {x' : O} (hu : P.underlying t = some (.slice el)) (hz : zero? P el = some z) (hz0 : z.length ≠ 0) (hx : opd P n x = some x')
    (ho : o.op = .call { callee := .builtin .clear, args := #[x], argTypes := #[t] }) : OpSim P n o (.clr m z x') := by
  intro cf σ h w e a v h' _ r he g
  have vx := opd_sim r he hx
  have hex : execOp a.eval o = (do let v ← Builtin.clear_ #[t] o.type #[a.eval x]; pure (.value v)) := by simp [execOp, ho, resolve, invoke, builtin]
  rw [hex]
  obtain ⟨cz, hcz, rfl, h1z⟩ := zero_ok hz
  have h0 : ∀ (A : Option Addr) (c : Nat), (Builtin.clear_ #[t] o.type #[.slice A 0 c]).run P w = .ok (.tuple #[]) w := fun A c => by
    simp only [Builtin.clear_, List.getElem?_toArray, List.getElem?_cons_zero, Sem.run_bind, run_underlying hu, Result.andThen_ok]
    cases A <;> rfl
  rcases asSl_ok (show asSl (x'.v e) (.ok (.t []) h) (.ok (.t []) h) (fun a o l _ => rowsC l (ofVals cz.cells.toList) fun xs => h.put a o xs fun h => .ok (.t []) h) = .ok v h' from g) with ⟨h1, g2⟩ | ⟨h1, g2⟩ | ⟨q, off, l, c, h1, g2⟩
  · cases g2; rw [h1] at vx; rw [vx.inv_s0]; exact .val (.here (h0 _ _) r (.t _ _ .nil))
  · cases g2; rw [h1] at vx; obtain ⟨A, cap, ex⟩ := vx.inv_se; rw [ex]; exact .val (.here (h0 _ _) r (.t _ _ .nil))
  · rw [h1] at vx
    obtain ⟨i, cap, hi, ex, _⟩ := vx.inv_sl
    rw [ex]
    rw [rowsC_eq] at g2
    cases l with
    | zero =>
      have g2 : R1.ok (.t []) h = .ok v h' := g2
      cases g2
      exact .val (.here (h0 _ _) r (.t _ _ .nil))
    | succ l =>
      have hzl : cz.cells.size ≠ 0 := by rw [ofVals_length] at hz0; simpa using hz0
      obtain ⟨e1, e2⟩ := zeros_sim (σ := σ) (c := cz) (z := ofVals cz.cells.toList) (k := l + 1) (m := cz.cells.size) (ofVals_sim σ _) h1z (by rw [ofVals_length]; simp) (Nat.mul_ne_zero (by omega) hzl)
      obtain ⟨h2, w2, g3, hst, r2, hn⟩ := put_sim r hi e1 e2 g2
      cases g3
      refine .inl ⟨σ, .tuple #[], w2, ?_, ⟨fun _ _ => rfl, by rw [hn]; exact Nat.le_refl _, rfl⟩, r2, .t _ _ .nil⟩
      have hrun : (Builtin.clear_ #[t] o.type #[.slice (some ⟨i.blk, i.d + off, none⟩) (l + 1) cap]).run P w = .ok (.tuple #[]) w2 := by
        simp only [Builtin.clear_, List.getElem?_toArray, List.getElem?_cons_zero, Sem.run_bind, run_underlying hu, Result.andThen_ok, hcz, Builtin.zeroCells, hst, Sem.run_pure]
      rw [Sem.run_bind, hrun]; rfl

theorem sim_usd {t : TypeId} {ts : Array TypeId} {x : Operand} {x' : O} (hx : opd P n x = some x') (ho : o.op = .call { callee := .builtin .unsafeSliceData, args := #[x], argTypes := ts }) (_ht : t = o.type) : OpSim P n o (.usd x') := by
  intro cf σ h w e a v h' _ r he g
  have vx := opd_sim r he hx
  have hex : execOp a.eval o = (do let v ← Builtin.unsafeSliceData_ ts o.type #[a.eval x]; pure (.value v)) := by simp [execOp, ho, resolve, invoke, builtin]
  rw [hex]
  rcases asSl_ok (show asSl (x'.v e) (.no 115) (.no 115) (fun a o l c => nR c (nR l (.no 113) fun _ => .ok (.p a o) h) fun c => nR c (.no 114) fun _ => .ok (.p a o) h) = .ok v h' from g) with ⟨h1, g2⟩ | ⟨h1, g2⟩ | ⟨q, off, l, c, h1, g2⟩
  · cases g2
  · cases g2
  rw [h1] at vx
  obtain ⟨i, cap, hi, ex, hl, _, hc⟩ := vx.inv_sl
  rw [ex]
  have hcap : cap ≠ 0 ∧ v = .p q off ∧ h' = h := by
    rcases nR_ok g2 with ⟨_, g3⟩ | ⟨c', rfl, g3⟩
    · rcases nR_ok g3 with ⟨_, g4⟩ | ⟨l', rfl, g4⟩
      · cases g4
      · cases g4; exact ⟨by omega, rfl, rfl⟩
    · rcases nR_ok g3 with ⟨_, g4⟩ | ⟨l', rfl, g4⟩
      · cases g4
      · cases g4; exact ⟨by rw [hc _ rfl]; omega, rfl, rfl⟩
  obtain ⟨hcap, rfl, rfl⟩ := hcap
  have hrun : (Builtin.unsafeSliceData_ ts o.type #[.slice (some ⟨i.blk, i.d + off, none⟩) l cap]).run P w = .ok (.pointer (some ⟨i.blk, i.d + off, none⟩)) w := by
    show (if cap ≠ 0 then pure (.pointer (some ⟨i.blk, i.d + off, none⟩)) else _ : Sem Value).run P w = _
    rw [if_pos hcap]; rfl
  exact .val (.here hrun r (.p _ _ i hi))

theorem packC_ok {v : V} : ∀ {xs : List V} {vs : List Value} {k : Nat → R1}, VRs σ xs vs → packC xs k = .ok v h' → ∃ bs : List UInt8, k (packB bs) = .ok v h' ∧ vs = bs.map fun b => .int .u8 (b.toNat : Int)
  | [], _, k, hv, g => by cases hv; exact ⟨[], g, rfl⟩
  | x :: xs, vs, k, hv, g => by
    obtain ⟨q, m, rfl, g2⟩ := asI_ok (show asI x (fun q n => bR (kin .u8 q) (packC xs fun r => fo (Nat.add n (Nat.mul 256 r)) k) (.no 17)) = .ok v h' from g)
    obtain ⟨hk, g3⟩ := bR_no g2
    rw [kin_eq] at hk
    have hk := of_decide_eq_true hk
    subst hk
    cases hv with
    | cons _ c _ cs hc hs =>
      obtain ⟨hm, rfl⟩ := hc.inv_i
      have hm : m < 256 := hm
      obtain ⟨bs, g4, rfl⟩ := packC_ok hs g3
      rw [fo_eq] at g4
      have e2 : (UInt8.ofNat m).toNat = m := by simp; omega
      refine ⟨UInt8.ofNat m :: bs, ?_, ?_⟩
      · rw [packB, e2]; exact g4
      · rw [toI_pos rfl, List.map_cons, e2]

theorem run_loadBytes (A : Addr) : ∀ (bs : List UInt8) (j : Nat) (acc : ByteArray), (∀ (k : Nat) u, (bs.map fun b => Value.int .u8 (b.toNat : Int))[k]? = some u → w.cell? (A.add (j + k)) = some u) →
    (loadBytes (A.add j) acc bs.length).run P w = .ok ⟨acc.data ++ bs.toArray⟩ w
  | [], j, acc, _ => by simp [loadBytes]
  | b :: bs, j, acc, hc => by
    have h0 := hc 0 (.int .u8 (b.toNat : Int)) (by simp)
    have hadd : (A.add j).add 1 = A.add (j + 1) := by
      unfold Addr.add
      by_cases hj : j = 0
      · subst hj; simp
      · simp [hj, Nat.add_assoc]
    have ih := run_loadBytes A bs (j + 1) (acc.push b) (fun k u hu => by
      have := hc (k + 1) u (by simpa using hu)
      rw [show j + 1 + k = j + (k + 1) by omega]; exact this)
    rw [Nat.add_zero] at h0
    simp only [List.length_cons, loadBytes, Sem.run_bind, run_load, h0, Result.andThen_ok, hadd]
    have e : (b.toNat : Int).toNat.toUInt8 = b := by simp
    rw [e, ih]
    congr 1
    simp [ByteArray.push]

theorem stO_ok {st : BS} {x : R1} (g : stO st x = .ok v h') : st ≠ .os ∧ x = .ok v h' := by cases st <;> first | (cases g; done) | exact ⟨by simp, g⟩

theorem sim_ust {pt el : TypeId} {ts : Array TypeId} {x y : Operand} {x' y' : O} (ht : ts[0]? = some pt) (hu : P.underlying pt = some (.pointer el)) (hs1 : size? P el = some 1) (hx : opd P n x = some x') (hy : opd P n y = some y')
    (ho : o.op = .call { callee := .builtin .unsafeString, args := #[x, y], argTypes := ts }) : OpSim P n o (.ust el x' y') := by
  intro cf σ h w e a v h' _ r he g
  have vx := opd_sim r he hx
  have hex : execOp a.eval o = (do let v ← Builtin.unsafeString_ ts o.type #[a.eval x, a.eval y]; pure (.value v)) := by simp [execOp, ho, resolve, invoke, builtin]
  rw [hex]
  obtain ⟨b, off, h1, g1⟩ := asP_ok (show asP (x'.v e) (fun a o => idx (y'.v e) fun n => bR (Nat.ble n 1000000) (nR n (.ok (.s 0 0) h) fun _ =>
    h.cl a fun t' st fz m l => stO st (bR (Nat.beq t' el) (takeC n (dropL o l) fun xs => packC xs fun r => fo (Nat.add o n) fun fz' =>
      bR (Nat.ble fz fz') (h.set a (.cl t' st fz' m l) fun h => .ok (.s n r) h) (h.set a (.cl t' st fz m l) fun h => .ok (.s n r) h)) (.no 118))) (.no 142)) = .ok v h' from g)
  obtain ⟨q, N, hN1, hN2, hN3, hNp, g2⟩ := idx_ok (opd_sim r he hy) g1
  obtain ⟨hNm, g2⟩ := bR_no g2
  have hNm := nble hNm
  rw [h1] at vx
  obtain ⟨i, hi, ex⟩ := vx.inv_p
  rw [ex, hN2]
  have hmax : ¬ ((N : Int) > IntKind.i64.max) := by rw [i64_max]; omega
  have hneg : ¬ ((N : Int) < 0) := by omega
  have hnat : (N : Int).toNat = N := rfl
  rcases nR_ok g2 with ⟨rfl, g3⟩ | ⟨N', rfl, g3⟩
  · cases g3
    refine .val (.here (c := .string .empty) ?_ r (.s _ _ _ rfl rfl))
    show ((asInt (.int q ((0 : Nat) : Int)) >>= _ : Sem Value)).run P w = _
    simp only [asInt, asIntOf, Sem.run_bind, Sem.run_pure, Result.andThen_ok, ht, hneg, hmax, if_false]
    rfl
  · obtain ⟨t', st, fz, nn, l, hb, g4⟩ := Hp.cl_ok g3
    obtain ⟨cs, fr, br⟩ := r.cl hi hb
    obtain ⟨hst, g5⟩ := stO_ok g4
    obtain ⟨hte, g6⟩ := bR_no g5
    have hte := nbeq hte
    subst hte
    obtain ⟨hle, g7⟩ := takeC_ok _ g6
    rw [dropL_eq] at g7 hle
    rw [List.length_drop] at hle
    have hor : N' + 1 = 0 ∨ off + (N' + 1) ≤ l.length := by omega
    obtain ⟨vs, v1, v2, v3, v4, _⟩ := br.cells off (N' + 1) hor
    obtain ⟨bs, g8, rfl⟩ := packC_ok v2 g7
    rw [fo_eq] at g8
    have hbl : bs.length = N' + 1 := by simpa using v1
    have hlb := run_loadBytes (P := P) (w := w) ⟨i.blk, i.d + off, none⟩ bs 0 .empty (fun k u hu => by rw [addr_add, Nat.zero_add]; exact v4 k u hu)
    have hE := br.le
    have hsz := br.size
    have hln := br.len
    obtain ⟨dd, hdd⟩ := depth_succ P
    have hc1 := (run_size (P := P) (w := w) hs1).2
    have hsh := run_shape_cells (P := P) br.at_
    have hrow : rowAt P (sameLayout P (dd + 2) · t') (dd + 2) t' (cs.size / P.cellsOf t') (i.d + off) (N' + 1) = true := by
      have h1 : i.d + off + (N' + 1) ≤ cs.size := by omega
      simp [rowAt, hc1, sameLayout_refl, h1, Nat.mod_one]
    have hva : (variablesAt ⟨i.blk, i.d + off, none⟩ t' (N' + 1)).run P w = .ok true w := by
      simp only [variablesAt, Sem.run_bind, run_program, hsh, Result.andThen_ok, Sem.run_pure, hdd]
      have : liesAt P (dd + 2) t' (cs.size / P.cellsOf t') (i.d + off) t' (N' + 1) = true := by
        show (rowAt P (sameLayout P P.depth · t') P.depth t' (cs.size / P.cellsOf t') (i.d + off) (N' + 1) || _) = true
        rw [hdd, hrow]; rfl
      rw [this]
    have hel : (elemOf pt).run P w = .ok t' w := by simp only [elemOf, Sem.run_bind, run_underlying hu, Result.andThen_ok, Sem.run_pure]
    -- the block is frozen from off on
    obtain ⟨fr', hfr', hw⟩ : ∃ fr' : Nat × Nat, fr' = (if (fr.1 == fr.2) = true then (i.d + off, i.d + off + (N' + 1)) else (min fr.1 (i.d + off), max fr.2 (i.d + off + (N' + 1)))) ∧
        w.freeze ⟨i.blk, i.d + off, none⟩ (N' + 1) = { w with heap := w.heap.modify i.blk fun _ => .cells cs t' fr' } := by
      refine ⟨_, rfl, ?_⟩
      simp only [World.freeze, Nat.add_one_ne_zero, if_false]
      congr 1
      apply Array.ext_getElem?
      intro j
      rw [Array.getElem?_modify, Array.getElem?_modify]
      by_cases hj : i.blk = j
      · subst hj; simp only [if_true, br.at_, Option.map_some]
      · rw [if_neg hj, if_neg hj]
    have hlt : i.blk < w.heap.size := (Array.getElem?_eq_some_iff.1 br.at_).1
    have hrun : (Builtin.unsafeString_ ts o.type #[.pointer (some ⟨i.blk, i.d + off, none⟩), .int q ((N' + 1 : Nat) : Int)]).run P w = .ok (.string ⟨bs.toArray⟩) { w with heap := w.heap.modify i.blk fun _ => .cells cs t' fr' } := by
      have hN0 : ¬ (((N' + 1 : Nat) : Int) = 0) := by omega
      have e0 : (⟨i.blk, i.d + off, none⟩ : Addr).add 0 = ⟨i.blk, i.d + off, none⟩ := rfl
      rw [e0, hbl] at hlb
      show ((asInt (.int q ((N' + 1 : Nat) : Int)) >>= _ : Sem Value)).run P w = _
      simp only [asInt, asIntOf, Sem.run_bind, Sem.run_pure, Result.andThen_ok, ht, hneg, hmax, if_false, hN0, hel, hnat, hva, if_true, hlb, run_freeze, hw]
      simp
    have hch : ∀ fz', fz ≤ fz' → off + (N' + 1) ≤ fz' → (fz' = fz ∨ fz' = off + (N' + 1)) → Rel P σ (h.st b (.cl t' st fz' nn l)) ((core w).with (w.heap.modify i.blk fun _ => .cells cs t' fr')) := fun fz' hf1 hf2 hf3 => by
      refine r.change hi (by rw [hb]; simp) (by simp) (fun p hp => by rw [Array.getElem?_modify, if_neg (Ne.symm hp)]) ⟨cs, fr', ⟨by rw [Array.getElem?_modify, if_pos rfl, br.at_]; rfl, hsz, hln, hE, br.shut, br.sz, br.cell, fun j hj ha hb => ?_, fun _ => .inl ?_, fun _ h0 => by omega⟩⟩
      · have h2 := br.fro2 hst
        rw [hfr'] at ha hb
        split at ha
        · rename_i heq; simp only [heq, if_true] at hb; omega
        · rename_i heq
          simp only [heq, if_false, Bool.false_eq_true] at hb ha
          have hne : fr.1 ≠ fr.2 := by simpa using heq
          rcases h2 with h2 | h2
          · have : max fr.2 (i.d + off + (N' + 1)) ≤ i.d + fz' := by omega
            omega
          · exact absurd h2 hne
      · have h2 := br.fro2 hst
        rw [hfr']
        split
        · simp only; omega
        · rename_i heq
          have hne : fr.1 ≠ fr.2 := by simpa using heq
          simp only
          rcases h2 with h2 | h2
          · omega
          · exact absurd h2 hne
    have hvs : VR σ (.s (N' + 1) (packB bs)) (.string ⟨bs.toArray⟩) := .s _ _ _ (by simpa using hbl) (by simp)
    rcases bR_ok g8 with ⟨hfz, g9⟩ | ⟨hfz, g9⟩ <;> rw [Hp.set_eq] at g9 <;> cases g9
    · exact .inl ⟨σ, _, _, by rw [Sem.run_bind, hrun]; rfl, Ext.same b _, hch _ (nble hfz) (Nat.le_refl _) (.inr rfl), hvs⟩
    · have := nble_false hfz
      exact .inl ⟨σ, _, _, by rw [Sem.run_bind, hrun]; rfl, Ext.same b _, hch _ (Nat.le_refl _) (Nat.le_of_lt this) (.inl rfl), hvs⟩
end
end Go.Proofs.YtoipldpekiikjaaGreatDoor.Clo

namespace Go.Proofs.YtoipldpekiikjaaGreatDoor.Clo
set_option linter.all false
section
variable {P : Program} {n : Tm} {o : Oper} {σ σ' : Sg} {h h' : Hp} {w : World} {v : V}

/-- What append does, where k elements come, which are vs. -/
structure Appended (P : Program) (w : World) (t u el ty : TypeId) (x : Value) (m y k : Nat) (vs : List Value) (c : Value) : Prop where
  room : ∀ (base : Option Addr) (sLen sCap : Nat) (w2 : World), sLen + k ≤ sCap → (∀ A, base = some A → (storeCells (A.add (sLen * m)) vs).run P w = .ok () w2) → (base = none → w2 = w) →
    (Builtin.append_ #[t, u] ty #[.slice base sLen sCap, x]).run P w = .ok (.slice base (sLen + k) sCap) w2
  grow : ∀ (base : Option Addr) (sLen sCap : Nat) (old : Array Value), sCap < sLen + k → y * (sLen + k) ≤ 1000000 → (sLen + k) ≤ 1000000 → (Builtin.firstCells m sLen (.slice base sLen sCap)).run P (drew w) = .ok old (drew w) →
    ∃ cap, sLen + k ≤ cap ∧ (Builtin.append_ #[t, u] ty #[.slice base sLen sCap, x]).run P w =
      .ok (.slice (some ⟨w.heap.size, 0, none⟩) (sLen + k) cap) { drew w with heap := w.heap.push (.cells (old ++ vs.toArray ++ Builtin.zeroCells c.cells (cap - (sLen + k))) el) }

theorem nextcap_le (need old : Nat) (h : old < need) : Builtin.nextslicecap need old ≤ 4 * need + 1000 := by
  unfold Builtin.nextslicecap
  split
  · omega
  · split
    · omega
    · have hg : ∀ r c, c ≤ 4 * need + 1000 → Builtin.growBy need r c ≤ 4 * need + 1000 := by
        intro r
        induction r with
        | zero => intro c hc; exact hc
        | succ r ih =>
          intro c hc
          unfold Builtin.growBy
          split
          · exact hc
          · exact ih _ (by omega)
      exact hg 4 old (by omega)

theorem fits {y need old : Nat} (h : old < need) (hy : y * need ≤ 1000000) : ¬ (Builtin.nextslicecap need old * y > 2 ^ 48) := by
  have h1 := nextcap_le need old h
  rcases Nat.eq_zero_or_pos need with h0 | h0
  · omega
  have hy2 : y ≤ 1000000 := Nat.le_trans (Nat.le_mul_of_pos_right y h0) hy
  have : Builtin.nextslicecap need old * y ≤ (4 * need + 1000) * y := Nat.mul_le_mul_right _ h1
  have e : (4 * need + 1000) * y = 4 * (y * need) + 1000 * y := by rw [Nat.add_mul, Nat.mul_assoc, Nat.mul_comm need y]
  omega
theorem bytes_info {el : TypeId} {y : Nat} (hy : bytes? P el = some y) : ∃ inf, (∀ w, (typeInfo el).run P w = .ok inf w) ∧ inf.bytes = y := by
  simp only [bytes?, Option.map_eq_some_iff] at hy
  obtain ⟨inf, h1, h2⟩ := hy
  exact ⟨inf, fun w => run_typeInfo w h1, h2⟩

theorem appended_any {t u el ty : TypeId} {d : TypeDesc} {m y k : Nat} {vs : List Value} {c x : Value} (hu : P.underlying t = some (.slice el)) (hm : size? P el = some m) (hy : bytes? P el = some y) (hc : ∀ w, (zeroValue el).run P w = .ok c w)
    (hd : P.underlying u = some d) (hdi : ∀ q, d ≠ .int q) (hk : (Builtin.lenOf x).run P w = .ok k w) (hfc : ∀ d, (Builtin.firstCells m k x).run P { w with drawn := d } = .ok vs.toArray { w with drawn := d }) : Appended P w t u el ty x m y k vs c := by
  obtain ⟨inf, hinf, hib⟩ := bytes_info hy
  have hsz := fun w => (run_size (P := P) (w := w) hm).1
  have hfc1 := hfc w.drawn
  have hfc2 : (Builtin.firstCells m k x).run P (drew w) = .ok vs.toArray (drew w) := hfc (w.drawn + 1)
  refine ⟨fun base sLen sCap w2 hle hst hno => ?_, fun base sLen sCap old hlt hb1 hb2 hold => ?_⟩
  · simp only [Builtin.append_, List.getElem?_toArray, List.getElem?_cons_zero, List.getElem?_cons_succ, Sem.run_bind, run_underlying hu, run_underlying hd, Result.andThen_ok, hsz, Sem.run_pure, Bool.false_eq_true, if_false, hk, Bool.not_false, if_true, hle, hfc1]
    cases base with
    | none => rw [hno rfl]; rfl
    | some A => simp only [hst A rfl, Sem.run_bind, Result.andThen_ok, Sem.run_pure]
  · refine ⟨(Question.appendCap (sLen + k) sCap el).cut (w.tape w.drawn (.appendCap (sLen + k) sCap el)), cap_ge _ _ _ _, ?_⟩
    have hn : ¬ (sLen + k ≤ sCap) := by omega
    have hf := fits hlt hb1
    have h63 : ¬ (((sLen + k : Nat) : Int) > IntKind.i64.max ∧ (False ∨ y = 0)) := by rw [i64_max]; omega
    simp only [Builtin.append_, List.getElem?_toArray, List.getElem?_cons_zero, List.getElem?_cons_succ, Sem.run_bind, run_underlying hu, run_underlying hd, Result.andThen_ok, hsz, Sem.run_pure, Bool.false_eq_true, if_false, hk, Bool.not_false, if_true, hn, hinf, h63, hib, hf,
      run_cap, run_askRoom, hold, hfc2, hc, newRow, run_newObj]
    rfl

theorem appended_int {t u el ty : TypeId} {q qx : IntKind} {m y k : Nat} {vs : List Value} {c : Value} (hu : P.underlying t = some (.slice el)) (hm : size? P el = some m) (hy : bytes? P el = some y) (hc : ∀ w, (zeroValue el).run P w = .ok c w)
    (hd : P.underlying u = some (.int q)) (hk : k ≤ 1000000) (hy1 : y * k ≤ 1000000) (hvs : k * m ≠ 0 → (Builtin.zeroCells c.cells k).toList = vs) (hvs0 : k * m = 0 → vs = []) : Appended P w t u el ty (.int qx (k : Int)) m y k vs c := by
  obtain ⟨inf, hinf, hib⟩ := bytes_info hy
  have hsz := fun w => (run_size (P := P) (w := w) hm).1
  have w1 : IntKind.i64.wrap (k : Int) = k := wrap_small (by show k < 18446744073709551616; omega) (by simp [pos, sgn, half]; omega)
  have hneg : ¬ ((k : Int) < 0) := by omega
  have hbig : ¬ ((k : Int) * (y : Int) > 2 ^ 48) := by rw [Int.mul_comm]; exact_mod_cast (by omega : ¬ (y * k > 2 ^ 48))
  have hnat : (k : Int).toNat = k := rfl
  have happ : ∀ w : World, (if k * m = 0 then (pure #[] : Sem (Array Value)) else do pure (Builtin.zeroCells (← zeroValue el).cells k)).run P w = .ok vs.toArray w := fun w => by
    by_cases h0 : k * m = 0
    · rw [if_pos h0, hvs0 h0]; rfl
    · rw [if_neg h0]; simp only [Sem.run_bind, hc, Result.andThen_ok, Sem.run_pure, ← hvs h0]
  refine ⟨fun base sLen sCap w2 hle hst hno => ?_, fun base sLen sCap old hlt hb1 hb2 hold => ?_⟩
  · simp only [Builtin.append_, List.getElem?_toArray, List.getElem?_cons_zero, List.getElem?_cons_succ, Sem.run_bind, run_underlying hu, run_underlying hd, Result.andThen_ok, hsz, Sem.run_pure, if_true, asInt, asIntOf, w1, hneg, if_false, hinf, hib, hbig, hnat,
      Bool.not_true, Bool.false_eq_true, hle, happ]
    cases base with
    | none => rw [hno rfl]; rfl
    | some A => simp only [hst A rfl, Sem.run_bind, Result.andThen_ok, Sem.run_pure]
  · refine ⟨(Question.appendCap (sLen + k) sCap el).cut (w.tape w.drawn (.appendCap (sLen + k) sCap el)), cap_ge _ _ _ _, ?_⟩
    have hn : ¬ (sLen + k ≤ sCap) := by omega
    have hf := fits hlt hb1
    have h63 : ¬ (((sLen + k : Nat) : Int) > IntKind.i64.max ∧ (True ∨ y = 0)) := by rw [i64_max]; omega
    simp only [Builtin.append_, List.getElem?_toArray, List.getElem?_cons_zero, List.getElem?_cons_succ, Sem.run_bind, run_underlying hu, run_underlying hd, Result.andThen_ok, hsz, Sem.run_pure, if_true, asInt, asIntOf, w1, hneg, if_false, hinf, hib, hbig, hnat,
      Bool.not_true, Bool.false_eq_true, hn, h63, hf, run_cap, run_askRoom, hold, happ, hc, newRow, run_newObj]
    rfl

/-- A name that is struck, its block going on by a new one. -/
theorem Rel.move {hp : Core} {hp' : Array Obj} (r : Rel P σ h hp) {x y : Nm} {i j : Inf} (hx : σ x = some i) (hd : h.get x ≠ .dead) (hs : hp'.size = hp.heap.size) (ho : ∀ q, q ≠ i.blk → hp'[q]? = hp.heap[q]?) (hy : y.n = h.nx.n + 1) {b : Blk} (hj : j.blk = i.blk)
    (hb : BR P (σ.add h.nx j) hp' j b) : Rel P (σ.add h.nx j) ((h.st x .dead).add y b) (hp.with hp') ∧ Ext σ (σ.add h.nx j) h ((h.st x .dead).add y b) := by
  have le := r.le_add (Nat.le_refl _) j
  have hxn : x ≠ h.nx := fun e => by rw [e, r.new _ (Nat.le_refl _)] at hx; cases hx
  have hget : ∀ z k, σ z = some k → ((h.st x .dead).add y b).get z = if z = x then .dead else h.get z := fun z k hz => by
    rw [Hp.get_add, Hp.nx_st]
    have : z ≠ h.nx := fun e => by rw [e, r.new _ (Nat.le_refl _)] at hz; cases hz
    rw [if_neg this, Hp.get_st]
  refine ⟨⟨fun z k hz => ?_, fun z z' k k' hz hz' dz dz' e => ?_, fun z hz => ?_, fun z k hz => ?_, fun g hg => let ⟨k, h1, h2⟩ := r.glob g hg; ⟨k, le _ _ h1, h2⟩, fun z hz => ?_, fun q o hq => ?_, fun z k hz dz => ?_, r.os, r.out, r.tp⟩, fun z hz => ?_, ?_, rfl⟩
  · simp only [Sg.add_eq] at hz
    split at hz
    · rename_i e; subst e; cases hz; rw [Hp.get_add, Hp.nx_st, if_pos rfl]; exact hb
    · rw [hget z k hz]
      split
      · trivial
      · rename_i hne
        by_cases dz : h.get z = .dead
        · rw [dz]; trivial
        · exact (r.blk z k hz).mono le (ho _ fun e => hne (r.inj z x k i hz hx dz hd e))
  · simp only [Sg.add_eq] at hz hz'
    split at hz <;> split at hz'
    · rename_i e1 e2; rw [e1, e2]
    · cases hz
      rw [hget z' k' hz'] at dz'
      split at dz'
      · exact absurd rfl dz'
      · rename_i hne; exact absurd (r.inj z' x k' i hz' hx dz' hd (by rw [← e, hj])) hne
    · cases hz'
      rw [hget z k hz] at dz
      split at dz
      · exact absurd rfl dz
      · rename_i hne; exact absurd (r.inj z x k i hz hx dz hd (by rw [e, hj])) hne
    · rw [hget z k hz] at dz; rw [hget z' k' hz'] at dz'
      split at dz
      · exact absurd rfl dz
      · split at dz'
        · exact absurd rfl dz'
        · exact r.inj z z' k k' hz hz' dz dz' e
  · rw [Sg.add_eq]
    have hz' : y.n ≤ z.n := hz
    split
    · rename_i e; subst e; omega
    · exact r.new z (by omega)
  · simp only [Sg.add_eq] at hz
    split at hz
    · cases hz; rw [hs, hj]; exact r.lt x i hx
    · rw [hs]; exact r.lt z k hz
  · have hz' : y.n ≤ z.n := hz
    rw [Hp.get_add, Hp.nx_st, if_neg (fun e => by subst e; omega), Hp.get_st]
    split
    · rfl
    · exact r.free z (by omega)
  · rw [ho q (fun e => by rw [e] at hq; exact absurd (hq.symm.trans (r.own x i hx hd)) (by simp))]; exact r.fix q o hq
  · rw [Sg.add_eq] at hz
    split at hz
    · cases hz; rw [hj]; exact r.own x i hx hd
    · rw [hget z k hz] at dz
      split at dz
      · exact absurd rfl dz
      · exact r.own z k hz dz
  · rw [Sg.add_eq]
    split
    · rename_i e; subst e; omega
    · rfl
  · show h.nx.n ≤ y.n
    omega

theorem zeroCells_size (z : Array Value) (k : Nat) : (Builtin.zeroCells z k).size = k * z.size := by simp [Builtin.zeroCells]

/-- A grown slice's block. -/
theorem grown {el : TypeId} {m need cap : Nat} {l : List V} {us : List Value} {cz : Value} {st : BS} {fz : Nat} {y : Nm} (r : Rel P σ h (core w)) (hy : y.n = h.nx.n + 1) (hv : VRs σ l us) (hone : ∀ y ∈ us, y.oneCell' = true) (hl : us.length = need * m) (hcz : cz.cells.size = m)
    (hcap : need ≤ cap) (hst : st ≠ .c) (hm : P.cellsOf el = m) :
    ∃ s, Rel P s (h.add y (.cl el st fz (need * m) l)) ((core w).with (w.heap.push (.cells (us.toArray ++ Builtin.zeroCells cz.cells (cap - need)) el))) ∧ Ext σ s h (h.add y (.cl el st fz (need * m) l)) ∧ VR s (.sl h.nx 0 need 0) (.slice (some ⟨w.heap.size, 0, none⟩) need cap) := by
  have hll : l.length = need * m := by rw [hv.length, hl]
  have hsz : (us.toArray ++ Builtin.zeroCells cz.cells (cap - need)).size = cap * m := by
    rw [Array.size_append, zeroCells_size, hcz, List.size_toArray, hl, ← Nat.add_mul]; congr 1; omega
  obtain ⟨r1, r2, r3⟩ := new_cells (w := w) r hy (l := l) (cs := us.toArray ++ Builtin.zeroCells cz.cells (cap - need)) (t := el) (st := st) (fz := fz) (fr := (0, 0)) (by rw [hsz, hll]; exact Nat.mul_le_mul_right _ hcap) (fun e => absurd e hst)
    (fun j q hq => by
      obtain ⟨c, hc, hr⟩ := hv.get hq
      refine ⟨c, ?_, hr, hone c (List.mem_of_getElem? hc)⟩
      have hj : j < us.length := (List.getElem?_eq_some_iff.1 hc).1
      rw [Array.getElem?_append_left (by simpa using hj)]; simpa using hc)
    (fun j _ _ h3 => by simp at h3) (fun _ => .inr rfl) (fun _ _ => rfl)
  rw [hll] at r1 r2
  refine ⟨_, r1, r2, ?_⟩
  exact VR.sl h.nx 0 need 0 _ cap r3 hcap (fun _ => by simp only [hsz, hm, Nat.add_zero]) (fun k hk => by omega)

/-- What an append gives. -/
theorem onto_sim {t u el ty : TypeId} {m y k : Nat} {x : V} {vs : List Value} {xs : List V} {cx csrc cz : Value} (r : Rel P σ h (core w)) (hm : size? P el = some m) (hm0 : m ≠ 0) (hx : VR σ x cx)
    (happ : Appended P w t u el ty csrc m y k vs cz) (hv : VRs σ xs vs) (hone : ∀ y ∈ vs, y.oneCell' = true) (hvl : vs.length = k * m) (hcz : cz.cells.size = m)
    (g : onto el m y x k xs h = .ok v h') : NextOk P σ h h' w v (do let v ← Builtin.append_ #[t, u] ty #[cx, csrc]; pure (.value v)) := by
  have hcm := (run_size (P := P) (w := w) hm).2
  have fin : ∀ {w2 : World} {c : Value} {s : Sg}, (Builtin.append_ #[t, u] ty #[cx, csrc]).run P w = .ok c w2 → Ext σ s h h' → Rel P s h' (core w2) → VR s v c → NextOk P σ h h' w v (do let v ← Builtin.append_ #[t, u] ty #[cx, csrc]; pure (.value v)) :=
    fun {w2 c s} hr he hrel hvr => .inl ⟨s, c, w2, by rw [Sem.run_bind, hr]; rfl, he, hrel, hvr⟩
  rcases asSl_ok g with ⟨rfl, g2⟩ | ⟨_, g2⟩ | ⟨b, off, l, c, rfl, g2⟩
  · have ec := hx.inv_s0
    subst ec
    rcases nR_ok g2 with ⟨rfl, g3⟩ | ⟨k', rfl, g3⟩
    · cases g3
      exact fin (happ.room none 0 0 w (Nat.le_refl _) (fun _ h => by cases h) (fun _ => rfl)) (.refl _ _) r .s0
    · obtain ⟨hk6, g3⟩ := bR_no g3
      obtain ⟨hy, g4⟩ := bR_no g3
      have hy := nble hy
      have hk6 := nble hk6
      obtain ⟨yn, hyn, g5⟩ := Hp.new_ok g4
      cases g5
      simp only [nmul] at hy
      obtain ⟨cap, hcap, hrun⟩ := happ.grow none 0 0 #[] (by omega) (by rw [Nat.zero_add]; exact hy) (by omega) rfl
      rw [Nat.zero_add] at hcap hrun
      obtain ⟨s, r1, r2, r3⟩ := grown (el := el) (st := .o) (fz := 0) r hyn hv hone hvl hcz hcap (by simp) hcm
      have e0 : #[] ++ vs.toArray ++ Builtin.zeroCells cz.cells (cap - (k' + 1)) = vs.toArray ++ Builtin.zeroCells cz.cells (cap - (k' + 1)) := by simp
      rw [e0] at hrun
      exact fin hrun r2 r1 r3
  · cases g2
  · obtain ⟨i, cap, hi, ec, hl, hc0, hc1⟩ := hx.inv_sl
    subst ec
    rw [fo_eq] at g2
    obtain ⟨hn6, g3⟩ := bR_no g2
    obtain ⟨hy, g4⟩ := bR_no g3
    have hn6 : l + k ≤ 1000000 := nble hn6
    have hy : y * (l + k) ≤ 1000000 := nble hy
    have hmul : (l + k) * m = l * m + k * m := Nat.add_mul l k m
    rcases nR_ok g4 with ⟨rfl, g5⟩ | ⟨c', rfl, g5⟩
    · obtain ⟨t', st, fz, nn, l', hb, g6⟩ := Hp.cl_ok g5
      obtain ⟨hte, g7⟩ := bR_no g6
      have hte := nbeq hte
      subst hte
      obtain ⟨cs, fr, br⟩ := r.cl hi hb
      have hsz : i.sz = m := by rw [br.sz, hcm]
      have hE := br.le
      have hss := br.size
      have hln := br.len
      have hcap := hc0 rfl
      rw [hsz] at hcap
      rcases bR_ok g7 with ⟨hle, g8⟩ | ⟨hle, g8⟩
      · have hle : off + (l + k) * m ≤ nn := nble hle
        have hneedm : (l + k) * m ≤ cap * m := by omega
        have hneed : l + k ≤ cap := Nat.le_of_mul_le_mul_right hneedm (Nat.pos_of_ne_zero hm0)
        obtain ⟨h2, w2, g9, hst, r2, hn⟩ := put_sim r hi hv hone g8
        cases g9
        refine fin (happ.room _ l cap w2 hneed (fun A hA => by cases hA; rw [addr_add, Nat.add_assoc]; exact hst) (fun h => by cases h)) ⟨fun _ _ => rfl, by rw [hn]; exact Nat.le_refl _, rfl⟩ r2
          (VR.sl b off (l + k) 0 i cap hi hneed (fun _ => by rw [hsz]; exact hcap) (fun k hk => by omega))
      · have hle := nble_false hle
        obtain ⟨hfz, g9⟩ := bR_no g8
        have hfz : fz ≤ off + l * m := nble hfz
        obtain ⟨htk, g10⟩ := takeC_ok _ g9
        rw [dropL_eq, List.length_drop] at htk
        rw [dropL_eq, catC_eq, fo_eq, fo_eq, Hp.set_eq] at g10
        simp only [nmul, nadd, nsub] at htk g10
        obtain ⟨yn, hyn, g11⟩ := Hp.new_ok g10
        cases g11
        rw [Hp.nx_st] at hyn
        have hor : l * m = 0 ∨ off + l * m ≤ l'.length := by omega
        obtain ⟨us, u1, u2, u3, u4, u5⟩ := br.cells off (l * m) hor
        have hst' : (@BS.rec (fun _ => BS) .o .o .os st) ≠ .c := by cases st <;> simp
        by_cases hneed : l + k ≤ cap
        · -- in place
          have hcapm : (l + k) * m ≤ cap * m := Nat.mul_le_mul_right _ hneed
          have hoffl : off + l * m ≤ nn ∨ off + l * m ≤ i.E := by right; omega
          have hwst := run_storeCells_cells (P := P) i.blk (i.d + (off + l * m)) vs 0 w
            (fun j hj => by rw [br.cell?, Array.getElem?_eq_getElem (by omega)]; rfl)
            (fun j hj => by
              rw [br.frozen?]
              have := br.fro (off + l * m + j) (by omega)
              simp only [Bool.and_eq_false_iff, decide_eq_false_iff_not]
              by_cases h2 : fr.1 ≤ i.d + (off + l * m) + 0 + j
              · right; intro h3; have := this (by omega) (by omega); omega
              · exact .inl h2) hone
          obtain ⟨cs', c1, c2, c3, c4, c5⟩ := setCells_heap i.blk vs (i.d + (off + l * m)) w cs t' fr br.at_ (by omega)
          have hoE : off ≤ i.E := by omega
          have le := r.le_add (Nat.le_refl _) ⟨i.blk, i.d + off, i.E - off, i.sz⟩
          have hlen : ((l'.drop off).take (l * m) ++ xs).length = (l + k) * m := by
            rw [List.length_append, List.length_take, List.length_drop, hv.length, hvl]; omega
          have hbr : BR P (σ.add h.nx ⟨i.blk, i.d + off, i.E - off, i.sz⟩) (w.setCells i.blk (i.d + (off + l * m)) vs).heap ⟨i.blk, i.d + off, i.E - off, i.sz⟩
              (.cl t' (@BS.rec (fun _ => BS) .o .o .os st) (fz - off) ((l + k) * m) ((l'.drop off).take (l * m) ++ xs)) := by
            refine ⟨cs', fr, ⟨c1, by simp only; omega, hlen, by simp only; omega, fun h => absurd h hst', br.sz, fun j q hq => ?_, fun j hj h1 h2 => ?_, fun hos => ?_, fun h => absurd h hst'⟩⟩
            · simp only
              rw [c3]
              by_cases hj : j < l * m
              · rw [List.getElem?_append_left (by rw [List.length_take, List.length_drop]; omega), List.getElem?_take, if_pos hj, List.getElem?_drop] at hq
                obtain ⟨cc, hcc, hr⟩ := br.cell (off + j) q hq
                refine ⟨cc, ?_, hr.1.mono le, hr.2⟩
                rw [if_neg (by omega), show i.d + off + j = i.d + (off + j) by omega]; exact hcc
              · rw [List.getElem?_append_right (by rw [List.length_take, List.length_drop]; omega), List.length_take, List.length_drop, Nat.min_eq_left (by omega)] at hq
                obtain ⟨cc, hcc, hr⟩ := hv.get hq
                have hjlt : j - l * m < vs.length := (List.getElem?_eq_some_iff.1 hcc).1
                refine ⟨cc, ?_, hr.mono le, hone cc (List.mem_of_getElem? hcc)⟩
                rw [if_pos (by omega), show i.d + off + j - (i.d + (off + l * m)) = j - l * m by omega]; exact hcc
            · simp only at hj h1 h2
              have := br.fro (off + j) (by omega) (by omega) (by omega)
              omega
            · have hos' : st ≠ .os := fun e => by subst e; exact hos rfl
              rcases br.fro2 hos' with h1 | h1
              · left; simp only; omega
              · exact .inr h1
          obtain ⟨r1, r2⟩ := r.move hi (by rw [hb]; simp) c5 c4 hyn (j := ⟨i.blk, i.d + off, i.E - off, i.sz⟩) rfl hbr
          refine fin (happ.room _ l cap _ hneed (fun A hA => by cases hA; rw [addr_add, Nat.add_assoc]; exact hwst) (fun h => by cases h)) r2 (by rw [setCells_core]; exact r1) ?_
          have := VR.sl (σ := σ.add h.nx ⟨i.blk, i.d + off, i.E - off, i.sz⟩) h.nx 0 (l + k) 0 _ cap (Sg.add_self _ _ _) hneed (fun _ => by simp only [hsz]; omega) (fun k hk => by omega)
          exact this
        · -- elsewhere
          have hold : (Builtin.firstCells m l (.slice (some ⟨i.blk, i.d + off, none⟩) l cap)).run P (drew w) = .ok us.toArray (drew w) := by
            have := run_loadCells_list (P := P) (drew w) ⟨i.blk, i.d + off, none⟩ us (fun j u hu => by rw [addr_add]; exact u4 j u hu)
            rw [u1] at this; exact this
          obtain ⟨cap', hcap', hrun⟩ := happ.grow _ l cap us.toArray (by omega) hy hn6 hold
          have hk := r.kill b
          obtain ⟨s, r1, r2, r3⟩ := grown (el := t') (st := (@BS.rec (fun _ => BS) .o .o .os st)) (fz := fz - off) (need := l + k) (cap := cap') hk (y := yn) (by rw [Hp.nx_st]; exact hyn) (u2.append hv)
            (fun y hy => by rcases List.mem_append.1 hy with h | h; exact u3 y h; exact hone y h) (by rw [List.length_append, u1, hvl, hmul]) hcz hcap' hst' hcm
          have e0 : us.toArray ++ vs.toArray = (us ++ vs).toArray := by simp
          rw [e0] at hrun
          exact fin hrun ⟨fun x hx => r2.old x hx, r2.le, r2.fr⟩ r1 r3
    · have hcc := hc1 _ rfl
      subst hcc
      rcases bR_ok g5 with ⟨hle, g6⟩ | ⟨hle, g6⟩
      · have hneed := nble hle
        obtain ⟨h2, w2, g9, hst, r2, hn⟩ := put_sim r hi hv hone g6
        cases g9
        refine fin (happ.room _ l cap w2 hneed (fun A hA => by cases hA; rw [addr_add, Nat.add_assoc]; exact hst) (fun h => by cases h)) ⟨fun _ _ => rfl, by rw [hn]; exact Nat.le_refl _, rfl⟩ r2
          (VR.sl b off (l + k) (cap + 1) i cap hi hneed (fun h => by omega) (fun k hk => by omega))
      · have hneed := nble_false hle
        obtain ⟨t', st, fz, nn, l', hb, g7⟩ := Hp.cl_ok g6
        obtain ⟨htk, g10⟩ := takeC_ok _ g7
        rw [dropL_eq, List.length_drop] at htk
        rw [dropL_eq, catC_eq, fo_eq] at g10
        simp only [nmul, nadd] at htk g10 hneed
        obtain ⟨yn, hyn, g11⟩ := Hp.new_ok g10
        cases g11
        obtain ⟨cs, fr, br⟩ := r.cl hi hb
        have hor : l * m = 0 ∨ off + l * m ≤ l'.length := by omega
        obtain ⟨us, u1, u2, u3, u4, u5⟩ := br.cells off (l * m) hor
        have hold : (Builtin.firstCells m l (.slice (some ⟨i.blk, i.d + off, none⟩) l cap)).run P (drew w) = .ok us.toArray (drew w) := by
          have := run_loadCells_list (P := P) (drew w) ⟨i.blk, i.d + off, none⟩ us (fun j u hu => by rw [addr_add]; exact u4 j u hu)
          rw [u1] at this; exact this
        obtain ⟨cap', hcap', hrun⟩ := happ.grow _ l cap us.toArray (by omega) hy hn6 hold
        obtain ⟨s, r1, r2, r3⟩ := grown (el := el) (st := .o) (fz := 0) (need := l + k) (cap := cap') r hyn (u2.append hv)
          (fun y hy => by rcases List.mem_append.1 hy with h | h; exact u3 y h; exact hone y h) (by rw [List.length_append, u1, hvl, hmul]) hcz hcap' (by simp) hcm
        have e0 : us.toArray ++ vs.toArray = (us ++ vs).toArray := by simp
        rw [e0] at hrun
        exact fin hrun r2 r1 r3
end
end Go.Proofs.YtoipldpekiikjaaGreatDoor.Clo

namespace Go.Proofs.YtoipldpekiikjaaGreatDoor.Clo
set_option linter.all false
section
variable {P : Program} {n : Tm} {o : Oper} {σ σ' : Sg} {h h' : Hp} {w : World} {v : V}

theorem exec_app {t u : TypeId} {x y : Operand} {a : Act} (ho : o.op = .call { callee := .builtin .append, args := #[x, y], argTypes := #[t, u] }) :
    execOp a.eval o = (do let v ← Builtin.append_ #[t, u] o.type #[a.eval x, a.eval y]; pure (.value v)) := by simp [execOp, ho, resolve, invoke, builtin]
theorem zero_len {t : TypeId} {z : List V} {m : Nat} (hz : zero? P t = some z) (hl : z.length = m) : ∃ c : Value, (∀ w, (zeroValue t).run P w = .ok c w) ∧ z = ofVals c.cells.toList ∧ (∀ x ∈ c.cells.toList, x.oneCell' = true) ∧ c.cells.size = m := by
  obtain ⟨c, h1, rfl, h3⟩ := zero_ok hz
  rw [ofVals_length] at hl
  exact ⟨c, h1, rfl, h3, by simpa using hl⟩

theorem sim_app {t u e2 el : TypeId} {m y : Nat} {z : List V} {x s : Operand} {x' s' : O} (hu : P.underlying t = some (.slice el)) (hm : size? P el = some m) (hy : bytes? P el = some y) (hz : zero? P el = some z) (hm0 : m ≠ 0) (hzl : z.length = m)
    (hd : P.underlying u = some (.slice e2)) (hx : opd P n x = some x') (hs : opd P n s = some s') (ho : o.op = .call { callee := .builtin .append, args := #[x, s], argTypes := #[t, u] }) : OpSim P n o (.app el m y x' s') := by
  intro cf σ h w e a v h' _ r he g
  obtain ⟨c, hc, _, _, hcs⟩ := zero_len hz hzl
  obtain ⟨len, xs, vs, g3, hv, hone, hvl, ⟨A, cap, hA⟩, hfc⟩ := elems_sim r (opd_sim r he hs) (show elems m (s'.v e) h (fun k xs => onto el m y (x'.v e) k xs h) = .ok v h' from g)
  rw [exec_app ho]
  have hfc' : ∀ d, (Builtin.firstCells m len (a.eval s)).run P { w with drawn := d } = .ok vs.toArray { w with drawn := d } := fun d => by
    have := hfc len (Nat.le_refl _) d
    rwa [← hvl, List.take_length] at this
  exact onto_sim r hm hm0 (opd_sim r he hx) (appended_any (c := c) hu hm hy hc hd (fun _ => by simp) (by rw [hA]; rfl) hfc') hv hone hvl hcs g3
theorem sim_apps {t u el : TypeId} {y : Nat} {z : List V} {x s : Operand} {x' s' : O} (hu : P.underlying t = some (.slice el)) (hm : size? P el = some 1) (hy : bytes? P el = some y) (hz : zero? P el = some z) (hzl : z.length = 1)
    (hd : P.underlying u = some .string) (hx : opd P n x = some x') (hs : opd P n s = some s') (ho : o.op = .call { callee := .builtin .append, args := #[x, s], argTypes := #[t, u] }) : OpSim P n o (.apps el y x' s') := by
  intro cf σ h w e a v h' _ r he g
  obtain ⟨c, hc, _, _, hcs⟩ := zero_len hz hzl
  have vs := opd_sim r he hs
  obtain ⟨l, nn, h2, g3⟩ := asS_ok (show asS (s'.v e) (fun l n => letters l n fun xs => onto el 1 y (x'.v e) l xs h) = .ok v h' from g)
  rw [h2] at vs
  obtain ⟨bs, es, rfl, rfl⟩ := vs.inv_s
  rw [letters_eq] at g3
  rw [exec_app ho, es]
  refine onto_sim (vs := bs.data.toList.map fun b => Value.int .u8 (b.toNat : Int)) r hm (by omega) (opd_sim r he hx) (appended_any (c := c) hu hm hy hc hd (fun _ => by simp) ?_ (fun d => ?_)) (bytes_sim σ _) (bytes_one _) (by simp) hcs g3
  · rw [lenOf_string, bs_size]
  · rw [firstCells_string, List.take_length]
theorem sim_appz {t u el : TypeId} {q : IntKind} {m y : Nat} {z : List V} {x s : Operand} {x' s' : O} (hu : P.underlying t = some (.slice el)) (hm : size? P el = some m) (hy : bytes? P el = some y) (hz : zero? P el = some z) (hm0 : m ≠ 0) (hzl : z.length = m)
    (hd : P.underlying u = some (.int q)) (hx : opd P n x = some x') (hs : opd P n s = some s') (ho : o.op = .call { callee := .builtin .append, args := #[x, s], argTypes := #[t, u] }) : OpSim P n o (.appz el m y z x' s') := by
  intro cf σ h w e a v h' _ r he g
  obtain ⟨c, hc, rfl, h1z, hcs⟩ := zero_len hz hzl
  obtain ⟨qq, k, hk1, hk2, hk3, hkp, g2⟩ := idx_ok (opd_sim r he hs) (show idx (s'.v e) (fun k => bR (Nat.ble k 1000000) (rowsC k (ofVals c.cells.toList) fun xs => onto el m y (x'.v e) k xs h) (.no 102)) = .ok v h' from g)
  obtain ⟨hk6, g3⟩ := bR_no g2
  have hk6 := nble hk6
  rw [rowsC_eq] at g3
  rw [exec_app ho, hk2]
  -- how much is made is in its bounds
  have hyk : y * k ≤ 1000000 := by
    rcases asSl_ok g3 with ⟨_, g4⟩ | ⟨_, g4⟩ | ⟨b, off, l, cc, _, g4⟩
    · rcases nR_ok g4 with ⟨rfl, _⟩ | ⟨k', rfl, g5⟩
      · simp
      · obtain ⟨_, g6⟩ := bR_no g5
        obtain ⟨h1, _⟩ := bR_no g6
        exact nble h1
    · cases g4
    · rw [fo_eq] at g4
      obtain ⟨_, g5⟩ := bR_no g4
      obtain ⟨h1, _⟩ := bR_no g5
      have h1 : y * (l + k) ≤ 1000000 := nble h1
      rw [Nat.mul_add] at h1; omega
  by_cases h0 : k * m = 0
  · have hk0 : k = 0 := by rcases Nat.mul_eq_zero.1 h0 with h | h; exact h; exact absurd h hm0
    subst hk0
    exact onto_sim (vs := []) r hm hm0 (opd_sim r he hx) (appended_int (c := c) hu hm hy hc hd (by omega) (by simp) (fun h => absurd h0 h) (fun _ => rfl)) (by simpa [rows] using VRs.nil) (by simp) (by simp) hcs g3
  · obtain ⟨e1, e2⟩ := zeros_sim (σ := σ) (c := c) (z := ofVals c.cells.toList) (k := k) (m := m) (ofVals_sim σ _) h1z hzl h0
    have hzc : (Builtin.zeroCells c.cells k).toList = ((Array.range (k * m)).map (c.cells[· % c.cells.size]!)).toList := by simp only [Builtin.zeroCells, hcs]
    refine onto_sim (vs := (Builtin.zeroCells c.cells k).toList) r hm hm0 (opd_sim r he hx) (appended_int (c := c) hu hm hy hc hd hk6 hyk (fun _ => rfl) (fun h => absurd h h0)) ?_ ?_ ?_ hcs g3
    · rw [hzc]; exact e1
    · rw [hzc]; exact e2
    · rw [Array.length_toList, zeroCells_size, hcs]

/-! ### Calls -/
theorem sim_call {f : Nat} {as : Array Operand} {as' : List O} {ts : Array TypeId} (hf : f < 4096) (has : opds P n as.toList = some as') (ho : o.op = .call { callee := .value (.func f), args := as, argTypes := ts }) : OpSim P n o (.call (.of f) as') := by
  intro cf σ h w e a v h' hcf r he g
  have g : vals as' e (fun as => cf (.of f) as h) = .ok v h' := g
  rw [vals_eq] at g
  have hex : execOp a.eval o = callFunc f (as.map a.eval) := by
    simp [execOp, ho, resolve, Deferred.ofValue, Act.eval, invoke]
  rw [hex]
  have := hcf _ _ _ _ _ g σ w (as.map a.eval) r (by simpa using opds_sim r he has)
  rw [Fx.n_of hf] at this; exact this
theorem sim_callv {x : Operand} {y : O} {as : Array Operand} {as' : List O} {ts : Array TypeId} (hx : opd P n x = some y) (has : opds P n as.toList = some as') (ho : o.op = .call { callee := .value x, args := as, argTypes := ts }) : OpSim P n o (.callv y as') := by
  intro cf σ h w e a v h' hcf r he g
  obtain ⟨f, fs, cs, h1, g2⟩ := asF_ok (show asF (y.v e) (fun f fs cs => vals as' e fun as => catC fs as fun as => catC as cs fun as => cf f as h) = .ok v h' from g)
  rw [vals_eq, catC_eq, catC_eq] at g2
  have vx := opd_sim r he hx
  rw [h1] at vx
  obtain ⟨vs, ws, ex, hvs, hws⟩ := vx.inv_f
  have hex : execOp a.eval o = callFunc f.n (vs ++ as.map a.eval ++ ws) := by
    have e1 : resolve a.eval { callee := .value x, args := as, argTypes := ts } o.type = Deferred.ofValue (a.eval x) (as.map a.eval) := rfl
    simp only [execOp, ho, e1, ex, Deferred.ofValue]
    rfl
  rw [hex]
  refine hcf _ _ _ _ _ g2 σ w _ r ?_
  simp only [Array.toList_append, Array.toList_map]
  exact (hvs.append (opds_sim r he has)).append hws
theorem pickF_ok : ∀ {l : List (Nat × Fx)} {t : Nat} {k : Fx → R1}, pickF l t k = .ok v h' → ∃ f, (t, f) ∈ l ∧ k f = .ok v h'
  | [], _, _, g => by cases g
  | p :: l, t, k, g => by
    rcases bR_ok (show bR (Nat.beq t p.1) (k p.2) (pickF l t k) = .ok v h' from g) with ⟨hb, g2⟩ | ⟨_, g2⟩
    · have hb := nbeq hb
      exact ⟨p.2, by rw [hb]; exact List.mem_cons_self, g2⟩
    · obtain ⟨q, h1, h2⟩ := pickF_ok g2
      exact ⟨q, List.mem_cons_of_mem _ h1, h2⟩
theorem methodsOf_mem {name : String} {t : TypeId} {f : Fx} (hm : (t, f) ∈ methodsOf P name) :
    ∀ (w : World) (c : Value), (method (P.types.size + Made.depth) t c name).run P w = .ok (f.n, c) w := by
  simp only [methodsOf, List.mem_filterMap, methodAt, Option.bind_eq_bind, Option.bind_eq_some_iff] at hm
  obtain ⟨t', _, i, hi, m, hmm, ⟨f', b⟩, hf, hm⟩ := hm
  by_cases hc : (m.path.toList.isEmpty && !(f', b).2 && isStruct P t' && decide ((f', b).1 < 4096)) = true
  · rw [if_pos hc] at hm
    simp only [Option.some.injEq, Prod.mk.injEq] at hm
    obtain ⟨rfl, rfl⟩ := hm
    simp only [Bool.and_eq_true, Bool.not_eq_true', decide_eq_true_eq, List.isEmpty_iff] at hc
    obtain ⟨⟨⟨hp, hb⟩, hst⟩, hlt⟩ := hc
    subst hb
    obtain ⟨fs, hu⟩ : ∃ fs, P.underlying t' = some (.struct fs) := by
      unfold isStruct at hst
      split at hst
      · exact ⟨_, by assumption⟩
      · cases hst
    intro w c
    obtain ⟨d, hd⟩ : ∃ d, P.types.size + Made.depth = d + 1 := ⟨P.types.size + (Made.depth - 1), by
      have : 1 ≤ Made.depth := by decide
      omega⟩
    rw [hd, Fx.n_of hlt]
    simp only [method, Sem.run_bind, run_typeInfo w hi, Result.andThen_ok, hmm, hp, follow, Sem.run_pure, hf, receiverAt, run_underlying hu, Place.get]
  · rw [if_neg hc] at hm; cases hm
theorem sim_calli {x : Operand} {y : O} {name : String} {as : Array Operand} {as' : List O} {ts : Array TypeId} (hx : opd P n x = some y) (has : opds P n as.toList = some as') (ho : o.op = .call { callee := .invoke x name, args := as, argTypes := ts }) :
    OpSim P n o (.calli (methodsOf P name) y as') := by
  intro cf σ h w e a v h' hcf r he g
  rcases asZ_ok (show asZ (y.v e) (.no 99) (fun t v => pickF (methodsOf P name) t fun f => vals as' e fun as => cf f (v :: as) h) = .ok v h' from g) with ⟨_, g2⟩ | ⟨t, x1, h1, g2⟩
  · cases g2
  obtain ⟨f, hf, g3⟩ := pickF_ok g2
  rw [vals_eq] at g3
  have vx := opd_sim r he hx
  rw [h1] at vx
  obtain ⟨c, ex, hc⟩ := vx.inv_z
  have hm := methodsOf_mem hf w c
  have hex : (execOp a.eval o).run P w = (callFunc f.n (#[c] ++ as.map a.eval)).run P w := by
    have e1 : execOp a.eval o = callMethod (a.eval x) name (as.map a.eval) := by
      simp only [execOp, ho, resolve]
      show invoke (.fn (.method name) #[]) (#[a.eval x] ++ as.map a.eval) = _
      have h0 : (#[a.eval x] ++ as.map a.eval)[0]? = some (a.eval x) := by simp [Array.getElem?_append]
      have h1 : (#[a.eval x] ++ as.map a.eval).extract 1 (#[a.eval x] ++ as.map a.eval).size = as.map a.eval := by
        apply Array.ext'
        simp only [Array.toList_extract, List.extract, Array.toList_append, Array.toList_map]
        simp
        exact List.take_of_length_le (by simp)
      simp only [invoke, h0, h1]
    rw [e1, ex]
    simp only [callMethod, Sem.run_bind, run_program, Result.andThen_ok, hm]
  have := hcf _ _ _ _ _ g3 σ w (#[c] ++ as.map a.eval) r (by simpa using VRs.cons _ _ _ _ hc (opds_sim r he has))
  unfold NextOk at this ⊢
  rw [hex]; exact this
end
end Go.Proofs.YtoipldpekiikjaaGreatDoor.Clo

namespace Go.Proofs.YtoipldpekiikjaaGreatDoor.Clo
set_option linter.all false
section
variable {P : Program} {n : Tm} {o : Oper}

theorem sim_bad : OpSim P n o .bad := by
  intro cf σ h w e a v h' _ _ _ g
  cases (show R1.no 98 = .ok v h' from g)

theorem bin_sim {op : BinOp} {t yt : TypeId} {x y : Operand} {x' y' : O} {ao : AO} (hx : opd P n x = some x') (hy : opd P n y = some y') (hc : compBin P op t x y x' y' = some ao) (ho : o.op = .binOp op t x y yt) : OpSim P n o ao := by
  unfold compBin at hc
  split at hc
  · cases hc; exact sim_shl hx hy ho
  · cases hc; exact sim_shr hx hy ho
  · simp only [Option.map_eq_some_iff] at hc
    obtain ⟨f, hf, rfl⟩ := hc
    exact sim_ar hx hy hf ho
  · cases hc; exact sim_sadd hx hy ho
  · cases hc; exact sim_seq hx hy ho
  · cases hc; exact sim_sne hx hy ho
  · split at hc
    · rename_i hk; cases hc; exact sim_q hk hx hy ho
    · cases hc
  · split at hc
    · rename_i hk; cases hc; exact sim_qn hk hx hy ho
    · cases hc
  · rename_i hu; cases hc; exact sim_ieq hu hx hy ho
  · rename_i hu; cases hc; exact sim_ine hu hx hy ho
  · rename_i hu; cases hc; exact sim_geq hu hx hy ho
  · rename_i hu; cases hc; exact sim_gne hu hx hy ho
  · rename_i hu
    split at hc
    · cases hc
    · rename_i hs
      simp only [Option.map_eq_some_iff] at hc
      obtain ⟨ks, hk, rfl⟩ := hc
      exact sim_aeq hu (by simpa using hs) hk hx hy ho
  · rename_i hu
    split at hc
    · cases hc
    · rename_i hs
      simp only [Option.map_eq_some_iff] at hc
      obtain ⟨ks, hk, rfl⟩ := hc
      exact sim_ane hu (by simpa using hs) hk hx hy ho
  · cases hc

theorem cvt_sim {s d : TypeId} {x : Operand} {x' : O} {ao : AO} (hx : opd P n x = some x') (hc : compCvt P s d x' = some ao) (ho : o.op = .convert s d x) : OpSim P n o ao := by
  unfold compCvt at hc
  split at hc
  · rename_i hs hd; cases hc; exact sim_cvt hs hd hx ho
  · rename_i hs hd
    split at hc
    · rename_i hcond
      cases hc
      exact sim_s2b hs hd (isU8_eq hcond.1) hcond.2 hx ho
    · cases hc
  · rename_i hs hd
    split at hc
    · rename_i hm; cases hc; exact sim_unp1 hs hd hm hx ho
    · cases hc
  · rename_i hs hd
    split at hc
    · rename_i hm; cases hc; exact sim_unp2 hs hd hm hx ho
    · cases hc
  · cases hc

theorem opds2 {x y : Operand} {as : List O} (h : opds P n [x, y] = some as) : ∃ x' y', as = [x', y'] ∧ opd P n x = some x' ∧ opd P n y = some y' := by
  simp only [opds, Option.bind_eq_bind, Option.bind_eq_some_iff, Option.some.injEq] at h
  obtain ⟨x', hx, _, ⟨y', hy, _, rfl, rfl⟩, rfl⟩ := h
  exact ⟨x', y', rfl, hx, hy⟩
theorem opds1 {x : Operand} {as : List O} (h : opds P n [x] = some as) : ∃ x', as = [x'] ∧ opd P n x = some x' := by
  simp only [opds, Option.bind_eq_bind, Option.bind_eq_some_iff, Option.some.injEq] at h
  obtain ⟨x', hx, _, rfl, rfl⟩ := h
  exact ⟨x', rfl, hx⟩
theorem opds_length : ∀ {xs : List Operand} {as : List O}, opds P n xs = some as → as.length = xs.length
  | [], _, h => by cases h; rfl
  | x :: xs, as, h => by
    simp only [opds, Option.bind_eq_bind, Option.bind_eq_some_iff, Option.some.injEq] at h
    obtain ⟨x', _, l, hl, rfl⟩ := h
    simp [opds_length hl]

theorem builtin_sim {b : Builtin} {ts : Array TypeId} {as : Array Operand} {as' : List O} {ao : AO} (has : opds P n as.toList = some as') (hc : compBuiltin P b ts.toList as' = some ao)
    (ho : o.op = .call { callee := .builtin b, args := as, argTypes := ts }) : OpSim P n o ao := by
  obtain ⟨as⟩ := as
  obtain ⟨ts⟩ := ts
  have hl := opds_length has
  simp only at has hc hl
  unfold compBuiltin at hc
  split at hc
  · -- append
    rename_i s x a1 b1
    match as, hl with
    | [p, q], _ =>
      obtain ⟨p', q', e, hp, hq⟩ := opds2 has
      cases e
      simp only [Option.bind_eq_bind] at hc
      split at hc
      · rename_i el hu
        simp only [Option.bind_eq_some_iff] at hc
        obtain ⟨m, hm, y, hy, z, hz, hc⟩ := hc
        split at hc
        · cases hc
        · rename_i hcond
          simp only [not_or] at hcond
          have hzl : z.length = m := by simpa using hcond.2
          split at hc
          · rename_i hd; cases hc; exact sim_app hu hm hy hz hcond.1 hzl hd hp hq ho
          · rename_i hd
            split at hc
            · rename_i h1; subst h1; cases hc; exact sim_apps hu hm hy hz hzl hd hp hq ho
            · cases hc
          · rename_i hd; cases hc; exact sim_appz hu hm hy hz hcond.1 hzl hd hp hq ho
          · cases hc
      · cases hc
  · match as, hl with
    | [p], _ =>
      obtain ⟨p', e, hp⟩ := opds1 has
      cases e
      split at hc
      · rename_i hu; cases hc; exact sim_lenS hu hp ho
      · rename_i hu; cases hc; exact sim_lenL hu hp ho
      · cases hc
  · match as, hl with
    | [p], _ =>
      obtain ⟨p', e, hp⟩ := opds1 has
      cases e
      split at hc
      · rename_i hu; cases hc; exact sim_cap hu hp ho
      · cases hc
  · match as, hl with
    | [p, q], _ =>
      obtain ⟨p', q', e, hp, hq⟩ := opds2 has
      cases e
      simp only [Option.bind_eq_bind] at hc
      split at hc
      · rename_i el hu
        simp only [Option.bind_eq_some_iff] at hc
        obtain ⟨m, hm, hc⟩ := hc
        split at hc
        · cases hc; exact sim_copy hu hm (fun h => by cases h) hp hq ho
        · split at hc
          · rename_i h1; cases hc; exact sim_copy hu hm (fun _ => h1) hp hq ho
          · cases hc
        · cases hc
      · cases hc
  · match as, hl with
    | [p], _ =>
      obtain ⟨p', e, hp⟩ := opds1 has
      cases e
      simp only [Option.bind_eq_bind] at hc
      split at hc
      · rename_i el hu
        simp only [Option.bind_eq_some_iff] at hc
        obtain ⟨z, hz, hc⟩ := hc
        split at hc
        · cases hc
        · rename_i h0
          simp only [Option.bind_eq_some_iff, Option.some.injEq] at hc
          obtain ⟨m, hm, rfl⟩ := hc
          exact sim_clr hu hz h0 hp ho
      · cases hc
  · match as, hl with
    | [p, q], _ =>
      obtain ⟨p', q', e, hp, hq⟩ := opds2 has
      cases e
      cases hc; exact sim_max hp hq ho
  · match as, hl with
    | [p, q], _ =>
      obtain ⟨p', q', e, hp, hq⟩ := opds2 has
      cases e
      cases hc; exact sim_min hp hq ho
  · match as, hl with
    | [p], _ =>
      obtain ⟨p', e, hp⟩ := opds1 has
      cases e
      cases hc; exact sim_usd hp ho rfl
  · match as, hl with
    | [p, q], _ =>
      obtain ⟨p', q', e, hp, hq⟩ := opds2 has
      cases e
      split at hc
      · rename_i el hu
        split at hc
        · rename_i h1; cases hc; exact sim_ust (by rfl) hu h1 hp hq ho
        · cases hc
      · cases hc
  · cases hc

theorem op_sim {ao : AO} (hc : compOp? P n o = some ao) : OpSim P n o ao := by
  cases ho : o.op
  all_goals simp only [compOp?, ho, Option.bind_eq_bind, Option.bind_eq_some_iff, Option.some.injEq] at hc
  case move x => obtain ⟨y, hx, rfl⟩ := hc; exact sim_mv hx (.inl ho)
  case assign x => obtain ⟨y, hx, rfl⟩ := hc; exact sim_mv hx (.inr ho)
  case pick c x y => obtain ⟨c', h1, x', h2, y', h3, rfl⟩ := hc; exact sim_pick h1 h2 h3 ho
  case alloc t => obtain ⟨z, hz, rfl⟩ := hc; exact (made_alloc hz ho).sim fun _ _ _ => rfl
  case box t x => obtain ⟨m, hm, b, hb, y, hx, rfl⟩ := hc; exact (made_box hx ho).sim fun _ _ _ => rfl
  case build t ps =>
    obtain ⟨z, hz, hc⟩ := hc
    split at hc
    · rename_i hu
      split at hc
      · rename_i hall
        simp only [Option.bind_eq_some_iff, Option.some.injEq] at hc
        obtain ⟨qs, hq, rfl⟩ := hc
        exact sim_buildS hz hu hall hq ho
      · cases hc
    · rename_i hu
      simp only [Option.bind_eq_some_iff, Option.some.injEq] at hc
      obtain ⟨s, hs, qs, hq, rfl⟩ := hc
      exact sim_buildA hz hu hs hq ho
    · cases hc
  case buildSlice t l ps =>
    split at hc
    · rename_i el hu
      simp only [Option.bind_eq_some_iff] at hc
      obtain ⟨m, hm, z, hz, hc⟩ := hc
      split at hc
      · cases hc
      · rename_i hcond
        simp only [not_or] at hcond
        simp only [Option.bind_eq_some_iff, Option.some.injEq] at hc
        obtain ⟨qs, hq, rfl⟩ := hc
        exact (made_bsl hu hm hz (by omega) (by simpa using hcond.2) hq ho).sim fun _ _ _ => rfl
    · cases hc
  case load t x => obtain ⟨b, hb, m, hm, y, hx, rfl⟩ := hc; exact sim_ld hb hm hx ho
  case store t x y =>
    obtain ⟨b, hb, m, hm, hc⟩ := hc
    split at hc
    · cases hc
    · rename_i hcond
      simp only [Option.bind_eq_some_iff, Option.some.injEq] at hc
      obtain ⟨x', hx, y', hy, rfl⟩ := hc
      exact sim_st hb hm (fun hbf => Classical.byContradiction fun h => hcond ⟨hbf, h⟩) hx hy ho
  case nilCheck x => obtain ⟨y, hx, rfl⟩ := hc; exact sim_nil hx ho
  case binOp op t x y yt => obtain ⟨x', hx, y', hy, hc⟩ := hc; exact bin_sim hx hy hc ho
  case unOp op t x =>
    cases op <;> simp only [reduceCtorEq] at hc
    simp only [Option.bind_eq_some_iff, Option.some.injEq] at hc
    obtain ⟨y, hx, rfl⟩ := hc
    exact sim_not hx ho
  case convert s d x => obtain ⟨x', hx, hc⟩ := hc; exact cvt_sim hx hc ho
  case makeInterface t x =>
    split at hc
    · cases hc
    · rename_i hnot hu
      simp only [Option.bind_eq_some_iff, Option.some.injEq] at hc
      obtain ⟨y, hx, rfl⟩ := hc
      exact sim_mkif hu (fun ms e => hnot ms e) hx ho
    · cases hc
  case makeFunc fn a b =>
    cases fn <;> simp only [reduceCtorEq] at hc
    rename_i f
    split at hc
    · rename_i hf
      simp only [Option.bind_eq_some_iff, Option.some.injEq] at hc
      obtain ⟨a', ha, b', hb, rfl⟩ := hc
      exact sim_mkfn hf ha hb ho
    · cases hc
  case makeMap t r =>
    cases r <;> simp only [reduceCtorEq, Option.some.injEq] at hc
    subst hc
    exact (made_map ho).sim fun _ _ _ => rfl
  case makeSlice t l c =>
    split at hc
    · rename_i el hu
      simp only [Option.bind_eq_some_iff] at hc
      obtain ⟨m, hm, z, hz, hc⟩ := hc
      split at hc
      · cases hc
      · rename_i hzl
        simp only [Option.bind_eq_some_iff, Option.some.injEq] at hc
        obtain ⟨y, hy, l', hl, c', hc', rfl⟩ := hc
        exact sim_mksl hu hm hz (by simpa using hzl) hy hl hc' ho
    · cases hc
  case slice t x lo hi mx =>
    obtain ⟨x', hx, lo', hlo, hi', hhi, mx', hmx, hc⟩ := hc
    split at hc
    · rename_i hu
      split at hc
      · cases hc
      · rename_i hmn
        cases hc
        cases mx with
        | none => exact sim_sls hu hx hlo hhi ho
        | some z => exact absurd rfl hmn
    · rename_i el hu
      simp only [Option.bind_eq_some_iff] at hc
      obtain ⟨m, hm, hc⟩ := hc
      split at hc
      · cases hc
      · rename_i hcond
        simp only [not_or] at hcond
        cases hc
        exact sim_sll hu hm hcond.1 hx hlo hhi hmx ho (by revert hcond; cases mx <;> cases hi <;> simp)
    · cases hc
  case fieldAddr s x i =>
    split at hc
    · rename_i fs hu
      simp only [Option.bind_eq_some_iff] at hc
      obtain ⟨f, hf, hc⟩ := hc
      split at hc
      · rename_i hz
        simp only [Option.bind_eq_some_iff, Option.some.injEq] at hc
        obtain ⟨y, hx, rfl⟩ := hc
        exact sim_fa hu hf hz hx ho
      · cases hc
    · cases hc
  case field t x i =>
    split at hc
    · rename_i fs hu
      simp only [Option.bind_eq_some_iff, Option.some.injEq] at hc
      obtain ⟨f, hf, b, hb, m, hm, y, hx, rfl⟩ := hc
      exact sim_fld hu hf hb hm hx ho
    · cases hc
  case indexAddr t x i =>
    split at hc
    · rename_i hu
      simp only [Option.bind_eq_some_iff, Option.some.injEq] at hc
      obtain ⟨m, hm, x', hx, i', hi, rfl⟩ := hc
      exact sim_iap hu hm hx hi ho
    · rename_i hu
      simp only [Option.bind_eq_some_iff, Option.some.injEq] at hc
      obtain ⟨m, hm, x', hx, i', hi, rfl⟩ := hc
      exact sim_ias hu hm hx hi ho
    · cases hc
  case index t x i =>
    split at hc
    · rename_i hu
      simp only [Option.bind_eq_some_iff, Option.some.injEq] at hc
      obtain ⟨x', hx, i', hi, rfl⟩ := hc
      exact sim_ixs hu hx hi ho
    · rename_i hu
      simp only [Option.bind_eq_some_iff, Option.some.injEq] at hc
      obtain ⟨b, hb, m, hm, x', hx, i', hi, rfl⟩ := hc
      exact sim_ixa hu hb hm hx hi ho
    · cases hc
  case lookup t x i c =>
    cases c <;> simp only [reduceCtorEq] at hc
    split at hc
    · rename_i k et hu
      split at hc
      · rename_i hk
        simp only [Option.bind_eq_some_iff, Option.some.injEq] at hc
        obtain ⟨x', hx, i', hi, rfl⟩ := hc
        exact sim_lk hu (isInt_eq hk).choose_spec hx hi ho
      · cases hc
    · cases hc
  case mapUpdate t m k y =>
    split at hc
    · rename_i q et hu
      split at hc
      · rename_i hk
        simp only [Option.bind_eq_some_iff, Option.some.injEq] at hc
        obtain ⟨x', hx, i', hi, y', hy, rfl⟩ := hc
        exact sim_mup hu (isInt_eq hk).choose_spec hx hi hy ho
      · cases hc
    · cases hc
  case range t x =>
    split at hc
    · rename_i hk
      simp only [Option.bind_eq_some_iff, Option.some.injEq] at hc
      obtain ⟨x', hx, rfl⟩ := hc
      exact sim_rng (isStr_eq hk) hx ho
    · cases hc
  case next it b =>
    cases b <;> simp only [reduceCtorEq] at hc
    simp only [Option.bind_eq_some_iff, Option.some.injEq] at hc
    obtain ⟨x', hx, rfl⟩ := hc
    exact sim_nxt hx ho
  case typeAssert x xt t ok =>
    split at hc
    · cases hc
    · cases hc
    · rename_i d hnot hu
      cases ok with
      | false =>
        simp only [Option.bind_eq_some_iff, Option.some.injEq] at hc
        obtain ⟨x', hx, rfl⟩ := hc
        exact sim_tas0 hu (fun ms e => hnot ms e) hx ho
      | true =>
        simp only [Option.bind_eq_some_iff, Option.some.injEq] at hc
        obtain ⟨i, hi, z, hz, x', hx, rfl⟩ := hc
        exact sim_tas1 hu (fun ms e => hnot ms e) hi hz hx ho
  case extract t i => obtain ⟨x', hx, rfl⟩ := hc; exact sim_ext hx ho
  case call c =>
    obtain ⟨as, has, hc⟩ := hc
    obtain ⟨callee, args, ts⟩ := c
    simp only at hc has
    cases callee with
    | value x =>
      cases x with
      | func f =>
        simp only at hc
        split at hc
        · rename_i hf; cases hc; exact sim_call hf has ho
        · cases hc
      | tmp t =>
        simp only [Option.bind_eq_some_iff, Option.some.injEq] at hc
        obtain ⟨x', hx, rfl⟩ := hc
        exact sim_callv hx has ho
      | const c =>
        simp only [Option.bind_eq_some_iff, Option.some.injEq] at hc
        obtain ⟨x', hx, rfl⟩ := hc
        exact sim_callv hx has ho
      | global g =>
        simp only [Option.bind_eq_some_iff, Option.some.injEq] at hc
        obtain ⟨x', hx, rfl⟩ := hc
        exact sim_callv hx has ho
    | invoke x m =>
      simp only [Option.bind_eq_some_iff, Option.some.injEq] at hc
      obtain ⟨x', hx, rfl⟩ := hc
      exact sim_calli hx has ho
    | builtin b => exact builtin_sim has hc ho
  all_goals cases hc

theorem op_sim' : OpSim P n o (compOp P n o) := by
  unfold compOp
  cases hc : compOp? P n o with
  | none => exact sim_bad
  | some ao => exact op_sim hc
end
end Go.Proofs.YtoipldpekiikjaaGreatDoor.Clo
