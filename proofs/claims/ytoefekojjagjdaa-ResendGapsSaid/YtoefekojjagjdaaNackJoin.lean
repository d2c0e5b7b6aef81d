/-
  The law NackJoin as a walk: two rows of pairs ask for what both ask for; each pair asks for one number and one more for each bit. Of the arguments: they fit their types and are not too long.
-/
import Derived.Test.YtoefekojjagjdaaNackShift
namespace Go.Proofs.Ytoefekojjagjdaa
open Go.RowKit Go.Sort Go.BigFrame
set_option linter.unusedVariables false
attribute [local go_sem ↓] Go.wp_at_zero Go.wp_at_succ
section
variable {P : Program} (w : World)
/-- append behind a guard that says yes. -/
theorem wpList_append_guard {ops : Array Oper} {rest : List Oper} {o : Oper} {a : Act} {Q : Exit → Act → World → Prop} (hgd : Region.wanted o (yielded ops a.tmps) = true) (s x : Operand) (t : TypeId)
    (ho : o.op = .call { callee := .builtin .append, args := #[s, x], argTypes := #[t, t] })
    (base : Nat) (e : TypeId) (i : TypeInfo) (z : Value) (size bytes : Nat) (ht : P.underlying t = some (.slice e)) (hi : P.info? e = some i) (hz : i.zero = some z)
    (hsize : i.size = size) (hby : i.bytes = bytes) (hzs : z.cells.size = size) (hsz : 0 < size)
    (v y : Value) (n m : Nat) (xs news : List Value) (hs : a.eval s = v) (hx : a.eval x = y) (hown : Line w base size v n xs) (hsrc : Src w size y m news)
    (h63 : n + m ≤ maxLen) (hbytes : (n + m) * bytes ≤ 140737488355328) (hbase : base ≤ w.heap.size) (H : Nat) (hH : w.heap.size = H)
    (h : ∀ v' w', Line w' base size v' (n + m) (xs ++ news) → w.grownBy w' v.ownBlock → (v'.ownBlock = v.ownBlock ∨ v'.ownBlock = some H) → wpList P ops Q rest (a.put o.dst v') w') : wpList P ops Q (o :: rest) a w :=
  wpList_step fun K hK => by
    simp only [hgd, if_true]
    exact wp_append_line w s x t ho base e i z size bytes ht hi hz hsize hby hzs hsz v y n m xs news hs hx hown hsrc h63 hbytes hbase H hH fun v' w' h2 h3 h4 => hK _ _ (h v' w' h2 h3 h4)
end
theorem expand_join (a b : List (Int × Int)) : expand (a ++ b) = expand a ++ expand b := by simp [expand]
theorem prs_join (a b : List (Int × Int)) : prs (a ++ b) = prs a ++ prs b := by simp [prs]
theorem nums_join (a b : List Int) : nums (a ++ b) = nums a ++ nums b := by simp [nums]
theorem bit_low (X : Int) (h0 : 0 ≤ X) (h1 : X ≤ 65535) : bits BinOp.and IntKind.u16 X 1 = X % 2 := by
  have := bits_mask .u16 16 (by decide) (fun m a b => by rw [wrap_u16]; omega) 1 (by decide) X h0 (by omega)
  simpa using this
/-- How many numbers the first bits ask for. -/
theorem part_more (p b : Int) (i : Nat) (X : Int) (hX : X = b / 2 ^ i) : ((part p b (i + 1)).length : Int) = (part p b i).length + X % 2 := by
  rw [part_succ]
  subst hX
  by_cases h : b / 2 ^ i % 2 = 1
  · have hb : bitAt b i = true := by unfold bitAt; simpa using h
    rw [hb, if_pos rfl, h]; simp
  · have hb : bitAt b i = false := by unfold bitAt; simpa using h
    rw [hb, if_neg (by simp)]; omega
theorem div_more (b : Int) (i : Nat) : b / 2 ^ i / 2 = b / 2 ^ (i + 1) := by
  rw [Int.pow_succ, Int.ediv_ediv_of_nonneg (by have := Int.pow_pos (n := 2) (m := i) (by decide); omega)]
theorem part_all (p b : Int) (i : Nat) (h0 : 0 ≤ b) (h1 : b ≤ 65535) (h : b / 2 ^ i = 0) : part p b i = part p b 16 := by
  have hp : (0 : Int) < 2 ^ i := Int.pow_pos (by decide)
  have hlt : b < 2 ^ i := by
    have := Int.emod_lt_of_pos b hp
    have h2 := Int.mul_ediv_add_emod b (2 ^ i)
    rw [h, Int.mul_zero, Int.zero_add] at h2
    omega
  have h16 : (2 : Int) ^ 16 = 65536 := by decide
  by_cases hi : i ≤ 16
  · have := part_ge (p := p) h0 hlt (16 - i)
    rw [show i + (16 - i) = 16 by omega] at this
    exact this.symm
  · have := part_ge (p := p) (e := 16) h0 (by omega) (i - 16)
    rw [show 16 + (i - 16) = i by omega] at this
    exact this
theorem Has.src' {w : World} {size n : Nat} {v : Value} {xs : List Value} (h : Has w size v n xs) (h1 : ∀ u ∈ xs, u.oneCell' = true) : Src w size v n xs := by
  rcases Nat.eq_zero_or_pos n with rfl | hn
  · obtain ⟨h0, ao, cap, rfl, h2, h3, h4, h5⟩ := h
    have hx : xs = [] := List.eq_nil_of_length_eq_zero (by simpa using h0)
    subst hx
    cases ao with
    | none => rw [h4 rfl]; exact ⟨h0, h1, Or.inl ⟨rfl, rfl⟩⟩
    | some a => exact ⟨h0, h1, Or.inr ⟨a, cap, rfl, fun j u hu => by simp at hu⟩⟩
  · exact h.src hn h1
set_option maxRecDepth 100000 in
set_option maxHeartbeats 4000000 in
theorem nackJoin_ok (v0 v1 : Value) (w : World) (h0 : Arg Try.prog w 39 v0) (h1 : Arg Try.prog w 39 v1) (s0 : Small v0) (s1 : Small v1) : Calls Try.prog 12 #[v0, v1] w (Gives (.bool true) w) := by
  obtain ⟨l, hf, hh⟩ := arg_prs h0
  obtain ⟨r, hfr, hhr⟩ := arg_prs h1
  obtain ⟨ao, cap, hv, hcap, hcap'⟩ := hh.shape
  obtain ⟨ar, car, hvr, hcar, hcar'⟩ := hhr.shape
  obtain ⟨n, hn⟩ : ∃ n, n = l.length := ⟨_, rfl⟩
  obtain ⟨m, hm⟩ : ∃ m, m = r.length := ⟨_, rfl⟩
  have hn' : n ≤ 1048576 := by rw [hn]; exact s0 ao _ cap hv
  have hm' : m ≤ 1048576 := by rw [hm]; exact s1 ar _ car hvr
  have kx := fun (w' : World) (k : Below w.heap.size w w') => expandR (hh.keep k) rfl hf (by omega)
  have kr := fun (w' : World) (k : Below w.heap.size w w') => expandR (hhr.keep k) rfl hfr (by omega)
  have ka := fun (w' : World) (v : Value) (h : Has w' 2 v (n + m) (prs (l ++ r))) => expandR h (by rw [hn, hm]; simp) (fun x hx => (List.mem_append.1 hx).elim (hf x) (hfr x)) (by omega)
  rw [expand_join] at ka
  have hel : (expand l).length ≤ 17 * n := by rw [hn]; exact expand_len l
  have her : (expand r).length ≤ 17 * m := by rw [hm]; exact expand_len r
  obtain ⟨E, hE⟩ : ∃ E, E = expand l := ⟨_, rfl⟩
  obtain ⟨R, hR⟩ : ∃ R, R = expand r := ⟨_, rfl⟩
  rw [← hE] at kx ka hel
  rw [← hR] at kr ka her
  rw [← hn] at hh hv hcap
  rw [← hm] at hhr hvr hcar
  have ks := fun (w' : World) (v v' : Value) (h : Has w' 1 v (E ++ R).length (nums (E ++ R))) (h' : Has w' 1 v' (E ++ R).length (nums (E ++ R))) => sameN h h' rfl (by simp; omega)
  have KX := Lib.hid kx
  have KR := Lib.hid kr
  have KA := Lib.hid ka
  have KS := Lib.hid ks
  have HH := Lib.hid hh
  have HR := Lib.hid hhr
  have HN := Lib.hid hn
  have HF := Lib.hid hf
  have HE := Lib.hid hE
  subst hv hvr
  unfold maxLen at hcap' hcar'
  clear kx kr ka ks h0 h1 s0 s1 hE hR hf hfr hn hm hh hhr
  obtain ⟨i0, hi, hz0, hz1, hz2⟩ := info_parts info43
  have HI := And.intro (Lib.hid hi) (And.intro (Lib.hid hz0) (And.intro (Lib.hid hz1) (Lib.hid hz2)))
  obtain ⟨j0, hj, hy0, hy1, hy2⟩ := info_parts info22
  have HJ := And.intro (Lib.hid hj) (And.intro (Lib.hid hy0) (And.intro (Lib.hid hy1) (Lib.hid hy2)))
  clear hi hz0 hz1 hz2 hj hy0 hy1 hy2
  go_enter Try.func12, Try.ntmps12
  go_wp2_with (first | (go_at_call 27; refine (shown8 _).mono ?_; rintro e w1 ⟨rfl, hb1⟩; have ha1 : After _ w1 := ⟨hb1⟩; obtain ⟨hc1, hf1⟩ := after hb1; have hz1 := hb1.size; try simp at hz1))
  obtain ⟨W, hW⟩ : ∃ W : World, W = w1 := ⟨_, rfl⟩
  subst hW
  have hWb : RowKit.Below w.heap.size w W := (by repeat (first | with_reducible exact Below.refl _ _ | (with_reducible refine Below.alloc ?_ ?_ _; rotate_left; focus ((try simp) <;> omega)) | (with_reducible refine Below.setCell ?_ ?_ _; rotate_left; focus ((try simp) <;> omega)) | (with_reducible refine below_grow ?_ ?_; rotate_left; focus ((try simp) <;> omega)) | (with_reducible refine below_putB ?_ ?_; rotate_left; focus ((try simp) <;> omega)) | with_reducible refine Below.drew ?_ | with_reducible refine below_drewN ?_ | with_reducible assumption | (with_reducible refine below_step (by assumption) ?_ ?_; rotate_left; focus ((try simp) <;> omega))))
  have hWs := hWb.size
  clear hc1 hf1 ha1 hb1 hz1
  go_loopw [5, 15] (fun s5 s15 wr => ∃ k : Nat, k ≤ n ∧ s15 = .int .i64 k ∧ s5 = .int .i64 (expand (l.take k)).length ∧ Below W.heap.size W wr) (fun _ i _ => n - (intOf i).toNat)
  case atStart => exact ⟨0, by omega, rfl, rfl, Below.refl _ _⟩
  case round =>
    obtain ⟨k, hk, rfl, rfl, hbel⟩ := hrel
    have hbs := hbel.size
    obtain ⟨wo, hwo⟩ : ∃ wo : World, wo = wr := ⟨_, rfl⟩
    subst hwo
    by_cases hlt : k < n
    · obtain ⟨g, off, rfl, hg, hcell⟩ := HH.out.cell (by omega)
      have hkl : k < l.length := by rw [← HN.out]; exact hlt
      obtain ⟨p, b, hpb⟩ : ∃ p b, (p, b) = l[k] := ⟨_, _, rfl⟩
      have hget := prs_get l k hkl
      rw [← hpb] at hget
      have c0 : wo.cell? ⟨g, off + k * 2, none⟩ = some (.int .u16 p) := by rw [hbel.cell (by simp; omega), hWb.cell (by simpa using hg)]; exact hcell _ _ hget.1
      have c1 : wo.cell? ⟨g, off + k * 2 + 1, none⟩ = some (.int .u16 b) := by rw [hbel.cell (by simp; omega), hWb.cell (by simpa using hg)]; exact hcell _ _ hget.2
      obtain ⟨p0, p1, b0, b1⟩ := HF.out (p, b) (by rw [hpb]; exact List.getElem_mem _)
      have hexp := expand_take l k hkl
      rw [← hpb] at hexp
      have HX := Lib.hid hexp
      have og : Old g wo := ⟨by omega⟩
      have i3 : (k : Int) < (n : Int) := by omega
      have i4 : (0 : Int) ≤ (k : Int) := by omega
      have hel2 : (expand (l.take k)).length ≤ 17 * n := by have := expand_len (l.take k); have := List.length_take_le k l; omega
      obtain ⟨z, hz⟩ : ∃ z, z = (expand (l.take k)).length := ⟨_, rfl⟩
      rw [← hz] at hel2 ⊢
      have HZ := Lib.hid hz
      clear hget hcell hexp hpb hz
      dsimp only at p0 p1 b0 b1
      go_wp2_with fail
      go_loopw [5, 8] (fun s5 s8 wi => ∃ (i : Nat) (X : Int), X = b / 2 ^ i ∧ 0 ≤ X ∧ X ≤ 65535 ∧ (part p b i).length ≤ 17 ∧ s8 = .int .u16 X ∧ s5 = .int .i64 (z + (part p b i).length - 1 + 1) ∧ wi = wo.alloc (.cells #[.int .u16 p, .int .u16 b] 43)) (fun _ x _ => (intOf x).toNat)
      case atStart => exact ⟨0, b, by simp, b0, b1, by simp [part], rfl, by simp [part], rfl⟩
      case round =>
        obtain ⟨i, X, hX, hX0, hX1, hpl, rfl, rfl, rfl⟩ := hrel
        by_cases hpos : 0 < X
        · have hmo := part_more p b i X hX
          have hl := bit_low X hX0 hX1
          have hdv := div_more b i
          rw [← hX] at hdv
          have hi16 : (part p b (i + 1)).length ≤ 17 := by
            by_cases hi : i + 1 ≤ 16
            · have := part_len p b (i + 1); omega
            · exfalso
              have hp : (2 : Int) ^ 16 ≤ 2 ^ i := pow2_le (by omega)
              have h16 : (2 : Int) ^ 16 = 65536 := by decide
              rw [Int.ediv_eq_zero_of_lt b0 (by omega)] at hX
              omega
          have HX2 := Lib.hid hX
          have HMO := Lib.hid hmo
          have HDV := Lib.hid hdv
          clear hX hmo hdv
          go_wp2_with fail
          go_roundw
          case rel => exact ⟨i + 1, X / 2, HDV.out, by omega, by omega, hi16, by first | rfl | (congr 1; omega), by rw [HMO.out]; first | rfl | (congr 1; omega), by first | trivial | rfl⟩
          case measure => simp [intOf]; omega
        · obtain rfl : X = 0 := by omega
          have hpa := part_all p b i b0 b1 hX.symm
          have HPA := Lib.hid hpa
          clear hX hpa
          go_wp2_with fail
          go_roundw
          case rel =>
            refine ⟨k + 1, by omega, by go_num, ?_, (by repeat (first | with_reducible exact Below.refl _ _ | (with_reducible refine Below.alloc ?_ ?_ _; rotate_left; focus ((try simp) <;> omega)) | (with_reducible refine Below.setCell ?_ ?_ _; rotate_left; focus ((try simp) <;> omega)) | (with_reducible refine below_grow ?_ ?_; rotate_left; focus ((try simp) <;> omega)) | (with_reducible refine below_putB ?_ ?_; rotate_left; focus ((try simp) <;> omega)) | with_reducible refine Below.drew ?_ | with_reducible refine below_drewN ?_ | with_reducible assumption | (with_reducible refine below_step (by assumption) ?_ ?_; rotate_left; focus ((try simp) <;> omega))))⟩
            rw [HX.out, List.length_append, ← HZ.out, ← HPA.out]
            congr 1
            omega
          case measure => simp [intOf]; omega
    · obtain rfl : k = n := by omega
      have ht : l.take k = l := List.take_of_length_le (by rw [← HN.out]; exact Nat.le_refl _)
      rw [ht, ← HE.out]
      have B0 : RowKit.Below w.heap.size w wo := hWb.trans (hbel.mono hWs)
      have B0s := B0.size
      clear ht
      go_wp2_with (first | (at_builtin; refine wpList_append_line _ rfl _ _ 39 rfl w.heap.size 43 i0 _ 2 4 Try.underlying39 HI.1.out HI.2.1.out HI.2.2.1.out HI.2.2.2.out rfl (by decide) (.slice none 0 0) _ (0) (k) ([]) (prs l) rfl rfl (Line.nil _ _ _) ((HH.out.keep (by repeat (first | with_reducible exact Below.refl _ _ | (with_reducible refine Below.alloc ?_ ?_ _; rotate_left; focus ((try simp) <;> omega)) | (with_reducible refine Below.setCell ?_ ?_ _; rotate_left; focus ((try simp) <;> omega)) | (with_reducible refine below_grow ?_ ?_; rotate_left; focus ((try simp) <;> omega)) | (with_reducible refine below_putB ?_ ?_; rotate_left; focus ((try simp) <;> omega)) | with_reducible refine Below.drew ?_ | with_reducible refine below_drewN ?_ | with_reducible assumption | (with_reducible refine below_step (by assumption) ?_ ?_; rotate_left; focus ((try simp) <;> omega))))).src' (prs_one _)) (by unfold maxLen; omega) (by omega) (by first | omega | (simp; omega)) _ rfl ?_; intro v2 w2 hown2 hgrow2 hat2; have B2 : RowKit.Below w.heap.size w w2 := RowKit.Below.grown (w := wo) B0 hgrow2 (by omega) (fun q hq => by simp [Value.ownBlock] at hq); have B2s := B2.size) | (at_builtin; refine wpList_append_line _ rfl _ _ 39 rfl w.heap.size 43 i0 _ 2 4 Try.underlying39 HI.1.out HI.2.1.out HI.2.2.1.out HI.2.2.2.out rfl (by decide) (v2) _ (0 + k) (m) ([] ++ prs l) (prs r) rfl rfl (hown2) ((HR.out.keep B2).src' (prs_one _)) (by unfold maxLen; omega) (by omega) (by first | omega | (simp; omega)) _ rfl ?_; intro v3 w3 hown3 hgrow3 hat3; have B3 : RowKit.Below w.heap.size w w3 := RowKit.Below.grown (w := w2) B2 hgrow3 (by omega) (fun q hq => (hown2.lt hq).1); have B3s := B3.size; have HO3 := Lib.hid hown3; clear hown3 hgrow3 hat3 hown2 hgrow2 hat2))
      refine (KX.out _ B3).mono ?_; rintro e w4 ⟨v4, rfl, hL4, hb4⟩
      have X4 := Lib.hid (Has.of_line hL4)
      obtain ⟨a4, c4, rfl, _, hm4⟩ := X4.out.shape
      have B4 : RowKit.Below w.heap.size w w4 := B3.trans (hb4.mono B3s)
      have B4s := B4.size
      have hA : Has w4 2 v3 (k + m) (prs (l ++ r)) := by
        have h := (Has.of_line HO3.out).keep hb4
        rw [List.nil_append, ← prs_join, Nat.zero_add] at h
        exact h
      have HA := Lib.hid hA
      unfold maxLen at hm4
      clear hL4 hA hb4
      go_wp2_with fail
      refine (KA.out _ _ HA.out).mono ?_; rintro e w5 ⟨v5, rfl, hL5, hb5⟩
      have X5 := Lib.hid hL5
      have B5 : RowKit.Below w.heap.size w w5 := B4.trans (hb5.mono B4s)
      have B5' := hb5
      have B5s := B5.size
      clear hL5 hb5
      go_wp2_with (at_builtin; refine wpList_append_guard _ (by rfl) _ _ 36 rfl w.heap.size 22 j0 _ 1 2 Try.underlying36 HJ.1.out HJ.2.1.out HJ.2.2.1.out HJ.2.2.2.out rfl (by decide) (.slice none 0 0) _ (0) (E.length) ([]) (nums E) rfl rfl (Line.nil _ _ _) ((X4.out.keep B5').src' (nums_one _)) (by unfold maxLen; omega) (by omega) (by first | omega | (simp; omega)) _ rfl ?_; intro v6 w6 hown6 hgrow6 hat6)
      have L6 := Lib.hid hown6
      have B6 : RowKit.Below w.heap.size w w6 := RowKit.Below.grown (w := w5) B5 hgrow6 (by omega) (fun q hq => by simp [Value.ownBlock] at hq)
      have B6' : RowKit.Below w5.heap.size w5 w6 := RowKit.Below.grown (w := w5) (Below.refl _ _) hgrow6 (Nat.le_refl _) (fun q hq => by simp [Value.ownBlock] at hq)
      have B6s := B6.size
      have A6 := Lib.hid hat6
      clear hown6 hgrow6 hat6
      refine (KR.out _ B6).mono ?_; rintro e w7 ⟨v7, rfl, hL7, hb7⟩
      have B7 : RowKit.Below w.heap.size w w7 := B6.trans (hb7.mono B6s)
      have B7s := B7.size
      go_wp2_with (at_builtin; refine wpList_append_guard _ (by rfl) _ _ 36 rfl w.heap.size 22 j0 _ 1 2 Try.underlying36 HJ.1.out HJ.2.1.out HJ.2.2.1.out HJ.2.2.2.out rfl (by decide) (v6) _ (0 + E.length) (R.length) ([] ++ nums E) (nums R) rfl rfl (L6.out.keep hb7) ((Has.of_line hL7).src' (nums_one _)) (by unfold maxLen; omega) (by omega) (by first | omega | (simp; omega)) _ rfl ?_; intro v8 w8 hown8 hgrow8 hat8)
      have hX8 : Has w8 1 v8 (E ++ R).length (nums (E ++ R)) := by
        have h := Has.of_line hown8
        rw [List.nil_append, ← nums_join, Nat.zero_add] at h
        rw [List.length_append]
        exact h
      have B8 : RowKit.Below w.heap.size w w8 := RowKit.Below.grown (w := w7) B7 hgrow8 (by omega) (fun q hq => (L6.out.lt hq).1)
      have hX5 : Has w8 1 v5 (E ++ R).length (nums (E ++ R)) := by
        have h6 := Has.of_line (((X5.out.keep B6').keep hb7).grown hgrow8 (fun q hq e => by
          have hq5 := (X5.out.lt hq).2
          rcases A6.out with e' | e'
          · rw [e'] at e; simp [Value.ownBlock] at e
          · rw [e'] at e; simp only [Option.some.injEq] at e; omega))
        exact h6
      have B8s := B8.size
      have X8 := Lib.hid hX8
      have X5' := Lib.hid hX5
      clear hown8 hgrow8 hat8 hL7 hb7 hX8 hX5
      refine (KS.out _ _ _ X5'.out X8.out).mono ?_; rintro e w9 ⟨rfl, hb9⟩
      go_wp2_with fail
      refine ret_any ⟨_, by simp [results, Try.results12, go_sem, *]; rfl, ?_⟩ rfl
      exact gives_of rfl (below_step hb9 B8 B8s)
end Go.Proofs.Ytoefekojjagjdaa
