/- For every input the law FnStrongStates returns true, and its arguments read afterwards as they read before: the statement's frame round the contract. -/
import Derived.Test.YtlaamecfknkmlaaGreatGsLStrongStates
import Derived.Test.YtlaamecfknkmlaaGreatGsFrame
namespace Go.Proofs.YtlaamecfknkmlaaGreat.fnStrongStates
open Go.ChangeShapes Go.WideShapes Go.ChangeAt Go.RowKit Go.Kt
set_option linter.unusedVariables false


set_option maxRecDepth 100000 in
theorem lifted (os : Os) (started : os.Started) (H : Type) (enc : TypeId × Value → H) :
    ReturnsInHanded {} Tryz.checked os 4 .any (Rows.fnStrongStatesSpec.pre6 enc Tryz.prog Tryz.f4 Rows.fnStrongStatesRow.domain false) (Rows.fnStrongStatesSpec.post enc Tryz.prog Tryz.f4 false true false false) := by
  refine returnsInHanded_of_change (C := Tryz.checked) Tryz.ownK started (by kernel_rfl) Tryz.func4
    (ChangeSpec.witness6 (enc := enc) (C := Tryz.checked) false ⟨#[], #[.slice none 0 0, .slice none 0 0], []⟩ 8 (by kernel_rfl) (by kernel_rfl) (by kernel_rfl) (by kernel_rfl)) ?_
  intro W base args ds gs before hval0 hW hcnd _
  have hval : ∀ (j : Nat) t v, Tryz.f4.params[j]? = some t → args[j]? = some v → Value.okWide Tryz.prog W .any base t v := hval0
  have hW' := hW
  obtain ⟨p, q, hA0, hV, rfl, hfz, hnd⟩ := hW
  have hA : DataW.TrodAll enc Tryz.prog W 0 (fun _ => true) true Tryz.f4.params.toList args.toList ds p := hA0
  rw [Tryz.params4] at hA hval
  obtain ⟨v0, vs0, d0, ds0, p0, q0, hargs, rfl, rfl, h0, r0⟩ := trodAll_cons hA
  obtain ⟨v1, vs1, d1, ds1, p1, q1, rfl, rfl, rfl, h1, r1⟩ := trodAll_cons r0
  obtain ⟨rfl, rfl, rfl⟩ := trodAll_nil r1
  obtain rfl : args = #[v0, v1] := by cases args; simp_all
  obtain ⟨rfl, rfl⟩ := trodVars_none hV
  obtain ⟨a0, len0, cap0, rfl⟩ := okWide_slice Tryz.underlying22 (hval 0 22 v0 rfl rfl)
  have k0 := h0
  have lt0 : ∀ x ∈ p0, x.block < W.heap.size := by obtain ⟨m, hm⟩ := k0; exact DataW.trod_lt m _ _ _ hm
  obtain ⟨l0, rfl, w0, m0, mc0⟩ : ∃ l, len0 = l.length ∧ BytesAt W a0 l ∧ len0 ≤ 9223372036854775807 ∧ len0 ≤ cap0 := by
    obtain ⟨fuel, hf⟩ := h0
    rcases open_ints Tryz.underlying22 Tryz.underlying5 (by kernel_rfl) hf with ⟨hcs, _⟩ | ⟨x, l, c, zs, hcs, _, hl, hm, hz, _, hcell, hwz⟩
    · simp [Value.cells] at hcs
      obtain ⟨rfl, rfl, rfl⟩ := hcs
      exact ⟨[], rfl, bytesAt_none _, by omega, by omega⟩
    · simp [Value.cells] at hcs
      obtain ⟨rfl, rfl, rfl⟩ := hcs
      obtain ⟨l', e1, e2, e3⟩ := bytesAt_of_cells (by simpa using hz) hl hm hcell hwz
      exact ⟨l', e1, e2, e3, hl⟩
  obtain ⟨a1, len1, cap1, rfl⟩ := okWide_slice Tryz.underlying22 (hval 1 22 v1 rfl rfl)
  have k1 := h1
  have lt1 : ∀ x ∈ p1, x.block < W.heap.size := by obtain ⟨m, hm⟩ := k1; exact DataW.trod_lt m _ _ _ hm
  obtain ⟨l1, rfl, w1, m1, mc1⟩ : ∃ l, len1 = l.length ∧ BytesAt W a1 l ∧ len1 ≤ 9223372036854775807 ∧ len1 ≤ cap1 := by
    obtain ⟨fuel, hf⟩ := h1
    rcases open_ints Tryz.underlying22 Tryz.underlying5 (by kernel_rfl) hf with ⟨hcs, _⟩ | ⟨x, l, c, zs, hcs, _, hl, hm, hz, _, hcell, hwz⟩
    · simp [Value.cells] at hcs
      obtain ⟨rfl, rfl, rfl⟩ := hcs
      exact ⟨[], rfl, bytesAt_none _, by omega, by omega⟩
    · simp [Value.cells] at hcs
      obtain ⟨rfl, rfl, rfl⟩ := hcs
      obtain ⟨l', e1, e2, e3⟩ := bytesAt_of_cells (by simpa using hz) hl hm hcell hwz
      exact ⟨l', e1, e2, e3, hl⟩
  clear hA0 hval0
  refine (fnStrongStates_c a0 cap0 l0 a1 cap1 l1 W w0 m0 mc0 w1 m1 mc1).mono fun e W' ⟨he, bel⟩ => ?_
  subst he
  exact ⟨_, rfl, _, _, _, [], _, [], hW', trodAll_mk1 (shut_bool Tryz.underlying4 _), (trodAll_cons_mk (Below.trod Tryz.laidOutB (by kernel_rfl) (of_decide_eq_true (by kernel_rfl)) k0 bel lt0) (trodAll_cons_mk (Below.trod Tryz.laidOutB (by kernel_rfl) (of_decide_eq_true (by kernel_rfl)) k1 bel lt1) trodAll_mk0)), rfl, bel.frame _, fun h => by cases h⟩
theorem k1 : Rows.fnStrongStatesRow.wf (OpenSpec.ofChange Rows.fnStrongStatesSpec) = true := by kernel_rfl
theorem k4 : Tryz.f4.params.all (Tryz.prog.readableRec ·) = true := by kernel_rfl
theorem k5 : namedTie Tryz.prog Rows.fnStrongStatesRow.named Rows.fnStrongStatesSpec.vars = true := by kernel_rfl
theorem k6 : (Rows.fnStrongStatesRow.stops == []) = true := by kernel_rfl
theorem k8 : (Rows.fnStrongStatesRow.knobs == []) = true := by kernel_rfl
theorem k10 : (Rows.fnStrongStatesRow.inPlace == Tryz.prog.inPlace 4) = true := by kernel_rfl
theorem k11 : (Rows.fnStrongStatesRow.unfollowed == Tryz.prog.unfollowed 4) = true := by kernel_rfl
theorem k12 : (Rows.fnStrongStatesRow.recurses == Tryz.prog.recurses 4) = true := by kernel_rfl
theorem k13 : (Rows.fnStrongStatesRow.named == Tryz.prog.varsNamed 4) = true := by kernel_rfl
theorem k14 : (Rows.fnStrongStatesRow.maps == (Tryz.f4.params.toList ++ Rows.fnStrongStatesSpec.plain.varTypes Tryz.prog).any (Tryz.prog.mapsRec ·)) = true := by kernel_rfl
theorem k15 : (Rows.fnStrongStatesRow.ifaces == (Tryz.f4.params.toList ++ Rows.fnStrongStatesSpec.plain.varTypes Tryz.prog).any (Tryz.prog.ifacesRec ·)) = true := by kernel_rfl
theorem k16 : (Rows.fnStrongStatesRow.mapsOut == Tryz.prog.mapsAmong Tryz.f4.resultTypes.toList) = true := by kernel_rfl
theorem k17 : (Rows.fnStrongStatesRow.loops == (Tryz.f4.params.toList ++ Rows.fnStrongStatesSpec.plain.varTypes Tryz.prog).any (Tryz.prog.loopsFrom ·)) = true := by kernel_rfl
theorem k18 : (Rows.fnStrongStatesRow.wideKeys == (Tryz.f4.params.toList ++ Rows.fnStrongStatesSpec.plain.varTypes Tryz.prog ++ Tryz.f4.resultTypes.toList).any (Tryz.prog.wideKeysFrom ·)) = true := by kernel_rfl
theorem k19 : Rows.fnStrongStatesSpec.vars.all (Tryz.prog.varReadable ·) = true := by kernel_rfl
theorem k20 : Tryz.f4.resultTypes.all (fun t => Tryz.prog.readableRec t && decide (t < Tryz.prog.types.size)) = true := by kernel_rfl
theorem k21 : (Rows.fnStrongStatesRow.ifacesOut == Tryz.f4.resultTypes.toList.any (Tryz.prog.ifacesRec ·)) = true := by kernel_rfl
theorem k22 : (Rows.fnStrongStatesRow.loopsOut == Tryz.f4.resultTypes.toList.any (Tryz.prog.loopsFrom ·)) = true := by kernel_rfl
theorem k23 : (Rows.fnStrongStatesRow.plainKeys == Tryz.prog.plainKeys) = true := by kernel_rfl
theorem k24 : Rows.fnStrongStatesRow.shortTexts.isNone = true := by kernel_rfl
theorem k29 : (Rows.fnStrongStatesRow.kinds == (if Rows.fnStrongStatesRow.domain.isEmpty then [] else Tryz.f4.params.toList.map fun t => match Tryz.prog.underlying t with | some (.int k) => some k | _ => none)) = true := by kernel_rfl
theorem k30 : (Rows.fnStrongStatesRow.pinned == Rows.fnStrongStatesRow.pinnedBy) = true := by kernel_rfl
theorem k31 : (Rows.fnStrongStatesRow.veiled == (Tryz.f4.params.toList ++ Rows.fnStrongStatesSpec.plain.varTypes Tryz.prog ++ Tryz.f4.resultTypes.toList).any (Tryz.prog.veiledRec ·)) = true := by kernel_rfl
theorem k32 : Rows.fnStrongStatesRow.veiledFits Tryz.prog Tryz.f4.params.toList (Tryz.f4.params.toList ++ Rows.fnStrongStatesSpec.plain.varTypes Tryz.prog ++ Tryz.f4.resultTypes.toList) = true := by kernel_rfl
set_option maxRecDepth 100000 in
theorem closed : joinedFacts Tryz.pinned.checked.prog 4 Tryz.f4 Rows.fnStrongStatesSpec Rows.fnStrongStatesRow = true := (andT (andT (andT (andT (andT (andT (andT (andT (andT (andT (andT (andT (andT (andT (andT (andT (andT (andT (andT (andT (andT (andT (andT (andT (andT (andT (andT (andT (andT (andT (andT k1 Tryz.laidOutB) Tryz.mapsRowed) k4) k5) k6) Tryz.noStops) k8) Tryz.noStopKnobs) k10) k11) k12) k13) k14) k15) k16) k17) k18) k19) k20) k21) k22) k23) k24) Tryz.stopsHeard) Tryz.mayEnter) Tryz.lifted) Tryz.made) k29) k30) k31) k32)

theorem named : Tryz.pinned.checked.prog.funcNamed Rows.fnStrongStatesRow.func = some 4 := by kernel_rfl
theorem inst : Func.isInstance Tryz.pinned.checked.prog Tryz.f4 Rows.fnStrongStatesRow.origin Rows.fnStrongStatesRow.targs := of_decide_eq_true (by kernel_rfl)
theorem wrap : Func.isWrapper Tryz.pinned.checked.prog Tryz.f4 Rows.fnStrongStatesRow.wrapper Rows.fnStrongStatesRow.mainSum := by unfold Func.isWrapper; first | (rw [if_pos (by decide +kernel)]; kernel_rfl) | (rw [if_neg (by decide +kernel)]; exact ⟨rfl, rfl⟩)
theorem over : Rows.fnStrongStatesRow.holds Tryz.pinned (OpenSpec.ofChange Rows.fnStrongStatesSpec) :=
  OpenClaim.holds_of_wide 4 Tryz.f4 rfl rfl rfl rfl rfl rfl rfl ⟨rfl, rfl, rfl, rfl, rfl⟩ rfl rfl rfl rfl rfl named Tryz.func4 closed inst wrap
    (fun os started H enc _ => lifted os started H enc)
end Go.Proofs.YtlaamecfknkmlaaGreat.fnStrongStates
namespace Go.Proofs.YtlaamecfknkmlaaGreat
/-- The given statement. -/
theorem fnStrongStates_holds : Rows.FnStrongStatesSaid := fnStrongStates.over
end Go.Proofs.YtlaamecfknkmlaaGreat
