/- For every input the law FnCodeValid returns true, and its arguments read afterwards as they read before: the statement's frame round the contract. -/
import Derived.Test.YtnhdachenckceaaLCodeValid
import Derived.Test.YtnhdachenckceaaFrame
namespace Go.Proofs.Ytnhdachenckceaa.fnCodeValid
open Go.ChangeShapes Go.WideShapes Go.ChangeAt Go.RowKit Go.Kt
set_option linter.unusedVariables false


set_option maxRecDepth 100000 in
theorem lifted (os : Os) (started : os.Started) (H : Type) (enc : TypeId × Value → H) :
    ReturnsInHanded {} Try.checked os 10 .any (Rows.fnCodeValidSpec.pre6 enc Try.prog Try.f10 Rows.fnCodeValidRow.domain false) (Rows.fnCodeValidSpec.post enc Try.prog Try.f10 false true false false) := by
  refine returnsInHanded_of_change (C := Try.checked) Try.ownK started (by kernel_rfl) Try.func10
    (ChangeSpec.witness6 (enc := enc) (C := Try.checked) false ⟨#[], #[.slice none 0 0], []⟩ 8 (by kernel_rfl) (by kernel_rfl) (by kernel_rfl) (by kernel_rfl)) ?_
  intro W base args ds gs before hval0 hW hcnd _
  have hval : ∀ (j : Nat) t v, Try.f10.params[j]? = some t → args[j]? = some v → Value.okWide Try.prog W .any base t v := hval0
  have hW' := hW
  obtain ⟨p, q, hA0, hV, rfl, hfz, hnd⟩ := hW
  have hA : DataW.TrodAll enc Try.prog W 0 (fun _ => true) true Try.f10.params.toList args.toList ds p := hA0
  rw [Try.params10] at hA hval
  obtain ⟨v0, vs0, d0, ds0, p0, q0, hargs, rfl, rfl, h0, r0⟩ := trodAll_cons hA
  obtain ⟨rfl, rfl, rfl⟩ := trodAll_nil r0
  obtain rfl : args = #[v0] := by cases args; simp_all
  obtain ⟨rfl, rfl⟩ := trodVars_none hV
  obtain ⟨a0, len0, cap0, rfl⟩ := okWide_slice Try.underlying33 (hval 0 33 v0 rfl rfl)
  have k0 := h0
  have lt0 : ∀ x ∈ p0, x.block < W.heap.size := by obtain ⟨m, hm⟩ := k0; exact DataW.trod_lt m _ _ _ hm
  obtain ⟨l0, rfl, w0, m0, mc0⟩ : ∃ l, len0 = l.length ∧ BytesAt W a0 l ∧ len0 ≤ 9223372036854775807 ∧ len0 ≤ cap0 := by
    obtain ⟨fuel, hf⟩ := h0
    rcases open_ints Try.underlying33 Try.underlying5 (by kernel_rfl) hf with ⟨hcs, _⟩ | ⟨x, l, c, zs, hcs, _, hl, hm, hz, _, hcell, hwz⟩
    · simp [Value.cells] at hcs
      obtain ⟨rfl, rfl, rfl⟩ := hcs
      exact ⟨[], rfl, bytesAt_none _, by omega, by omega⟩
    · simp [Value.cells] at hcs
      obtain ⟨rfl, rfl, rfl⟩ := hcs
      obtain ⟨l', e1, e2, e3⟩ := bytesAt_of_cells (by simpa using hz) hl hm hcell hwz
      exact ⟨l', e1, e2, e3, hl⟩
  clear hA0 hval0
  refine (fnCodeValid_c a0 cap0 l0 W w0 m0 mc0).mono fun e W' ⟨he, bel⟩ => ?_
  subst he
  exact ⟨_, rfl, _, _, _, [], _, [], hW', trodAll_mk1 (shut_bool Try.underlying4 _), (trodAll_cons_mk (Below.trod Try.laidOutB (by kernel_rfl) (of_decide_eq_true (by kernel_rfl)) k0 bel lt0) trodAll_mk0), rfl, bel.frame _, fun h => by cases h⟩
theorem k1 : Rows.fnCodeValidRow.wf (OpenSpec.ofChange Rows.fnCodeValidSpec) = true := by kernel_rfl
theorem k4 : Try.f10.params.all (Try.prog.readableRec ·) = true := by kernel_rfl
theorem k5 : namedTie Try.prog Rows.fnCodeValidRow.named Rows.fnCodeValidSpec.vars = true := by kernel_rfl
theorem k6 : (Rows.fnCodeValidRow.stops == []) = true := by kernel_rfl
theorem k8 : (Rows.fnCodeValidRow.knobs == []) = true := by kernel_rfl
theorem k10 : (Rows.fnCodeValidRow.inPlace == Try.prog.inPlace 10) = true := by kernel_rfl
theorem k11 : (Rows.fnCodeValidRow.unfollowed == Try.prog.unfollowed 10) = true := by kernel_rfl
theorem k12 : (Rows.fnCodeValidRow.recurses == Try.prog.recurses 10) = true := by kernel_rfl
theorem k13 : (Rows.fnCodeValidRow.named == Try.prog.varsNamed 10) = true := by kernel_rfl
theorem k14 : (Rows.fnCodeValidRow.maps == (Try.f10.params.toList ++ Rows.fnCodeValidSpec.plain.varTypes Try.prog).any (Try.prog.mapsRec ·)) = true := by kernel_rfl
theorem k15 : (Rows.fnCodeValidRow.ifaces == (Try.f10.params.toList ++ Rows.fnCodeValidSpec.plain.varTypes Try.prog).any (Try.prog.ifacesRec ·)) = true := by kernel_rfl
theorem k16 : (Rows.fnCodeValidRow.mapsOut == Try.prog.mapsAmong Try.f10.resultTypes.toList) = true := by kernel_rfl
theorem k17 : (Rows.fnCodeValidRow.loops == (Try.f10.params.toList ++ Rows.fnCodeValidSpec.plain.varTypes Try.prog).any (Try.prog.loopsFrom ·)) = true := by kernel_rfl
theorem k18 : (Rows.fnCodeValidRow.wideKeys == (Try.f10.params.toList ++ Rows.fnCodeValidSpec.plain.varTypes Try.prog ++ Try.f10.resultTypes.toList).any (Try.prog.wideKeysFrom ·)) = true := by kernel_rfl
theorem k19 : Rows.fnCodeValidSpec.vars.all (Try.prog.varReadable ·) = true := by kernel_rfl
theorem k20 : Try.f10.resultTypes.all (fun t => Try.prog.readableRec t && decide (t < Try.prog.types.size)) = true := by kernel_rfl
theorem k21 : (Rows.fnCodeValidRow.ifacesOut == Try.f10.resultTypes.toList.any (Try.prog.ifacesRec ·)) = true := by kernel_rfl
theorem k22 : (Rows.fnCodeValidRow.loopsOut == Try.f10.resultTypes.toList.any (Try.prog.loopsFrom ·)) = true := by kernel_rfl
theorem k23 : (Rows.fnCodeValidRow.plainKeys == Try.prog.plainKeys) = true := by kernel_rfl
theorem k24 : Rows.fnCodeValidRow.shortTexts.isNone = true := by kernel_rfl
theorem k29 : (Rows.fnCodeValidRow.kinds == (if Rows.fnCodeValidRow.domain.isEmpty then [] else Try.f10.params.toList.map fun t => match Try.prog.underlying t with | some (.int k) => some k | _ => none)) = true := by kernel_rfl
theorem k30 : (Rows.fnCodeValidRow.pinned == Rows.fnCodeValidRow.pinnedBy) = true := by kernel_rfl
theorem k31 : (Rows.fnCodeValidRow.veiled == (Try.f10.params.toList ++ Rows.fnCodeValidSpec.plain.varTypes Try.prog ++ Try.f10.resultTypes.toList).any (Try.prog.veiledRec ·)) = true := by kernel_rfl
theorem k32 : Rows.fnCodeValidRow.veiledFits Try.prog Try.f10.params.toList (Try.f10.params.toList ++ Rows.fnCodeValidSpec.plain.varTypes Try.prog ++ Try.f10.resultTypes.toList) = true := by kernel_rfl
theorem closed : joinedFacts Try.pinned.checked.prog 10 Try.f10 Rows.fnCodeValidSpec Rows.fnCodeValidRow = true := (andT (andT (andT (andT (andT (andT (andT (andT (andT (andT (andT (andT (andT (andT (andT (andT (andT (andT (andT (andT (andT (andT (andT (andT (andT (andT (andT (andT (andT (andT (andT k1 Try.laidOutB) Try.mapsRowed) k4) k5) k6) Try.noStops) k8) Try.noStopKnobs) k10) k11) k12) k13) k14) k15) k16) k17) k18) k19) k20) k21) k22) k23) k24) Try.stopsHeard) Try.mayEnter) Try.lifted) Try.made) k29) k30) k31) k32)

theorem named : Try.pinned.checked.prog.funcNamed Rows.fnCodeValidRow.func = some 10 := by kernel_rfl
theorem inst : Func.isInstance Try.pinned.checked.prog Try.f10 Rows.fnCodeValidRow.origin Rows.fnCodeValidRow.targs := of_decide_eq_true (by kernel_rfl)
theorem wrap : Func.isWrapper Try.pinned.checked.prog Try.f10 Rows.fnCodeValidRow.wrapper Rows.fnCodeValidRow.mainSum := by unfold Func.isWrapper; first | (rw [if_pos (by decide +kernel)]; kernel_rfl) | (rw [if_neg (by decide +kernel)]; exact ⟨rfl, rfl⟩)
theorem over : Rows.fnCodeValidRow.holds Try.pinned (OpenSpec.ofChange Rows.fnCodeValidSpec) :=
  OpenClaim.holds_of_wide 10 Try.f10 rfl rfl rfl rfl rfl rfl rfl ⟨rfl, rfl, rfl, rfl, rfl⟩ rfl rfl rfl rfl rfl named Try.func10 closed inst wrap
    (fun os started H enc _ => lifted os started H enc)
end Go.Proofs.Ytnhdachenckceaa.fnCodeValid
namespace Go.Proofs.Ytnhdachenckceaa
/-- The given statement. -/
theorem fnCodeValid_holds : Rows.FnCodeValidSaid := fnCodeValid.over
end Go.Proofs.Ytnhdachenckceaa
