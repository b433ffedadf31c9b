/- The card Rows.FnExactLawTextCardSaid, out of the walk of its function: for every input of the row; the table of the laws' texts holds what the program's text lays. -/
import Derived.Test.YtdcpggdbjllmpaaDoorFlawsFnExactLawText
import Derived.Test.YtdcpggdbjllmpaaDoorGx12
import Derived.Test.YtdcpggdbjllmpaaDoorGx30
import Derived.Test.YtdcpggdbjllmpaaDoorRows
import Derived.Test.YtdcpggdbjllmpaaDoorTie
import Derived.Test.YtdcpggdbjllmpaaDoorCards
import Derived.SevenTiedAt
import Derived.LaidMore
import Derived.Stop.Joined
namespace Go.Proofs.YtdcpggdbjllmpaaDoor.fnExactLawText
open Go Gx Go.ChangeShapes Go.WideShapes Go.ChangeAt Go.RowKit
set_option linter.unusedVariables false
theorem own : ownKnob Tryd.prog.godebug = none := by kernel_rfl
theorem gT : Tryd.prog.globalNamed "loop.example/g01195/impl.lawTexts" = some 0 := by kernel_rfl
theorem tT : (Tryd.prog.globals[0]?).map (·.type) = some 27 := by kernel_rfl
/-- A named variable reads behind the call as it did before. -/
theorem vars_carry {H : Type} {enc : TypeId × Value → H} {P : Program} {nm : String} {gs : List (DataW H)} {W W' : World} {q : List MemPlace} {sp : Nat → Bool} {t0 : TypeId} (hl : laidOutB P = true) (hr : P.readableRec t0 = true ∧ t0 < P.types.size) (ht0 : ∀ g t, P.globalNamed nm = some g → (P.globals[g]?).map (·.type) = some t → t = t0)
    (hb : Below W.heap.size W W') (h : DataW.TrodVars enc P W (fun _ => true) [nm] gs q) (hlt : ∀ p ∈ q, p.block < W.heap.size ∧ sp p.block = true) : DataW.TrodVars enc P W' sp [nm] gs q := by
  obtain ⟨g, t, cs, fuel, d, p, rfl, hg, ht, hv, hd, rfl⟩ := trodVars_one h
  obtain rfl := ht0 g t hg ht
  have hT : DataW.Trod enc P W 0 (fun _ => true) true t (.agg cs) d p := ⟨fuel, by simpa [Value.cells] using hd⟩
  obtain ⟨fuel', hd'⟩ := WideElems.Trod_stays hl hr.1 hr.2 hT (fun x hx => hb.same (hlt x (List.mem_append_right _ hx)).1) (fun x hx => (hlt x (List.mem_append_right _ hx)).2)
  refine trodVars_mk1 hg ht ?_ (fuel := fuel') (by simpa [Value.cells] using hd')
  have hgl : g < W.heap.size := by
    simp only [World.var?, hg, Option.bind_some] at hv
    split at hv
    · rename_i h1; exact (Array.getElem?_eq_some_iff.1 h1).1
    · cases hv
  simp only [World.var?, hg, Option.bind_some] at hv ⊢
  rw [hb.block g hgl]
  exact hv
/-- The end of a law's row: true, the arguments and the named variable as they were. -/
theorem law_post1 {H : Type} {enc : TypeId × Value → H} {P : Program} {nm : String} {t0 : TypeId} {f : Func} {s : ChangeSpec} {apart fresh handsOn : Bool} {W W' : World} {args : Array Value} {ds gs : List (DataW H)} {before : List MemPlace} {tb : TypeId}
    (hl : laidOutB P = true) (hr : ∀ t ∈ f.params.toList, P.readableRec t = true ∧ t < P.types.size) (hr0 : P.readableRec t0 = true ∧ t0 < P.types.size) (ht0 : ∀ g t, P.globalNamed nm = some g → (P.globals[g]?).map (·.type) = some t → t = t0) (hvs : s.vars = [nm]) (hrt : f.resultTypes = #[tb]) (htb : P.underlying tb = some .bool)
    (hW : DataW.Whole enc P f.params.toList s.vars apart W args.toList ds gs before)
    (hfn : s.fn H (ds ++ gs) = { results := [.lit (.bool true)], args := ds, vars := gs }) (hb : Below W.heap.size W W') :
    s.post enc P f apart fresh handsOn false W args (.bool true) W' := by
  have hlt := hW.lt
  have hW0 := hW
  obtain ⟨p, q, hA, hV, rfl, hz, hn⟩ := hW
  refine ⟨ds, gs, p ++ q, [], p, q, hW0, ?_, ?_, ?_, hb.frame _, fun h => by cases h⟩
  · rw [hrt, hfn]
    exact trodAll_cons_mk (p := []) (p' := []) (shut_bool htb true) trodAll_mk0
  · rw [hfn]
    exact trodAll_carry hl hb hr hA fun x hx => ⟨hlt x (List.mem_append_left _ hx), by simpa using hlt x (List.mem_append_left _ hx)⟩
  · rw [hfn]
    rw [hvs] at hV ⊢
    exact vars_carry hl hr0 ht0 hb hV fun x hx => ⟨hlt x (List.mem_append_right _ hx), by simpa using hlt x (List.mem_append_right _ hx)⟩
theorem of_laid {W : World} (h : laidMetH Tryd.prog [("loop.example/g01195/impl.lawTexts", Rows.laid_loop_example_g01195_impl_lawTexts)] W) : (Ent.ro 0 0 (strsR lawT)).ok W := by
  rw [MakeChecks.laidMetH_plain _ _ _ (by kernel_rfl)] at h
  exact strs_of_laid (n := 20) (e := 9) (t := 27) gT tT Tryd.underlying27 Tryd.underlying9 (by kernel_rfl) (by kernel_rfl) rfl (by omega) h
theorem door_met (os : Os) (args : Array Value) : laidMetH Tryd.prog [("loop.example/g01195/impl.lawTexts", Rows.laid_loop_example_g01195_impl_lawTexts)] ((World.doorLaid Tryd.prog 400 os).forCall (fun _ _ => 0) ⟨#[], args, []⟩).memory :=
  laidMetH_of_parts3 (fuel := 8) (laidMet_of_run' 8 (by kernel_rfl) (by kernel_rfl)) (by kernel_rfl) (by kernel_rfl)
set_option maxRecDepth 100000 in
theorem lifted (os : Os) (started : os.Started) (H : Type) (enc : TypeId × Value → H) :
    ReturnsInHanded {} Tryd.checked os 3 .any (fun w args => (Rows.fnExactLawTextSpec.pre enc Tryd.prog Tryd.f3 [] false w args ∧ laidMetH Tryd.prog [("loop.example/g01195/impl.lawTexts", Rows.laid_loop_example_g01195_impl_lawTexts)] w) ∧ sizedMet enc Tryd.prog Tryd.f3 (OpenSpec.ofChange Rows.fnExactLawTextSpec) false w args)
      (Rows.fnExactLawTextSpec.post enc Tryd.prog Tryd.f3 false true false false) := by
  refine returnsInHanded_of_change_and (C := Tryd.checked) (X := fun w _ => laidMetH Tryd.prog [("loop.example/g01195/impl.lawTexts", Rows.laid_loop_example_g01195_impl_lawTexts)] w) (fun _ _ _ hh h => h.of_heap hh) own started (by kernel_rfl) Tryd.func3
    (ChangeSpec.witness_shaped (enc := enc) (C := Tryd.checked) (os := os) (X := fun w _ => laidMetH Tryd.prog [("loop.example/g01195/impl.lawTexts", Rows.laid_loop_example_g01195_impl_lawTexts)] w) false (World.doorLaid Tryd.prog 400 os) #[.int .i64 0] 8 rfl (World.shaped_of_RefB (by kernel_rfl) (by kernel_rfl)) (by kernel_rfl) (by kernel_rfl) (by kernel_rfl) (door_met os _)) ?_
  intro W base args ds gs before hval0 hW _ _ hL _
  have hval : ∀ (j : Nat) t v, Tryd.f3.params[j]? = some t → args[j]? = some v → Value.okWide Tryd.prog W .any base t v := hval0
  have hW' := hW
  obtain ⟨p, q, hA0, hV, rfl, hfz, hnd⟩ := hW
  have hA : DataW.TrodAll enc Tryd.prog W 0 (fun _ => true) true Tryd.f3.params.toList args.toList ds p := hA0
  rw [Tryd.params3] at hA hval
  obtain ⟨v0, vs0, d0, ds0, p0, q0, hargs, rfl, rfl, h0, r0⟩ := trodAll_cons hA
  obtain ⟨rfl, rfl, rfl⟩ := trodAll_nil r0
  obtain rfl : args = #[v0] := by cases args; simp_all
  obtain ⟨a0, rfl, w0⟩ := op_int Tryd.underlying2 (hval 0 2 v0 rfl rfl)
  obtain ⟨g1, t1, cs1, f1, d1, p1, rfl, _, _, _, _, _⟩ := trodVars_one (n := "loop.example/g01195/impl.lawTexts") hV
  refine (w_laws_FnExactLawText (k := a0) W (HpOk.one rfl (of_laid hL))).mono fun e W2 ⟨he, hb⟩ => ?_
  subst he
  exact ⟨_, rfl, law_post1 (t0 := 27) (by kernel_rfl) (of_decide_eq_true (by kernel_rfl)) (of_decide_eq_true (by kernel_rfl)) (fun g t hg ht => by
    obtain rfl := Option.some.inj (gT.symm.trans hg)
    exact (Option.some.inj (tT.symm.trans ht)).symm) rfl rfl Tryd.underlying4 hW' rfl hb⟩
theorem bare : Rows.FnExactLawTextSaid :=
  OpenClaim.holds_of_wide 3 Tryd.f3 rfl rfl rfl rfl rfl rfl rfl ⟨rfl, rfl, rfl, rfl, rfl⟩ rfl rfl rfl rfl rfl (by kernel_rfl) Tryd.func3 (by kernel_rfl)
    (of_decide_eq_true (by kernel_rfl)) (by unfold Func.isWrapper; first | (rw [if_pos (by decide +kernel)]; kernel_rfl) | (rw [if_neg (by decide +kernel)]; exact ⟨rfl, rfl⟩))
    (fun os started H enc _ => lifted os started H enc)
theorem proved : Rows.FnExactLawTextCardSaid :=
  Claim7.holds_tied_plain_at .later [] [.data] true (true, "a4741dcd3406658b3d5fe5d9f3d238471c2e1f4391fd48317db9223d7bb9a29a") false
    bare (fun _ h => by cases h) (by kernel_rfl) (fun _ h => by cases h) fnExactLawText_row_tie rfl ⟨rfl, rfl⟩ (by kernel_rfl) rfl
    (fun f fn hf hfn => by
      obtain rfl : f = 3 := Option.some.inj ((show Tryd.prog.funcNamed "loop.example/g01195/laws.FnExactLawText" = some 3 by kernel_rfl).symm.trans hf) |>.symm
      obtain rfl : fn = Tryd.f3 := (Option.some.inj (Tryd.func3.symm.trans hfn)).symm
      exact ⟨by kernel_rfl, fun j t ht => by
        rw [Tryd.params3] at ht
        have hm : t ∈ [2] := by simpa using Array.mem_of_getElem? ht
        have hall : ([2].all fun u => !Tryd.prog.wantsStandIn u) = true := by kernel_rfl
        exact (show Tryd.prog.wantsStandIn t = false by simpa using List.all_eq_true.1 hall t hm)⟩)
    (by kernel_rfl)
#print axioms proved
end Go.Proofs.YtdcpggdbjllmpaaDoor.fnExactLawText
