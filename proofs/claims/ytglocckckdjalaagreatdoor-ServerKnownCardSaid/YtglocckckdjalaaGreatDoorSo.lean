/-
  A map's keys, sorted: the library's contract lies in this program.
-/
import Derived.Shelf.SlIterI.Collect
import Derived.Shelf.SlIterI.Sorted
import Derived.Shelf.SortM.Plain
import Derived.Shelf.SortM.SortNone
import Derived.Test.YtglocckckdjalaaGreatDoorT2
import Derived.Test.YtglocckckdjalaaGreatDoorProg
set_option linter.unusedVariables false
namespace Go.Proofs
open Go.Shelf
def Tryz.keysI_ren : Go.Shelf.Ren := ⟨fun | 7 => 105 | 10 => 171 | n => n, fun | 23 => 82 | 26 => 3 | 3 => 3 | 28 => 104 | 0 => 0 | 27 => 103 | 33 => 62 | 4 => 4 | n => n, fun | n => n⟩
theorem Tryz.keysI : Go.Proofs.SlLaysZI.n7 Tryz.prog Tryz.keysI_ren := {
  mixed := by kernel_rfl
  f7 := ⟨Tryz.f105.name, by decide, Tryz.func105.trans (congrArg some (by kernel_rfl))⟩
  f10 := ⟨Tryz.f171.name, by decide, Tryz.func171.trans (congrArg some (by kernel_rfl))⟩
  t0 := Tryz.underlying0
  a0 := Tryz.isAgg0
  z0 := Tryz.sizeOf0
  v0 := Tryz.zeroValue0
  t4 := Tryz.underlying4
  a4 := Tryz.isAgg4
  z4 := Tryz.sizeOf4
  v4 := Tryz.zeroValue4
  t23 := Tryz.underlying82
  a23 := Tryz.isAgg82
  z23 := Tryz.sizeOf82
  v23 := Tryz.zeroValue82
  t26 := Tryz.underlying3
  a26 := Tryz.isAgg3
  z26 := Tryz.sizeOf3
  v26 := Tryz.zeroValue3
  t27 := Tryz.underlying103
  a27 := Tryz.isAgg103
  z27 := Tryz.sizeOf103
  v27 := Tryz.zeroValue103
  t28 := Tryz.underlying104
  a28 := Tryz.isAgg104
  z28 := Tryz.sizeOf104
  v28 := Tryz.zeroValue104
  t33 := Tryz.underlying62
  a33 := Tryz.isAgg62
  z33 := Tryz.sizeOf62
  v33 := Tryz.zeroValue62 }
def Tryz.sortedI_ren : Go.Shelf.Ren := ⟨fun | 6 => 104 | 8 => 61 | 9 => 170 | 11 => 101 | 13 => 200 | 12 => 237 | 23 => 265 | 24 => 266 | 14 => 295 | 15 => 296 | 16 => 297 | 17 => 298 | 18 => 299 | 19 => 300 | 20 => 301 | 21 => 302 | 22 => 303 | 25 => 348 | 26 => 318 | 27 => 319 | 28 => 349 | 29 => 350 | 30 => 270 | 31 => 388 | n => n, fun | 26 => 3 | 28 => 104 | 24 => 60 | 0 => 0 | 3 => 3 | 37 => 160 | 48 => 302 | 50 => 159 | 4 => 4 | 40 => 296 | 39 => 295 | 45 => 92 | 5 => 5 | 9 => 9 | 51 => 348 | 55 => 352 | 57 => 382 | 58 => 383 | 33 => 62 | n => n, fun | n => n⟩
theorem Tryz.sortedI : Go.Proofs.SlLaysZI.n6 Tryz.prog Tryz.sortedI_ren := {
  mixed := by kernel_rfl
  f6 := ⟨Tryz.f104.name, by decide, Tryz.func104.trans (congrArg some (by kernel_rfl))⟩
  f8 := ⟨Tryz.f61.name, by decide, Tryz.func61.trans (congrArg some (by kernel_rfl))⟩
  f11 := ⟨Tryz.f101.name, by decide, Tryz.func101.trans (congrArg some (by kernel_rfl))⟩
  t0 := Tryz.underlying0
  a0 := Tryz.isAgg0
  z0 := Tryz.sizeOf0
  v0 := Tryz.zeroValue0
  t24 := Tryz.underlying60
  a24 := Tryz.isAgg60
  z24 := Tryz.sizeOf60
  v24 := Tryz.zeroValue60
  t26 := Tryz.underlying3
  a26 := Tryz.isAgg3
  z26 := Tryz.sizeOf3
  v26 := Tryz.zeroValue3
  t28 := Tryz.underlying104
  a28 := Tryz.isAgg104
  z28 := Tryz.sizeOf104
  v28 := Tryz.zeroValue104
  i26 := by kernel_rfl }
def Tryz.sortI_ren : Go.Shelf.Ren := ⟨fun | 5 => 170 | 8 => 200 | 7 => 237 | 19 => 265 | 20 => 266 | 10 => 295 | 11 => 296 | 12 => 297 | 13 => 298 | 14 => 299 | 15 => 300 | 16 => 301 | 17 => 302 | 18 => 303 | 30 => 348 | 31 => 318 | 32 => 319 | 33 => 349 | 34 => 350 | 35 => 270 | 40 => 388 | n => n, fun | 23 => 60 | 25 => 3 | 3 => 3 | 32 => 160 | 22 => 60 | 0 => 0 | 44 => 302 | 46 => 159 | 4 => 4 | 36 => 296 | 35 => 295 | 41 => 92 | 5 => 5 | 9 => 9 | 53 => 348 | 57 => 352 | 63 => 382 | 64 => 383 | n => n, fun | n => n⟩
theorem Tryz.sortI : Go.Proofs.SlLaysM.n5 Tryz.prog Tryz.sortI_ren := {
  mixed := by kernel_rfl
  f5 := ⟨Tryz.f170.name, by decide, Tryz.func170.trans (congrArg some (by kernel_rfl))⟩
  f7 := ⟨Tryz.f237.name, by decide, Tryz.func237.trans (congrArg some (by kernel_rfl))⟩
  f8 := Tryz.func200.trans (congrArg some (by kernel_rfl))
  f10 := ⟨Tryz.f295.name, by decide, Tryz.func295.trans (congrArg some (by kernel_rfl))⟩
  f11 := ⟨Tryz.f296.name, by decide, Tryz.func296.trans (congrArg some (by kernel_rfl))⟩
  f12 := ⟨Tryz.f297.name, by decide, Tryz.func297.trans (congrArg some (by kernel_rfl))⟩
  f13 := ⟨Tryz.f298.name, by decide, Tryz.func298.trans (congrArg some (by kernel_rfl))⟩
  f14 := ⟨Tryz.f299.name, by decide, Tryz.func299.trans (congrArg some (by kernel_rfl))⟩
  f15 := ⟨Tryz.f300.name, by decide, Tryz.func300.trans (congrArg some (by kernel_rfl))⟩
  f16 := ⟨Tryz.f301.name, by decide, Tryz.func301.trans (congrArg some (by kernel_rfl))⟩
  f17 := ⟨Tryz.f302.name, by decide, Tryz.func302.trans (congrArg some (by kernel_rfl))⟩
  f18 := ⟨Tryz.f303.name, by decide, Tryz.func303.trans (congrArg some (by kernel_rfl))⟩
  f19 := Tryz.func265.trans (congrArg some (by kernel_rfl))
  f20 := Tryz.func266.trans (congrArg some (by kernel_rfl))
  f30 := ⟨Tryz.f348.name, by decide, Tryz.func348.trans (congrArg some (by kernel_rfl))⟩
  f31 := Tryz.func318.trans (congrArg some (by kernel_rfl))
  f32 := Tryz.func319.trans (congrArg some (by kernel_rfl))
  f33 := ⟨Tryz.f349.name, by decide, Tryz.func349.trans (congrArg some (by kernel_rfl))⟩
  f34 := ⟨Tryz.f350.name, by decide, Tryz.func350.trans (congrArg some (by kernel_rfl))⟩
  f35 := ⟨Tryz.f270.name, by decide, Tryz.func270.trans (congrArg some (by kernel_rfl))⟩
  f40 := ⟨Tryz.f388.name, by decide, Tryz.func388.trans (congrArg some (by kernel_rfl))⟩
  t0 := Tryz.underlying0
  a0 := Tryz.isAgg0
  z0 := Tryz.sizeOf0
  v0 := Tryz.zeroValue0
  t3 := Tryz.underlying3
  a3 := Tryz.isAgg3
  z3 := Tryz.sizeOf3
  v3 := Tryz.zeroValue3
  t4 := Tryz.underlying4
  a4 := Tryz.isAgg4
  z4 := Tryz.sizeOf4
  v4 := Tryz.zeroValue4
  t5 := Tryz.underlying5
  a5 := Tryz.isAgg5
  z5 := Tryz.sizeOf5
  v5 := Tryz.zeroValue5
  t9 := Tryz.underlying9
  a9 := Tryz.isAgg9
  z9 := Tryz.sizeOf9
  v9 := Tryz.zeroValue9
  t22 := Tryz.underlying60
  a22 := Tryz.isAgg60
  z22 := Tryz.sizeOf60
  v22 := Tryz.zeroValue60
  t23 := Tryz.underlying60
  a23 := Tryz.isAgg60
  z23 := Tryz.sizeOf60
  v23 := Tryz.zeroValue60
  t25 := Tryz.underlying3
  a25 := Tryz.isAgg3
  z25 := Tryz.sizeOf3
  v25 := Tryz.zeroValue3
  t32 := Tryz.underlying160
  a32 := Tryz.isAgg160
  z32 := Tryz.sizeOf160
  v32 := Tryz.zeroValue160
  t35 := Tryz.underlying295
  a35 := Tryz.isAgg295
  z35 := Tryz.sizeOf295
  v35 := Tryz.zeroValue295
  t36 := Tryz.underlying296
  a36 := Tryz.isAgg296
  z36 := Tryz.sizeOf296
  v36 := Tryz.zeroValue296
  t41 := Tryz.underlying92
  a41 := Tryz.isAgg92
  z41 := Tryz.sizeOf92
  v41 := Tryz.zeroValue92
  t44 := Tryz.underlying302
  a44 := Tryz.isAgg302
  z44 := Tryz.sizeOf302
  v44 := Tryz.zeroValue302
  t46 := Tryz.underlying159
  a46 := Tryz.isAgg159
  z46 := Tryz.sizeOf159
  v46 := Tryz.zeroValue159
  t53 := Tryz.underlying348
  a53 := Tryz.isAgg348
  z53 := Tryz.sizeOf348
  v53 := Tryz.zeroValue348
  t57 := Tryz.underlying352
  a57 := Tryz.isAgg352
  z57 := Tryz.sizeOf352
  v57 := Tryz.zeroValue352
  t63 := Tryz.underlying382
  a63 := Tryz.isAgg382
  z63 := Tryz.sizeOf382
  v63 := Tryz.zeroValue382
  t64 := Tryz.underlying383
  a64 := Tryz.isAgg383
  z64 := Tryz.sizeOf383
  v64 := Tryz.zeroValue383 }
/-- slices.Sort's two contracts, at the fence that asks nothing. -/
theorem Tryz.sortsI (m : Nat) : AnyZI.SortsIn Tryz.prog Tryz.sortedI_ren Fence.wide m :=
  ⟨fun blk off cap ss W hH hblk hsz => callsIn_wide.2 (AnyM.slices_Sort_int Tryz.sortI blk off cap ss W hH hblk hsz),
   fun p cap W => callsIn_wide.2 (AnyM.slices_Sort_int_none Tryz.sortI p cap W)⟩
end Go.Proofs
namespace Go.Proofs.YtglocckckdjalaaGreatDoor
open Go.Ra Go.RowKit Go.Maps Go.Sort Go.Shelf
theorem sorted_ok : SortedOk Tryz.prog 104 (bid 171) 3 := by
  refine ⟨enters_of Tryz.func104 (by kernel_rfl) rfl, ?_⟩
  intro k hk hkp w b mb es ck ks hc hm hkeys hst hbd hlen
  obtain rfl := bid_of hk (by decide) hkp.symm
  have hR : ∀ x ∈ es.toList, ∃ z : Int, x.key = .int .i64 z ∧ 0 ≤ z ∧ z ≤ 9223372036854775807 := by
    intro x hx
    have : x.key ∈ es.toList.map (·.key) := List.mem_map_of_mem hx
    rw [hkeys] at this
    obtain ⟨z, hz, he⟩ := List.mem_map.1 this
    exact ⟨z, he.symm, hbd z hz⟩
  let R : Value → Option (DataW Unit × List MemPlace) := fun _ => some (.nil, [])
  have hkey : ∀ z : Int, 0 ≤ z → z ≤ 9223372036854775807 → keyOf Tryz.prog 3 (.int .i64 z) = some (.int .i64 z) := by
    intro z h1 h2
    have hwf : (Lit.int .i64 z).wf = true := by
      simp only [Lit.wf, Bool.and_eq_true, decide_eq_true_eq, IntKind.min, IntKind.max, IntKind.signed, IntKind.bits]
      omega
    unfold keyOf
    rw [Tryz.underlying3]
    simp only [mapKey, Tryz.underlying3]
    simp [hwf]
  have hsz : es.size = ks.length := by
    have := congrArg List.length hkeys
    simpa using this
  have hrd : ∀ x ∈ es.toList, Go.WideElems.rd Tryz.prog 3 R x = some (.int .i64 (match x.key with | .int _ z => z | _ => 0), .nil) := by
    intro x hx
    obtain ⟨z, hz, h1, h2⟩ := hR x hx
    unfold Go.WideElems.rd
    rw [hz, hkey z h1 h2]
    rfl
  have hown : w.ownsMap Tryz.prog 3 R mb es.size (.map ((es.toList.map (Go.WideElems.rg Tryz.prog 3 R)).foldr DataW.insert [])) :=
    ⟨es, ck, hm, ⟨by rw [hsz]; unfold maxLen; omega, hst, fun x hx => ⟨_, hrd x hx⟩⟩, Nat.le_refl _, rfl⟩
  have hks : es.toList.map (fun x => Go.intOf (Go.WideElems.rg Tryz.prog 3 R x).1) = ks := by
    have : ∀ x ∈ es.toList, Go.intOf (Go.WideElems.rg Tryz.prog 3 R x).1 = (match x.key with | .int _ z => z | _ => 0) := by
      intro x hx
      unfold Go.WideElems.rg
      rw [hrd x hx]
      rfl
    rw [List.map_congr_left this]
    have h2 : es.toList.map (fun x => (match x.key with | .int _ z => z | _ => 0 : Int)) = (es.toList.map (·.key)).map (fun v => match v with | .int _ z => z | _ => 0) := by rw [List.map_map]; rfl
    rw [h2, hkeys, List.map_map]
    exact (List.map_congr_left (fun z _ => rfl)).trans (List.map_id ks)
  have hperm : (intKeys (.map ((es.toList.map (Go.WideElems.rg Tryz.prog 3 R)).foldr DataW.insert []))).Perm ks := by
    show (((es.toList.map (Go.WideElems.rg Tryz.prog 3 R)).foldr DataW.insert []).map fun p => Go.intOf p.1).Perm ks
    refine ((Go.WideShapes.sorted_perm _).map _).trans ?_
    rw [List.map_map, Function.comp_def, hks]
  have hlt : b < w.heap.size := by
    unfold World.cell? at hc
    cases hb : w.heap[b]? with
    | none => simp [hb] at hc
    | some o => exact (Array.getElem?_eq_some_iff.1 hb).1
  have hn : Maps.size (.map ((es.toList.map (Go.WideElems.rg Tryz.prog 3 R)).foldr DataW.insert []) : DataW Unit) = ks.length := by
    rw [← hperm.length_eq]
    simp [Maps.size, intKeys]
  have hseq := AnyZI.keys_gives (ρ := Tryz.keysI_ren) { Tryz.keysI with } Fence.wide 2 trivial rfl (by omega) b mb es.size _ w hlt hc hown
  have cS := AnyZI.sorted_in Tryz.sortedI Fence.wide 5 trivial trivial trivial trivial rfl (by omega) (Tryz.sortsI _) (enters_of Tryz.func170 (by kernel_rfl) rfl) 171 #[.pointer (some ⟨b, 0, none⟩)] trivial (enters_of Tryz.func171 (by kernel_rfl) rfl) _ _ (by rw [hn]; unfold maxLen; omega) (by rw [hn]; omega) w hseq
  refine ((callsIn_wide (n := 5)).1 cS).mono fun e w' he => ?_
  obtain ⟨v, ss, rfl, hS, hrow, hnil, hb⟩ := he
  have tr : ∀ a b c : Int, (decide (a ≤ b)) = true → (decide (b ≤ c)) = true → (decide (a ≤ c)) = true := fun a b c h1 h2 => by simp only [decide_eq_true_eq] at *; omega
  have to : ∀ a b : Int, (decide (a ≤ b) || decide (b ≤ a)) = true := fun a b => by simp; omega
  refine ⟨v, ss.mergeSort (fun x y => decide (x ≤ y)), rfl, ((List.mergeSort_perm _ _).trans hS).trans hperm, (List.pairwise_mergeSort tr to ss).imp (fun h => by simpa using h), ?_, fun h => ?_, hb⟩
  · rw [List.length_mergeSort]
    exact hrow
  · refine hnil.2 ?_
    have := congrArg List.length h
    rw [List.length_mergeSort] at this
    exact List.eq_nil_of_length_eq_zero this
end Go.Proofs.YtglocckckdjalaaGreatDoor
