/-
  The fixed examples of chapter 1.
-/
import Derived.Test.YtemijanhigjmmaaDoorStructs
import Derived.Test.YtemijanhigjmmaaDoorFnRatText
namespace Go.Proofs.YtemijanhigjmmaaDoor
open Go

theorem Own.thenE {B : Base} {L : List Item} {h h' : Heap} (o' : Own h [] h') (o : Own B L h) : Own B L h' := o.ext' o'

theorem digit_itoa (n : Nat) (hn : n < 10) : Lib.itoa (n : Int) = [UInt8.ofNat (48 + n)] := by
  rw [Lib.itoa, if_neg (by omega)]
  exact Lib.decDigits_one hn

theorem ex1 : ratioR 6 (-4) = ((-3, 2), 0) := by decide +kernel
theorem ex2 : ratioR 0 (-7) = ((0, 1), 0) := by decide +kernel
theorem ex3 : ratioR 1 0 = ((0, 0), 1) := by decide +kernel
theorem ex4 : ratioR 1 1000000001 = ((0, 0), 2) := by decide +kernel
theorem ex5 : addR (1, 6) (1, 3) = ((1, 2), 0) := by decide +kernel
theorem ex6 : mulR (2, 3) (9, 4) = ((3, 2), 0) := by decide +kernel
theorem ex7 : divR (1, 2) (0, 1) = ((0, 0), 1) := by decide +kernel
theorem ex8 : parseP [52, 47, 50] = ((0, 0), 6) := by
  rw [parseP_of (show seemR [52, 47, 50] = ((4, 2), true) by decide +kernel), if_neg]
  rintro ⟨_, h⟩
  have e : textR (4, 2) = [] := (textR_nil _).2 (by decide +kernel)
  rw [e] at h
  cases h
theorem ex9 : textR (-3, 2) = [45, 51, 47, 50] := by
  unfold textR
  rw [if_pos (by decide +kernel), if_pos (by decide)]
  have e2 : Lib.itoa (2 : Nat) = [50] := digit_itoa 2 (by decide)
  have e3 : Lib.itoa (-3) = [45, 51] := by
    rw [Lib.itoa, if_pos (by decide)]
    show 45 :: Lib.decDigits 3 = _
    rw [Lib.decDigits_one (by decide)]
    rfl
  show Lib.itoa (-3) ++ 47 :: Lib.itoa (2 : Nat) = _
  rw [e2, e3]
  rfl
theorem ex10 : okP (-3, 2) = true := by decide +kernel
theorem ex11 : okP (2, 4) = false := by decide +kernel
theorem ex12 : cmpR (1, 3) (1, 2) = -1 := by decide +kernel

set_option maxRecDepth 100000 in
theorem of_spec (n d : Int) (h : Heap) : SpecR Tryd.prog 19 [.int .i64 n, .int .i64 d] h fun r h' => r = ratV (n, d) ∧ Own h [] h' := by
  refine Spec.enter Tryd.func19 rfl Tryd.ntmps19 (by kernel_rfl) ?_
  have o0 := Own.refl h
  (refine RunVC.alloc o0 ty24 ?_; intro b10 m10 o10)
  refine StillVC.run (StillVC.buildK st24 ?_)
  refine And.intro rfl ?_
  refine And.intro rfl ?_
  (refine RunVC.storeL o10 0 rfl ty24 rfl (by decide) (And.intro ⟨rfl, rfl⟩ ?_); intro m12 o12)
  first | refine RetVC.cell2 rfl o12 0 rfl ty24 rfl rfl ?_ | refine RetVC.cell1 rfl o12 0 rfl ty24 rfl rfl ?_
  exact ⟨rfl, Own.sel (by assumption) [] rfl⟩

set_option maxRecDepth 100000 in
theorem head_spec (h : Heap) (ht : TabH h) (hv : VarH h) : SpecR Tryd.prog 10 [] h fun r h' => r = .bool true ∧ Own h [] h' := by
  refine Spec.enter Tryd.func10 rfl Tryd.ntmps10 (by kernel_rfl) ?_
  have o0 := Own.refl h
  refine CallVC.ret (ratioMake_spec 6 (-4) _ (by decide) (by decide) (by decide) (by decide)) ?_
  rintro _ h1 ⟨rfl, oc0⟩
  rw [ex1]
  have p0 := oc0.thenE (by assumption)
  (refine RunVC.alloc p0 ty24 ?_; intro b20 m20 o20)
  (refine RunVC.storeL o20 0 rfl ty24 rfl (by decide) (And.intro ⟨rfl, rfl⟩ ?_); intro m21 o21)
  refine CallVC.ret (ratioMake_spec 0 (-7) _ (by decide) (by decide) (by decide) (by decide)) ?_
  rintro _ h2 ⟨rfl, oc1⟩
  rw [ex2]
  have p1 := oc1.thenE (by assumption)
  (refine RunVC.alloc p1 ty24 ?_; intro b30 m30 o30)
  (refine RunVC.storeL o30 1 rfl ty24 rfl (by decide) (And.intro ⟨rfl, rfl⟩ ?_); intro m31 o31)
  refine CallVC.ret (ratioMake_spec 1 0 _ (by decide) (by decide) (by decide) (by decide)) ?_
  rintro _ h3 ⟨rfl, oc2⟩
  rw [ex3]
  have p2 := oc2.thenE (by assumption)
  (refine RunVC.alloc p2 ty24 ?_; intro b40 m40 o40)
  (refine RunVC.storeL o40 2 rfl ty24 rfl (by decide) (And.intro ⟨rfl, rfl⟩ ?_); intro m41 o41)
  refine CallVC.ret (ratioMake_spec 1 1000000001 _ (by decide) (by decide) (by decide) (by decide)) ?_
  rintro _ h4 ⟨rfl, oc3⟩
  rw [ex4]
  have p3 := oc3.thenE (by assumption)
  (refine RunVC.alloc p3 ty24 ?_; intro b50 m50 o50)
  (refine RunVC.storeL o50 3 rfl ty24 rfl (by decide) (And.intro ⟨rfl, rfl⟩ ?_); intro m51 o51)
  refine CallVC.ret (of_spec 1 6 _) ?_
  rintro _ h5 ⟨rfl, oc4⟩
  have p4 := oc4.thenE (by assumption)
  refine CallVC.ret (of_spec 1 3 _) ?_
  rintro _ h6 ⟨rfl, oc5⟩
  have p5 := oc5.thenE (by assumption)
  refine CallVC.ret (add_spec (1, 6) (1, 3) _ (by unfold i64P; decide) (by unfold i64P; decide)) ?_
  rintro _ h7 ⟨rfl, oc6⟩
  rw [ex5]
  have p6 := oc6.thenE (by assumption)
  (refine RunVC.alloc p6 ty24 ?_; intro b80 m80 o80)
  (refine RunVC.storeL o80 4 rfl ty24 rfl (by decide) (And.intro ⟨rfl, rfl⟩ ?_); intro m81 o81)
  refine CallVC.ret (of_spec 2 3 _) ?_
  rintro _ h8 ⟨rfl, oc7⟩
  have p7 := oc7.thenE (by assumption)
  refine CallVC.ret (of_spec 9 4 _) ?_
  rintro _ h9 ⟨rfl, oc8⟩
  have p8 := oc8.thenE (by assumption)
  refine CallVC.ret (mul_spec (2, 3) (9, 4) _ (by unfold i64P; decide) (by unfold i64P; decide)) ?_
  rintro _ h10 ⟨rfl, oc9⟩
  rw [ex6]
  have p9 := oc9.thenE (by assumption)
  (refine RunVC.alloc p9 ty24 ?_; intro b110 m110 o110)
  (refine RunVC.storeL o110 5 rfl ty24 rfl (by decide) (And.intro ⟨rfl, rfl⟩ ?_); intro m111 o111)
  refine CallVC.ret (of_spec 1 2 _) ?_
  rintro _ h11 ⟨rfl, oc10⟩
  have p10 := oc10.thenE (by assumption)
  refine CallVC.ret (of_spec 0 1 _) ?_
  rintro _ h12 ⟨rfl, oc11⟩
  have p11 := oc11.thenE (by assumption)
  refine CallVC.ret (div_spec (1, 2) (0, 1) _ (by unfold i64P; decide) (by unfold i64P; decide)) ?_
  rintro _ h13 ⟨rfl, oc12⟩
  rw [ex7]
  have p12 := oc12.thenE (by assumption)
  (refine RunVC.alloc p12 ty24 ?_; intro b140 m140 o140)
  (refine RunVC.storeL o140 6 rfl ty24 rfl (by decide) (And.intro ⟨rfl, rfl⟩ ?_); intro m141 o141)
  refine CallVC.ret (parse_spec [52, 47, 50] _ (by decide) (ht.ext (Own.ext (by assumption))) (hv.ext (Own.ext (by assumption)))) ?_
  rintro _ h14 ⟨rfl, oc13⟩
  rw [ex8]
  have p13 := oc13.thenE (by assumption)
  (refine RunVC.alloc p13 ty24 ?_; intro b300 m300 o300)
  (refine RunVC.storeL o300 7 rfl ty24 rfl (by decide) (And.intro ⟨rfl, rfl⟩ ?_); intro m301 o301)
  refine DrawVC.intro [2, 3, 4, 5, 6, 7, 10, 11, 12, 13, 14, 15, 16, 17, 18, 19, 20, 21, 22, 23, 24] [0, 8] [] [0, 1, 2, 3, 4, 5, 6, 7, 8, 9, 10, 11, 12, 13, 14, 15, 16, 17, 18, 19, 20, 21, 22, 23, 24] mixed (by kernel_rfl) rfl (fun _ _ _ _ h => h) ?_
  refine StillVC.loadON o301 0 rfl ty24 rfl rfl rfl ?_
  refine CallVC.ret (of_spec (-3) 2 _) ?_
  rintro _ h21 ⟨rfl, oc20⟩
  have p20 := oc20.thenE (by assumption)
  refine And.intro oc20.ext ?_
  refine StillVC.eqS pl24 rfl rfl rfl rfl ?_
  refine Br.tt ?_
  refine Br.tt ?_
  refine StillVC.loadON p20 1 rfl ty24 rfl rfl rfl ?_
  refine CallVC.ret (of_spec 0 1 _) ?_
  rintro _ h22 ⟨rfl, oc21⟩
  have p21 := oc21.thenE (by assumption)
  refine And.intro oc21.ext ?_
  refine StillVC.eqS pl24 rfl rfl rfl rfl ?_
  refine Br.tt ?_
  refine Br.tt ?_
  refine Br.tt ?_
  refine DrawVC.intro [2, 3, 4, 5, 6, 7, 10, 11, 12, 13, 14, 15, 16, 17, 18, 19, 20] [0, 8] [] [0, 1, 2, 3, 4, 5, 6, 7, 8, 9, 10, 11, 12, 13, 14, 15, 16, 17, 18, 19, 20] mixed (by kernel_rfl) rfl (fun _ _ _ _ h => h) ?_
  refine StillVC.loadON p21 4 rfl ty24 rfl rfl rfl ?_
  refine CallVC.ret (of_spec 1 2 _) ?_
  rintro _ h23 ⟨rfl, oc22⟩
  have p22 := oc22.thenE (by assumption)
  refine And.intro oc22.ext ?_
  refine StillVC.eqS pl24 rfl rfl rfl rfl ?_
  refine Br.tt ?_
  refine Br.tt ?_
  refine StillVC.loadON p22 5 rfl ty24 rfl rfl rfl ?_
  refine CallVC.ret (of_spec 3 2 _) ?_
  rintro _ h24 ⟨rfl, oc23⟩
  have p23 := oc23.thenE (by assumption)
  refine And.intro oc23.ext ?_
  refine StillVC.eqS pl24 rfl rfl rfl rfl ?_
  refine Br.tt ?_
  refine Br.tt ?_
  refine Br.tt ?_
  refine Br.tt ?_
  refine Br.tt ?_
  refine CallVC.ret (of_spec (-3) 2 _) ?_
  rintro _ h25 ⟨rfl, oc24⟩
  have p24 := oc24.thenE (by assumption)
  refine CallVC.ret (text_spec (-3, 2) _ (by unfold i64P; decide) (ht.ext (Own.ext (by assumption)))) ?_
  rintro _ h26 ⟨rfl, oc25⟩
  rw [ex9]
  have p25 := oc25.thenE (by assumption)
  refine Br.tt ?_
  refine CallVC.ret (of_spec (-3) 2 _) ?_
  rintro _ h27 ⟨rfl, oc26⟩
  have p26 := oc26.thenE (by assumption)
  refine CallVC.ret (valid_spec (-3, 2) _ (by unfold i64P; decide)) ?_
  rintro _ h28 ⟨rfl, oc27⟩
  rw [ex10]
  have p27 := oc27.thenE (by assumption)
  refine Br.tt ?_
  refine CallVC.ret (of_spec 2 4 _) ?_
  rintro _ h29 ⟨rfl, oc28⟩
  have p28 := oc28.thenE (by assumption)
  refine CallVC.ret (valid_spec (2, 4) _ (by unfold i64P; decide)) ?_
  rintro _ h30 ⟨rfl, oc29⟩
  rw [ex11]
  have p29 := oc29.thenE (by assumption)
  refine Br.tt ?_
  refine CallVC.ret (of_spec 1 3 _) ?_
  rintro _ h31 ⟨rfl, oc30⟩
  have p30 := oc30.thenE (by assumption)
  refine CallVC.ret (of_spec 1 2 _) ?_
  rintro _ h32 ⟨rfl, oc31⟩
  have p31 := oc31.thenE (by assumption)
  refine CallVC.ret (cmp_spec (1, 3) (1, 2) _ (by unfold i64P; decide) (by unfold i64P; decide)) ?_
  rintro _ h33 ⟨rfl, oc32⟩
  rw [ex12]
  have p32 := oc32.thenE (by assumption)
  refine RetVC.one rfl ?_
  exact ⟨rfl, Own.sel (by assumption) [] rfl⟩

end Go.Proofs.YtemijanhigjmmaaDoor
