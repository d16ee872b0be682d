/-
 The walk of ParserJoins. The check of the examples.
-/
import Derived.Test.YtnmfanjhepepbaaGreatDoorNStructs
import Derived.Test.YtnmfanjhepepbaaGreatDoorNMPl
import Derived.Test.YtnmfanjhepepbaaGreatDoorNMPd
import Derived.Test.YtnmfanjhepepbaaGreatDoorNMSm
set_option linter.all false
/- The walk of ParserJoins. -/
namespace Go.Proofs.YtnmfanjhepepbaaGreatDoor
open Go StillVC

theorem bpost_item {N : Nat} (z : Nat) (hN : 1 ≤ N) : BPost N (itemP z) (ItB (N + 1)) := by
 intro ts x r hl h
 cases ts with
 | nil => rw [itemP_nil] at h; cases h
 | cons t q =>
  rw [itemP_G] at h
  refine (bpost_bind (N := N) (φ := ItB (N + 1)) (Dec.word _ _ _) fun k => bpost_bind (Dec.ifP (Dec.name z)) fun nm => bpost_from (Dec.part z k _) (bpost_part z hN k ?_) fun x hx => bpost_bind (Dec.need _ _) fun _ => bpost_pure hx) _ _ _ hl h
  refine ⟨by simp [x0, it0], by simp [x0, it0], by simp [x0, it0], by simp [x0, it0], by simp [x0, it0], by simp [x0, it0], ?_⟩
  show ExB (N + 1) ex0
  exact exB_mk (by simp) (by simp) (by simp) trivial

theorem Its.bound {N z : Nat} (hN : 1 ≤ N) {ts : List Tok} {xs : List It} (h : Its z ts xs) : ts.length ≤ N → ∀ x ∈ xs, ItB (N + 1) x := by
 induction h with
 | nil => intro _ x hx; cases hx
 | cons hp _ ih =>
  intro hl x hx
  rcases List.mem_cons.1 hx with rfl | hx
  ·exact bpost_item z hN _ _ _ hl hp
  ·exact ih (by have := itemP_lt hp; omega) x hx

end Go.Proofs.YtnmfanjhepepbaaGreatDoor

/- The check of the examples. -/
namespace Go.Proofs.YtnmfanjhepepbaaGreatDoor
open Go StillVC

/-- Parse at a text without an error. -/
theorem parse_ok {t : List UInt8} {xs : List It} (hl : t.length ≤ 20000) (hM : parseM t = .ok xs) (h : Heap) (hW : WordsH h) :
  SpecR Tryz.prog 8 [.string ⟨⟨t⟩⟩] h fun v h' => ∃ u I, v = .tuple ⟨[.agg ⟨[u]⟩, .int .i64 0, .int .i64 0]⟩ ∧ progR I u xs ∧ Own h [I] h' := by
 refine (parse_spec t h (by omega) hW).mono fun v h' hp => ?_
 rw [ParsePost, if_neg (by omega), hM] at hp
 exact hp

theorem parse_err {t : List UInt8} {e : Int} {i : Nat} (hl : t.length ≤ 20000) (hM : parseM t = .error (e, i)) (h : Heap) (hW : WordsH h) :
  SpecR Tryz.prog 8 [.string ⟨⟨t⟩⟩] h fun v h' => v = .tuple ⟨[.agg ⟨[nilV]⟩, .int .i64 e, .int .i64 i]⟩ ∧ Own h [] h' := by
 refine (parse_spec t h (by omega) hW).mono fun v h' hp => ?_
 rw [ParsePost, if_neg (by omega), hM] at hp
 exact hp

theorem progR_one {I : Item} {u : Value} {x : It} (h : progR I u [x]) : ∃ c, Reads I 25 u 1 c ∧ itR I c x := by
 obtain ⟨cs, r, k⟩ := h
 match cs, k with
 | [c], k => exact ⟨c, by simpa using r, k.1⟩

theorem progR_two {I : Item} {u : Value} {x y : It} (h : progR I u [x, y]) : ∃ c d, Reads I 25 u 2 (c ++ d) ∧ itR I c x ∧ itR I d y := by
 obtain ⟨cs, r, k⟩ := h
 match cs, k with
 | [c, d], k => exact ⟨c, d, by simpa using r, k.1, k.2.1⟩

theorem dp_opd : deepP Tryz.prog 5 56 = some (true, [3, 3, 1, 2, 2, 3]) := by kernel_rfl
theorem eg_opd : Tryz.prog.eqGuardType Tryz.prog.depth 56 = false := by kernel_rfl

theorem ex1 : parseM [115, 111, 117, 114, 99, 101, 32, 115, 32, 116, 114, 117, 115, 116, 32, 53, 59] = .ok [{ it0 with kind := 2, name := [115], n := 5 }] := by kernel_rfl
theorem ex2 : parseM [113, 117, 101, 114, 121, 32, 113, 32, 61, 32, 115, 101, 108, 101, 99, 116, 40, 115, 101, 108, 101, 99, 116, 32, 119, 104, 101, 114, 101, 32, 97, 32, 61, 32, 45, 49, 32, 43, 32, 50, 41, 59] = .ok [{ it0 with kind := 10, name := [113], expr := .mk 2 [] [.mk 1 [115, 101, 108, 101, 99, 116] [] [] [] [] [] 0 17] [⟨⟨[], [97], false, vl0⟩, 1, ⟨[], [], true, ⟨2, -1, []⟩⟩, 2⟩] [] [] [] 0 10 }] := by kernel_rfl
theorem ex5 : parseM [113, 117, 101, 114, 121, 32, 113, 32, 61, 32, 103, 114, 111, 117, 112, 40, 116, 32, 111, 110, 32, 119, 105, 116, 104, 32, 99, 111, 117, 110, 116, 32, 97, 115, 32, 110, 41, 59, 32, 107, 101, 101, 112, 32, 116, 46, 97, 32, 98, 121, 32, 109, 111, 115, 116, 59] = .ok [{ it0 with kind := 10, name := [113], expr := .mk 8 [] [.mk 1 [116] [] [] [] [] [] 0 16] [] [] [] [110] 1 10 }, { it0 with kind := 5, off := 39, table := [116], attr := [97], by_ := 2 }] := by kernel_rfl
theorem ex6 : parseM [109, 97, 116, 99, 104, 32, 109, 32, 111, 110, 32, 116, 32, 97, 116, 32, 55, 32, 123, 32, 97, 32, 110, 101, 97, 114, 32, 51, 32, 108, 101, 97, 115, 116, 32, 49, 47, 50, 32, 103, 105, 118, 101, 115, 32, 52, 59, 32, 98, 32, 101, 100, 105, 116, 32, 108, 101, 97, 115, 116, 32, 49, 32, 103, 105, 118, 101, 115, 32, 50, 32, 116, 97, 107, 101, 115, 32, 57, 59, 32, 125, 32, 100, 101, 110, 121, 32, 100, 32, 116, 32, 120, 44, 32, 117, 32, 121, 32, 119, 104, 101, 114, 101, 32, 120, 46, 97, 32, 60, 61, 32, 121, 46, 98, 32, 45, 32, 51, 32, 97, 110, 100, 32, 116, 114, 117, 101, 32, 33, 61, 32, 120, 46, 99, 59] = .ok [{ it0 with kind := 4, name := [109], table := [116], n := 7, terms := [⟨[97], 5, 3, 1, 2, 4, 0⟩, ⟨[98], 2, 0, 1, 1, 2, 9⟩] }, { it0 with kind := 9, name := [100], off := 82, vars := [⟨[120], [116]⟩, ⟨[121], [117]⟩], conds := [⟨⟨[120], [97], false, vl0⟩, 4, ⟨[121], [98], false, vl0⟩, -3⟩, ⟨⟨[], [], true, ⟨4, 1, []⟩⟩, 2, ⟨[120], [99], false, vl0⟩, 0⟩] }] := by kernel_rfl
theorem ex3 : parseM [113, 117, 101, 114, 121, 32, 113, 32, 61, 32, 116, 40] = .error (4, 11) := by kernel_rfl
theorem ex4 : parseM [107, 101, 101, 112, 32, 116, 46, 97, 32, 98, 121] = .error (7, 11) := by kernel_rfl

set_option maxHeartbeats 100000000 in
set_option maxRecDepth 100000 in
theorem head_spec (h : Heap) (hW : WordsH h) : SpecR Tryz.prog 7 [] h fun v h' => v = .bool true ∧ Own h [] h' := by
 refine Spec.enter Tryz.func7 rfl Tryz.ntmps7 (by kernel_rfl) ?_
 have o0 := Own.refl h
 refine CallVC.ret (parse_ok (by decide) ex1 _ (hW.ext (Own.ext (h := h) ‹_›))) ?_
 rintro _ h1 ⟨u1, I1, rfl, hp1, oc1⟩
 have o1 := Own.call ‹_› oc1
 simp only [List.nil_append] at o1
 clear oc1
 obtain ⟨c1_0, rp1, ri1_0⟩ := progR_one hp1
 obtain ⟨vc1_0, vn1_0, vt1_0, vf1_0, vv1_0, vd1_0, ea1_0, eb1_0, ec1_0, ed1_0, ee1_0, ef1_0, eg1_0, eh1_0, ei1_0, rfl, ra1_0, rb1_0, rc1_0, rd1_0, re1_0, rf1_0, rx1_0⟩ := ri1_0
 obtain ⟨ua1, uc1, rfl⟩ := rp1.isS (Own.satK o1 0 rfl)
 clear ra1_0 rb1_0 rc1_0 rd1_0 re1_0 rf1_0
 clear rx1_0
 (refine RunVC.alloc o1 ty25 ?_; intro b100 m100 o100)
 (refine RunVC.storeL o100 1 rfl ty25 rfl (by decide) (And.intro ⟨rfl, rfl⟩ ?_); intro m101 o101)
 refine CallVC.ret (parse_ok (by decide) ex2 _ (hW.ext (Own.ext (h := m101) ‹_›))) ?_
 rintro _ h2 ⟨u2, I2, rfl, hp2, oc2⟩
 have o2 := Own.call ‹_› oc2
 simp only [lcA, lnA] at o2
 clear oc2
 obtain ⟨c2_0, rp2, ri2_0⟩ := progR_one hp2
 obtain ⟨vc2_0, vn2_0, vt2_0, vf2_0, vv2_0, vd2_0, ea2_0, eb2_0, ec2_0, ed2_0, ee2_0, ef2_0, eg2_0, eh2_0, ei2_0, rfl, ra2_0, rb2_0, rc2_0, rd2_0, re2_0, rf2_0, rx2_0⟩ := ri2_0
 obtain ⟨ua2, uc2, rfl⟩ := rp2.isS (Own.satK o2 2 rfl)
 simp only [exR] at rx2_0
 obtain ⟨xk2, xc2, xn2, hq2, rxc2, rxn2, xs2, rxk2, rxx2⟩ := rx2_0
 unfold exC at hq2
 simp only [List.cons.injEq, and_true] at hq2
 obtain ⟨rfl, rfl, rfl, rfl, rfl, rfl, rfl, rfl, rfl⟩ := hq2
 replace rxk2 : Reads I2 9 _ 1 _ := rxk2
 obtain ⟨pxk2, qxk2, rfl⟩ := rxk2.isS (Own.satK o2 2 rfl)
 replace rxc2 : Reads I2 14 _ 1 _ := rxc2
 obtain ⟨pxc2, qxc2, rfl⟩ := rxc2.isS (Own.satK o2 2 rfl)
 replace rxn2 : Reads I2 1 _ 0 _ := rxn2
 obtain ⟨pxn2, qxn2, rfl⟩ := rxn2.isS (Own.satK o2 2 rfl)
 clear ra2_0 rb2_0 rc2_0 rd2_0 re2_0 rf2_0
 obtain ⟨cc2, hxs2, hkid⟩ : ∃ c : Cells9, xs2 = [c] ∧ exR I2 c.1 (.mk 1 [115, 101, 108, 101, 99, 116] [] [] [] [] [] 0 17) := by
  match xs2, rxx2 with
  | [c], k => exact ⟨c, rfl, k.1⟩
 subst hxs2
 obtain ⟨cc2, hcl2⟩ := cc2
 simp only [exR] at hkid
 obtain ⟨gk, gc, gn, rfl, hg1, hg2, gs, hg3, hg4⟩ := hkid
 clear hg1 hg2 hg3 hg4 rxx2 rxn2
 (refine RunVC.alloc o2 ty25 ?_; intro b200 m200 o200)
 (refine RunVC.storeL o200 3 rfl ty25 rfl (by decide) (And.intro ⟨rfl, rfl⟩ ?_); intro m201 o201)
 refine CallVC.ret (parse_err (by decide) ex3 _ (hW.ext (Own.ext (h := m201) ‹_›))) ?_
 rintro _ h3 ⟨rfl, oc3⟩
 have o3 := oc3.thenE ‹_›
 clear oc3
 (refine RunVC.alloc o3 ty25 ?_; intro b300 m300 o300)
 (refine RunVC.storeL o300 4 rfl ty25 rfl (by decide) (And.intro ⟨rfl, rfl⟩ ?_); intro m301 o301)
 refine CallVC.ret (parse_err (by decide) ex4 _ (hW.ext (Own.ext (h := m301) ‹_›))) ?_
 rintro _ h4 ⟨rfl, oc4⟩
 have o4 := oc4.thenE ‹_›
 clear oc4
 (refine RunVC.alloc o4 ty25 ?_; intro b400 m400 o400)
 (refine RunVC.storeL o400 5 rfl ty25 rfl (by decide) (And.intro ⟨rfl, rfl⟩ ?_); intro m401 o401)
 refine CallVC.ret (parse_ok (by decide) ex5 _ (hW.ext (Own.ext (h := m401) ‹_›))) ?_
 rintro _ h5 ⟨u5, I5, rfl, hp5, oc5⟩
 have o5 := Own.call ‹_› oc5
 simp only [lcA, lnA] at o5
 clear oc5
 obtain ⟨c5_0, c5_1, rp5, ri5_0, ri5_1⟩ := progR_two hp5
 obtain ⟨vc5_0, vn5_0, vt5_0, vf5_0, vv5_0, vd5_0, ea5_0, eb5_0, ec5_0, ed5_0, ee5_0, ef5_0, eg5_0, eh5_0, ei5_0, rfl, ra5_0, rb5_0, rc5_0, rd5_0, re5_0, rf5_0, rx5_0⟩ := ri5_0
 obtain ⟨vc5_1, vn5_1, vt5_1, vf5_1, vv5_1, vd5_1, ea5_1, eb5_1, ec5_1, ed5_1, ee5_1, ef5_1, eg5_1, eh5_1, ei5_1, rfl, ra5_1, rb5_1, rc5_1, rd5_1, re5_1, rf5_1, rx5_1⟩ := ri5_1
 obtain ⟨ua5, uc5, rfl⟩ := rp5.isS (Own.satK o5 6 rfl)
 simp only [exR] at rx5_0
 obtain ⟨xk5, xc5, xn5, hq5, rxc5, rxn5, xs5, rxk5, rxx5⟩ := rx5_0
 unfold exC at hq5
 simp only [List.cons.injEq, and_true] at hq5
 obtain ⟨rfl, rfl, rfl, rfl, rfl, rfl, rfl, rfl, rfl⟩ := hq5
 replace rxk5 : Reads I5 9 _ 1 _ := rxk5
 obtain ⟨pxk5, qxk5, rfl⟩ := rxk5.isS (Own.satK o5 6 rfl)
 replace rxc5 : Reads I5 14 _ 0 _ := rxc5
 obtain ⟨pxc5, qxc5, rfl⟩ := rxc5.isS (Own.satK o5 6 rfl)
 replace rxn5 : Reads I5 1 _ 0 _ := rxn5
 obtain ⟨pxn5, qxn5, rfl⟩ := rxn5.isS (Own.satK o5 6 rfl)
 clear ra5_0 rb5_0 rc5_0 rd5_0 re5_0 rf5_0
 clear ra5_1 rb5_1 rc5_1 rd5_1 re5_1 rf5_1
 clear rx5_1
 clear rxx5 rxk5 rxc5 rxn5
 (refine RunVC.alloc o5 ty25 ?_; intro b500 m500 o500)
 (refine RunVC.storeL o500 7 rfl ty25 rfl (by decide) (And.intro ⟨rfl, rfl⟩ ?_); intro m501 o501)
 refine CallVC.ret (parse_ok (by decide) ex6 _ (hW.ext (Own.ext (h := m501) ‹_›))) ?_
 rintro _ h6 ⟨u6, I6, rfl, hp6, oc6⟩
 have o6 := Own.call ‹_› oc6
 simp only [lcA, lnA] at o6
 clear oc6
 obtain ⟨c6_0, c6_1, rp6, ri6_0, ri6_1⟩ := progR_two hp6
 obtain ⟨vc6_0, vn6_0, vt6_0, vf6_0, vv6_0, vd6_0, ea6_0, eb6_0, ec6_0, ed6_0, ee6_0, ef6_0, eg6_0, eh6_0, ei6_0, rfl, ra6_0, rb6_0, rc6_0, rd6_0, re6_0, rf6_0, rx6_0⟩ := ri6_0
 obtain ⟨vc6_1, vn6_1, vt6_1, vf6_1, vv6_1, vd6_1, ea6_1, eb6_1, ec6_1, ed6_1, ee6_1, ef6_1, eg6_1, eh6_1, ei6_1, rfl, ra6_1, rb6_1, rc6_1, rd6_1, re6_1, rf6_1, rx6_1⟩ := ri6_1
 obtain ⟨ua6, uc6, rfl⟩ := rp6.isS (Own.satK o6 8 rfl)
 replace rc6_0 : Reads I6 7 _ 2 _ := rc6_0
 obtain ⟨tvt6_0, svt6_0, rfl⟩ := rc6_0.isS (Own.satK o6 8 rfl)
 clear ra6_0 rb6_0 rd6_0 re6_0 rf6_0
 clear rx6_0
 replace re6_1 : Reads I6 2 _ 2 _ := re6_1
 obtain ⟨tvv6_1, svv6_1, rfl⟩ := re6_1.isS (Own.satK o6 8 rfl)
 replace rf6_1 : Reads I6 14 _ 2 _ := rf6_1
 obtain ⟨tvd6_1, svd6_1, rfl⟩ := rf6_1.isS (Own.satK o6 8 rfl)
 clear ra6_1 rb6_1 rc6_1 rd6_1 re6_1
 clear rx6_1
 (refine RunVC.alloc o6 ty25 ?_; intro b600 m600 o600)
 (refine RunVC.storeL o600 9 rfl ty25 rfl (by decide) (And.intro ⟨rfl, rfl⟩ ?_); intro m601 o601)
 refine Br.ff ?_
 refine Br.ff ?_
 refine Br.ff ?_
 refine Br.ff ?_
 refine run (fieldAddr st25 rfl rfl rfl ?_)
 refine run (loadO o601 1 rfl ty23 rfl rfl ?_)
 refine run (lenV rfl sl23 ?_)
 refine Br.ff ?_
 refine run (fieldAddr st25 rfl rfl rfl ?_)
 refine run (loadO o601 3 rfl ty23 rfl rfl ?_)
 refine run (lenV rfl sl23 ?_)
 refine Br.ff ?_
 refine run (fieldAddr st25 rfl rfl rfl ?_)
 refine run (loadO o601 7 rfl ty23 rfl rfl ?_)
 refine run (lenV rfl sl23 ?_)
 refine Br.ff ?_
 refine run (fieldAddr st25 rfl rfl rfl ?_)
 refine run (loadO o601 9 rfl ty23 rfl rfl ?_)
 refine run (lenV rfl sl23 ?_)
 refine Br.ff ?_
 refine run (fieldAddr st25 rfl rfl rfl ?_)
 refine run (loadO o601 3 rfl ty23 rfl rfl ?_)
 refine run (idxN sl23 ty51 (o601.reads 2 rp2 rfl) rfl (by omega) (by omega) ?_)
 refine run (fieldAdr (o601.reads 2 rp2 rfl) (by omega) st51 rfl rfl rfl ?_)
 refine run (loadAN (o601.reads 2 rp2 rfl) ty49 rfl rfl rfl (by decide) ?_)
 (refine RunVC.alloc o601 ty49 ?_; intro b619 m619 o619)
 (refine RunVC.storeL o619 10 rfl ty49 rfl (by decide) (And.intro ⟨rfl, rfl⟩ ?_); intro m620 o620)
 refine Br.ff ?_
 refine run (fieldAddr st49 rfl rfl rfl ?_)
 refine run (loadO o620 10 rfl ty47 rfl rfl ?_)
 refine run (lenV rfl sl47 ?_)
 refine Br.ff ?_
 refine run (fieldAddr st49 rfl rfl rfl ?_)
 refine run (loadO o620 10 rfl ty46 rfl rfl ?_)
 refine run (lenV rfl sl46 ?_)
 refine Br.ff ?_
 refine run (fieldAddr st25 rfl rfl rfl ?_)
 refine run (loadO o620 9 rfl ty23 rfl rfl ?_)
 refine run (idxN sl23 ty51 (o620.reads 8 rp6 rfl) rfl (by omega) (by omega) ?_)
 refine run (fieldAdr (o620.reads 8 rp6 rfl) (by omega) st51 rfl rfl rfl ?_)
 refine run (loadA1 (o620.reads 8 rp6 rfl) ty43 rfl rfl ?_)
 refine run (lenV rfl sl43 ?_)
 refine Br.ff ?_
 refine run (fieldAddr st25 rfl rfl rfl ?_)
 refine run (loadO o620 9 rfl ty23 rfl rfl ?_)
 refine run (idxN sl23 ty51 (o620.reads 8 rp6 rfl) rfl (by omega) (by omega) ?_)
 refine run (fieldAdr (o620.reads 8 rp6 rfl) (by omega) st51 rfl rfl rfl ?_)
 refine run (loadA1 (o620.reads 8 rp6 rfl) ty46 rfl rfl ?_)
 refine run (lenV rfl sl46 ?_)
 refine Br.ff ?_
 refine run (fieldAddr st25 rfl rfl rfl ?_)
 refine run (loadO o620 9 rfl ty23 rfl rfl ?_)
 refine run (idxN sl23 ty51 (o620.reads 8 rp6 rfl) rfl (by omega) (by omega) ?_)
 refine run (fieldAdr (o620.reads 8 rp6 rfl) (by omega) st51 rfl rfl rfl ?_)
 refine run (loadA1 (o620.reads 8 rp6 rfl) ty45 rfl rfl ?_)
 refine run (lenV rfl sl45 ?_)
 refine Br.ff ?_
 refine run (fieldAddr st25 rfl rfl rfl ?_)
 refine run (loadO o620 1 rfl ty23 rfl rfl ?_)
 refine run (idxN sl23 ty51 (o620.reads 0 rp1 rfl) rfl (by omega) (by omega) ?_)
 refine run (fieldAdr (o620.reads 0 rp1 rfl) (by omega) st51 rfl rfl rfl ?_)
 refine run (loadA1 (o620.reads 0 rp1 rfl) ty3 rfl rfl ?_)
 refine Br.tt ?_
 refine run (fieldAddr st25 rfl rfl rfl ?_)
 refine run (loadO o620 1 rfl ty23 rfl rfl ?_)
 refine run (idxN sl23 ty51 (o620.reads 0 rp1 rfl) rfl (by omega) (by omega) ?_)
 refine run (fieldAdr (o620.reads 0 rp1 rfl) (by omega) st51 rfl rfl rfl ?_)
 refine run (loadA1 (o620.reads 0 rp1 rfl) ty9 rfl rfl ?_)
 refine Br.tt ?_
 refine run (fieldAddr st25 rfl rfl rfl ?_)
 refine run (loadO o620 1 rfl ty23 rfl rfl ?_)
 refine run (idxN sl23 ty51 (o620.reads 0 rp1 rfl) rfl (by omega) (by omega) ?_)
 refine run (fieldAdr (o620.reads 0 rp1 rfl) (by omega) st51 rfl rfl rfl ?_)
 refine run (loadA1 (o620.reads 0 rp1 rfl) ty3 rfl rfl ?_)
 refine Br.tt ?_
 refine run (fieldAddr st49 rfl rfl rfl ?_)
 refine run (loadO o620 10 rfl ty3 rfl rfl ?_)
 refine Br.tt ?_
 refine run (fieldAddr st49 rfl rfl rfl ?_)
 refine run (loadO o620 10 rfl ty3 rfl rfl ?_)
 refine Br.tt ?_
 refine run (fieldAddr st49 rfl rfl rfl ?_)
 refine run (loadO o620 10 rfl ty47 rfl rfl ?_)
 refine run (idxN sl47 ty49 (o620.reads 2 rxk2 rfl) rfl (by omega) (by omega) ?_)
 refine run (fieldAdr (o620.reads 2 rxk2 rfl) (by omega) st49 rfl rfl rfl ?_)
 refine run (loadA1 (o620.reads 2 rxk2 rfl) ty9 rfl rfl ?_)
 refine Br.tt ?_
 refine run (fieldAddr st49 rfl rfl rfl ?_)
 refine run (loadO o620 10 rfl ty46 rfl rfl ?_)
 refine run (idxN sl46 ty58 (o620.reads 2 rxc2 rfl) rfl (by omega) (by omega) ?_)
 refine run (fieldAdr (o620.reads 2 rxc2 rfl) (by omega) st58 rfl rfl rfl ?_)
 refine run (loadAN (o620.reads 2 rxc2 rfl) ty56 rfl rfl rfl (by decide) ?_)
 refine run (buildK st56 ?_)
 refine And.intro rfl ?_
 refine RunVC.eqSelf dp_opd eg_opd rfl rfl rfl ?_
 refine Br.tt ?_
 refine run (fieldAddr st49 rfl rfl rfl ?_)
 refine run (loadO o620 10 rfl ty46 rfl rfl ?_)
 refine run (idxN sl46 ty58 (o620.reads 2 rxc2 rfl) rfl (by omega) (by omega) ?_)
 refine run (fieldAdr (o620.reads 2 rxc2 rfl) (by omega) st58 rfl rfl rfl ?_)
 refine run (fieldAdr (o620.reads 2 rxc2 rfl) (by omega) st56 rfl rfl rfl ?_)
 refine run (fieldAdr (o620.reads 2 rxc2 rfl) (by omega) st54 rfl rfl rfl ?_)
 refine run (loadA1 (o620.reads 2 rxc2 rfl) ty3 rfl rfl ?_)
 refine Br.tt ?_
 refine run (fieldAddr st49 rfl rfl rfl ?_)
 refine run (loadO o620 10 rfl ty46 rfl rfl ?_)
 refine run (idxN sl46 ty58 (o620.reads 2 rxc2 rfl) rfl (by omega) (by omega) ?_)
 refine run (fieldAdr (o620.reads 2 rxc2 rfl) (by omega) st58 rfl rfl rfl ?_)
 refine run (loadA1 (o620.reads 2 rxc2 rfl) ty3 rfl rfl ?_)
 refine Br.tt ?_
 refine Br.tt ?_
 refine Br.tt ?_
 refine Br.tt ?_
 refine run (fieldAddr st25 rfl rfl rfl ?_)
 refine run (loadO o620 7 rfl ty23 rfl rfl ?_)
 refine run (idxN sl23 ty51 (o620.reads 6 rp5 rfl) rfl (by omega) (by omega) ?_)
 refine run (fieldAdr (o620.reads 6 rp5 rfl) (by omega) st51 rfl rfl rfl ?_)
 refine run (fieldAdr (o620.reads 6 rp5 rfl) (by omega) st49 rfl rfl rfl ?_)
 refine run (loadA1 (o620.reads 6 rp5 rfl) ty3 rfl rfl ?_)
 refine Br.tt ?_
 refine run (fieldAddr st25 rfl rfl rfl ?_)
 refine run (loadO o620 7 rfl ty23 rfl rfl ?_)
 refine run (idxN sl23 ty51 (o620.reads 6 rp5 rfl) rfl (by omega) (by omega) ?_)
 refine run (fieldAdr (o620.reads 6 rp5 rfl) (by omega) st51 rfl rfl rfl ?_)
 refine run (fieldAdr (o620.reads 6 rp5 rfl) (by omega) st49 rfl rfl rfl ?_)
 refine run (loadA1 (o620.reads 6 rp5 rfl) ty42 rfl rfl ?_)
 refine run (lenV rfl sl42 ?_)
 refine Br.tt ?_
 refine run (fieldAddr st25 rfl rfl rfl ?_)
 refine run (loadO o620 7 rfl ty23 rfl rfl ?_)
 refine run (idxN sl23 ty51 (o620.reads 6 rp5 rfl) rfl (by omega) (by omega) ?_)
 refine run (fieldAdr (o620.reads 6 rp5 rfl) (by omega) st51 rfl rfl rfl ?_)
 refine run (loadA1 (o620.reads 6 rp5 rfl) ty3 rfl rfl ?_)
 refine Br.tt ?_
 refine run (fieldAddr st25 rfl rfl rfl ?_)
 refine run (loadO o620 7 rfl ty23 rfl rfl ?_)
 refine run (idxN sl23 ty51 (o620.reads 6 rp5 rfl) rfl (by omega) (by omega) ?_)
 refine run (fieldAdr (o620.reads 6 rp5 rfl) (by omega) st51 rfl rfl rfl ?_)
 refine run (loadA1 (o620.reads 6 rp5 rfl) ty3 rfl rfl ?_)
 refine run (fieldAddr st25 rfl rfl rfl ?_)
 refine run (loadO o620 9 rfl ty23 rfl rfl ?_)
 refine run (idxN sl23 ty51 (o620.reads 8 rp6 rfl) rfl (by omega) (by omega) ?_)
 refine run (fieldAdr (o620.reads 8 rp6 rfl) (by omega) st51 rfl rfl rfl ?_)
 refine run (loadA1 (o620.reads 8 rp6 rfl) ty46 rfl rfl ?_)
 refine run (idxN sl46 ty58 (o620.reads 8 rf6_1 rfl) rfl (by omega) (by omega) ?_)
 refine run (loadAN (o620.reads 8 rf6_1 rfl) ty58 rfl rfl rfl (by decide) ?_)
 (refine RunVC.alloc o620 ty58 ?_; intro b718 m718 o718)
 (refine RunVC.storeL o718 11 rfl ty58 rfl (by decide) (And.intro ⟨rfl, rfl⟩ ?_); intro m719 o719)
 refine Br.tt ?_
 refine Br.tt ?_
 refine run (fieldAddr st25 rfl rfl rfl ?_)
 refine run (loadO o719 9 rfl ty23 rfl rfl ?_)
 refine run (idxN sl23 ty51 (o719.reads 8 rp6 rfl) rfl (by omega) (by omega) ?_)
 refine run (fieldAdr (o719.reads 8 rp6 rfl) (by omega) st51 rfl rfl rfl ?_)
 refine run (loadA1 (o719.reads 8 rp6 rfl) ty43 rfl rfl ?_)
 refine run (idxN sl43 ty62 (o719.reads 8 rc6_0 rfl) rfl (by omega) (by omega) ?_)
 refine run (loadAN (o719.reads 8 rc6_0 rfl) ty62 rfl rfl rfl (by decide) ?_)
 refine run (buildK st60 ?_)
 refine And.intro rfl ?_
 refine And.intro rfl ?_
 refine run (buildK st62 ?_)
 refine And.intro rfl ?_
 refine And.intro rfl ?_
 refine And.intro rfl ?_
 refine And.intro rfl ?_
 refine And.intro rfl ?_
 refine RunVC.eqSelf dp_term eg_term rfl rfl rfl ?_
 refine Br.tt ?_
 refine run (fieldAddr st25 rfl rfl rfl ?_)
 refine run (loadO o719 9 rfl ty23 rfl rfl ?_)
 refine run (idxN sl23 ty51 (o719.reads 8 rp6 rfl) rfl (by omega) (by omega) ?_)
 refine run (fieldAdr (o719.reads 8 rp6 rfl) (by omega) st51 rfl rfl rfl ?_)
 refine run (loadA1 (o719.reads 8 rp6 rfl) ty43 rfl rfl ?_)
 refine run (idxN sl43 ty62 (o719.reads 8 rc6_0 rfl) rfl (by omega) (by omega) ?_)
 refine run (fieldAdr (o719.reads 8 rc6_0 rfl) (by omega) st62 rfl rfl rfl ?_)
 refine run (loadA1 (o719.reads 8 rc6_0 rfl) ty3 rfl rfl ?_)
 refine Br.tt ?_
 refine run (fieldAddr st58 rfl rfl rfl ?_)
 refine run (loadON o719 11 rfl ty56 rfl rfl rfl ?_)
 refine run (buildK st56 ?_)
 refine And.intro rfl ?_
 refine And.intro rfl ?_
 refine RunVC.eqSelf dp_opd eg_opd rfl rfl rfl ?_
 refine Br.tt ?_
 refine run (fieldAddr st58 rfl rfl rfl ?_)
 refine run (loadO o719 11 rfl ty3 rfl rfl ?_)
 refine Br.tt ?_
 refine run (fieldAddr st58 rfl rfl rfl ?_)
 refine run (loadO o719 11 rfl ty3 rfl rfl ?_)
 refine Br.tt ?_
 refine run (fieldAddr st25 rfl rfl rfl ?_)
 refine run (loadO o719 9 rfl ty23 rfl rfl ?_)
 refine run (idxN sl23 ty51 (o719.reads 8 rp6 rfl) rfl (by omega) (by omega) ?_)
 refine run (fieldAdr (o719.reads 8 rp6 rfl) (by omega) st51 rfl rfl rfl ?_)
 refine run (loadA1 (o719.reads 8 rp6 rfl) ty46 rfl rfl ?_)
 refine run (idxN sl46 ty58 (o719.reads 8 rf6_1 rfl) rfl (by omega) (by omega) ?_)
 refine run (fieldAdr (o719.reads 8 rf6_1 rfl) (by omega) st58 rfl rfl rfl ?_)
 refine run (fieldAdr (o719.reads 8 rf6_1 rfl) (by omega) st56 rfl rfl rfl ?_)
 refine run (loadA1 (o719.reads 8 rf6_1 rfl) ty4 rfl rfl ?_)
 refine RetVC.one rfl ?_
 exact ⟨rfl, Own.sel ‹_› [] rfl⟩

end Go.Proofs.YtnmfanjhepepbaaGreatDoor
