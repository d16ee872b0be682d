/-
  The walk of ParserJoins. The check of the examples. The walk of ParserJoins.
-/
import Derived.Test.YtnmfanjhepepbaaGreatDoorStructs
import Derived.Test.YtnmfanjhepepbaaGreatDoorMPl
import Derived.Test.YtnmfanjhepepbaaGreatDoorMPd
import Derived.Test.YtnmfanjhepepbaaGreatDoorMSm
set_option linter.all false
/- The walk of ParserJoins. -/
namespace Go.Proofs.YtnmfanjhepepbaaGreatDoor
open Go

abbrev QA : Nat → Nat → Prop := fun _ _ => True

theorem bpost_item {N : Nat} (z : Nat) (hN : 1 ≤ N) : BPost N (itemP z) (ItB (N + 1)) := by
  intro ts x r hl h
  cases ts with
  | nil => rw [itemP_nil] at h; cases h
  | cons t q =>
    rw [itemP_G] at h
    refine (bpost_bind (N := N) (φ := ItB (N + 1)) (Dec.word _ _ _) fun k => bpost_bind (Dec.ifP (Dec.name z)) fun nm => bpost_from (Dec.part z k _) (bpost_part z hN k ?_) fun x hx => bpost_bind (Dec.need _ _) fun _ => bpost_pure hx) _ _ _ hl h
    refine ⟨by simp [x0, it0], by simp [x0, it0], by simp [x0, it0], by simp [x0, it0], by simp [x0, it0], by simp [x0, it0], ?_⟩
    show ExB (N + 1) ex0
    exact exB_mk (by simp) (by simp) (by simp) trivial

theorem Its.bound {N z : Nat} (hN : 1 ≤ N) {ts : List Tok} {xs : List It} (h : Its z ts xs) : ts.length ≤ N → ∀ x ∈ xs, ItB (N + 1) x := by
  induction h with
  | nil => intro _ x hx; cases hx
  | cons hp _ ih =>
    intro hl x hx
    rcases List.mem_cons.1 hx with rfl | hx
    · exact bpost_item z hN _ _ _ hl hp
    · exact ih (by have := itemP_lt hp; omega) x hx

/-- Parse: what it returns, and what is known of it. -/
theorem parse_cases {t : List UInt8} (hl : t.length ≤ 20000) (h : Heap) (hW : WordsH h) :
    SpecR Tryz.prog 8 [.string ⟨⟨t⟩⟩] h fun v h' => (∃ e i, parseM t = .error (e, i) ∧ e ≠ 0 ∧ v = .tuple ⟨[.agg ⟨[nilV]⟩, .int .i64 e, .int .i64 i]⟩ ∧ Own h [] h') ∨
      (∃ xs ts u c I, parseM t = .ok xs ∧ lexM t = .ok ts ∧ Its t.length ts xs ∧ xs.length ≤ 200 ∧ v = .tuple ⟨[.agg ⟨[.slice u xs.length c]⟩, .int .i64 0, .int .i64 0]⟩ ∧ progR I (.slice u xs.length c) xs ∧ Own h [I] h') := by
  refine (parse_spec t h (by omega) hW).mono fun v h' hp => ?_
  rw [ParsePost, if_neg (by omega)] at hp
  cases hM : parseM t with
  | error y =>
    obtain ⟨e, i⟩ := y
    rw [hM] at hp
    refine .inl ⟨e, i, rfl, ?_, hp⟩
    unfold parseM at hM
    cases hL : lexM t with
    | error y => rw [hL] at hM; cases hM; exact lexM_props.1 _ _ hL
    | ok ts => rw [hL] at hM; exact itemsA_errN _ _ _ _ _ _ hM
  | ok xs =>
    rw [hM] at hp
    obtain ⟨u, I, rfl, hr, ho⟩ := hp
    have hL : ∃ ts, lexM t = .ok ts := by
      unfold parseM at hM
      cases hL : lexM t with
      | error y => rw [hL] at hM; cases hM
      | ok ts => exact ⟨ts, rfl⟩
    obtain ⟨ts, hL⟩ := hL
    obtain ⟨h1, h2⟩ := (parseM_ok hL).1 hM
    obtain ⟨cs, r1, r2⟩ := hr
    obtain ⟨a, c, rfl⟩ := r1.isS (Own.satK ho 0 rfl)
    exact .inr ⟨xs, ts, a, c, I, rfl, hL, h1, h2, rfl, ⟨cs, r1, r2⟩, ho⟩

/-- Two programs with a line feed between them. -/
theorem joins_plain {s t : List UInt8} {xs ys : List It} (hs : s.length ≤ 2000) (ht : t.length ≤ 2000) (h1 : parseM s = .ok xs) (h2 : parseM t = .ok ys) (hl : xs.length + ys.length ≤ 200) : ∃ zs, parseM (s ++ 10 :: t) = .ok zs ∧ ItsQ QA (xs ++ ys) zs := by
  have tok : ∀ {s : List UInt8} {xs : List It}, parseM s = .ok xs → ∃ ts, lexM s = .ok ts := fun {s xs} h => by
    unfold parseM at h
    cases hL : lexM s with
    | error y => rw [hL] at h; cases h
    | ok ts => exact ⟨ts, rfl⟩
  obtain ⟨A, hA⟩ := tok h1
  obtain ⟨B, hB⟩ := tok h2
  obtain ⟨i1, _⟩ := (parseM_ok hA).1 h1
  obtain ⟨i2, _⟩ := (parseM_ok hB).1 h2
  have g1 := lexM_okG hA
  have g2 := lexM_okG hB
  have w1 := (LexG.wf _ _ _ _ (Nat.le_refl _) g1).1
  have w2 := (LexG.wf _ _ _ _ (Nat.le_refl _) g2).1
  have gj := LexG.join_nl g1 g2
  have hJ := lexM_eq (by simp; omega) gj
  simp only [shiftE, appE] at hJ gj
  have w3 := (LexG.wf _ _ _ _ (Nat.le_refl _) gj).1
  generalize hB' : (B.map fun x => (⟨x.kind, x.text, x.num, x.off + (0 + s.length + 1)⟩ : Tok)) = B' at hJ gj w3
  have te : TE QA B B' := by
    subst hB'
    clear hJ gj w3 g2 w2 i2 hB h2
    induction B with
    | nil => exact .nil
    | cons x B ih => exact .cons ⟨rfl, rfl, rfl, trivial⟩ ih
  obtain ⟨ys', j2, q2⟩ := i2.map (Q := QA) (z' := (s ++ 10 :: t).length) w2 w3.right.1 te
  obtain ⟨xs', j1, q1⟩ := i1.app (Q := QA) w1 w3.left.1 w3.right.1 (TE.refl (fun _ => trivial) A) j2
  refine ⟨xs' ++ ys', (parseM_ok hJ).2 ⟨j1, ?_⟩, q1.app q2⟩
  have := itsQ_len q1
  have := itsQ_len q2
  simp; omega

end Go.Proofs.YtnmfanjhepepbaaGreatDoor

/- The check of the examples. -/
namespace Go.Proofs.YtnmfanjhepepbaaGreatDoor
open Go

/-- Parse at a text without an error. -/
theorem parse_ok {t : List UInt8} {xs : List It} (hl : t.length ≤ 20000) (hM : parseM t = .ok xs) (h : Heap) (hW : WordsH h) :
    SpecR Tryz.prog 8 [.string ⟨⟨t⟩⟩] h fun v h' => ∃ u I, v = .tuple ⟨[.agg ⟨[u]⟩, .int .i64 0, .int .i64 0]⟩ ∧ progR I u xs ∧ Own h [I] h' := by
  refine (parse_spec t h (by omega) hW).mono fun v h' hp => ?_
  rw [ParsePost, if_neg (by omega), hM] at hp
  exact hp

theorem parse_err {t : List UInt8} {e : Int} {i : Nat} (hl : t.length ≤ 20000) (hM : parseM t = .error (e, i)) (h : Heap) (hW : WordsH h) :
    SpecR Tryz.prog 8 [.string ⟨⟨t⟩⟩] h fun v h' => v = .tuple ⟨[.agg ⟨[nilV]⟩, .int .i64 e, .int .i64 i]⟩ ∧ Own h [] h' := by
  refine (parse_spec t h (by omega) hW).mono fun v h' hp => ?_
  rw [ParsePost, if_neg (by omega), hM] at hp
  exact hp

theorem progR_one {I : Item} {u : Value} {x : It} (h : progR I u [x]) : ∃ c, Reads I 25 u 1 c ∧ itR I c x := by
  obtain ⟨cs, r, k⟩ := h
  match cs, k with
  | [c], k => exact ⟨c, by simpa using r, k.1⟩

theorem progR_two {I : Item} {u : Value} {x y : It} (h : progR I u [x, y]) : ∃ c d, Reads I 25 u 2 (c ++ d) ∧ itR I c x ∧ itR I d y := by
  obtain ⟨cs, r, k⟩ := h
  match cs, k with
  | [c, d], k => exact ⟨c, d, by simpa using r, k.1, k.2.1⟩

theorem dp_opd : deepP Tryz.prog 5 56 = some (true, [3, 3, 1, 2, 2, 3]) := by kernel_rfl
theorem eg_opd : Tryz.prog.eqGuardType Tryz.prog.depth 56 = false := by kernel_rfl

theorem ex1 : parseM [115, 111, 117, 114, 99, 101, 32, 115, 32, 116, 114, 117, 115, 116, 32, 53, 59] = .ok [{ it0 with kind := 2, name := [115], n := 5 }] := by kernel_rfl
theorem ex2 : parseM [113, 117, 101, 114, 121, 32, 113, 32, 61, 32, 115, 101, 108, 101, 99, 116, 40, 115, 101, 108, 101, 99, 116, 32, 119, 104, 101, 114, 101, 32, 97, 32, 61, 32, 45, 49, 32, 43, 32, 50, 41, 59] = .ok [{ it0 with kind := 10, name := [113], expr := .mk 2 [] [.mk 1 [115, 101, 108, 101, 99, 116] [] [] [] [] [] 0 17] [⟨⟨[], [97], false, vl0⟩, 1, ⟨[], [], true, ⟨2, -1, []⟩⟩, 2⟩] [] [] [] 0 10 }] := by kernel_rfl
theorem ex5 : parseM [113, 117, 101, 114, 121, 32, 113, 32, 61, 32, 103, 114, 111, 117, 112, 40, 116, 32, 111, 110, 32, 119, 105, 116, 104, 32, 99, 111, 117, 110, 116, 32, 97, 115, 32, 110, 41, 59, 32, 107, 101, 101, 112, 32, 116, 46, 97, 32, 98, 121, 32, 109, 111, 115, 116, 59] = .ok [{ it0 with kind := 10, name := [113], expr := .mk 8 [] [.mk 1 [116] [] [] [] [] [] 0 16] [] [] [] [110] 1 10 }, { it0 with kind := 5, off := 39, table := [116], attr := [97], by_ := 2 }] := by kernel_rfl
theorem ex6 : parseM [109, 97, 116, 99, 104, 32, 109, 32, 111, 110, 32, 116, 32, 97, 116, 32, 55, 32, 123, 32, 97, 32, 110, 101, 97, 114, 32, 51, 32, 108, 101, 97, 115, 116, 32, 49, 47, 50, 32, 103, 105, 118, 101, 115, 32, 52, 59, 32, 98, 32, 101, 100, 105, 116, 32, 108, 101, 97, 115, 116, 32, 49, 32, 103, 105, 118, 101, 115, 32, 50, 32, 116, 97, 107, 101, 115, 32, 57, 59, 32, 125, 32, 100, 101, 110, 121, 32, 100, 32, 116, 32, 120, 44, 32, 117, 32, 121, 32, 119, 104, 101, 114, 101, 32, 120, 46, 97, 32, 60, 61, 32, 121, 46, 98, 32, 45, 32, 51, 32, 97, 110, 100, 32, 116, 114, 117, 101, 32, 33, 61, 32, 120, 46, 99, 59] = .ok [{ it0 with kind := 4, name := [109], table := [116], n := 7, terms := [⟨[97], 5, 3, 1, 2, 4, 0⟩, ⟨[98], 2, 0, 1, 1, 2, 9⟩] }, { it0 with kind := 9, name := [100], off := 82, vars := [⟨[120], [116]⟩, ⟨[121], [117]⟩], conds := [⟨⟨[120], [97], false, vl0⟩, 4, ⟨[121], [98], false, vl0⟩, -3⟩, ⟨⟨[], [], true, ⟨4, 1, []⟩⟩, 2, ⟨[120], [99], false, vl0⟩, 0⟩] }] := by kernel_rfl
theorem ex3 : parseM [113, 117, 101, 114, 121, 32, 113, 32, 61, 32, 116, 40] = .error (4, 11) := by kernel_rfl
theorem ex4 : parseM [107, 101, 101, 112, 32, 116, 46, 97, 32, 98, 121] = .error (7, 11) := by kernel_rfl

set_option maxHeartbeats 100000000 in
set_option maxRecDepth 100000 in
theorem head_spec (h : Heap) (hW : WordsH h) : SpecR Tryz.prog 7 [] h fun v h' => v = .bool true ∧ Own h [] h' := by
  refine Spec.enter Tryz.func7 rfl Tryz.ntmps7 (by kernel_rfl) ?_
  have o0 := Own.refl h
  refine CallVC.ret (parse_ok (by decide) ex1 _ (hW.ext (Own.ext (h := h) (by assumption)))) ?_
  rintro _ h1 ⟨u1, I1, rfl, hp1, oc1⟩
  have o1 := Own.call (by assumption) oc1
  simp only [List.nil_append] at o1
  clear oc1
  obtain ⟨c1_0, rp1, ri1_0⟩ := progR_one hp1
  obtain ⟨vc1_0, vn1_0, vt1_0, vf1_0, vv1_0, vd1_0, ea1_0, eb1_0, ec1_0, ed1_0, ee1_0, ef1_0, eg1_0, eh1_0, ei1_0, rfl, ra1_0, rb1_0, rc1_0, rd1_0, re1_0, rf1_0, rx1_0⟩ := ri1_0
  obtain ⟨ua1, uc1, rfl⟩ := rp1.isS (Own.satK o1 0 rfl)
  clear ra1_0 rb1_0 rc1_0 rd1_0 re1_0 rf1_0
  clear rx1_0
  (refine RunVC.alloc o1 ty25 ?_; intro b100 m100 o100)
  (refine RunVC.storeL o100 1 rfl ty25 rfl (by decide) (And.intro ⟨rfl, rfl⟩ ?_); intro m101 o101)
  refine CallVC.ret (parse_ok (by decide) ex2 _ (hW.ext (Own.ext (h := m101) (by assumption)))) ?_
  rintro _ h2 ⟨u2, I2, rfl, hp2, oc2⟩
  have o2 := Own.call (by assumption) oc2
  simp only [List.cons_append, List.nil_append] at o2
  clear oc2
  obtain ⟨c2_0, rp2, ri2_0⟩ := progR_one hp2
  obtain ⟨vc2_0, vn2_0, vt2_0, vf2_0, vv2_0, vd2_0, ea2_0, eb2_0, ec2_0, ed2_0, ee2_0, ef2_0, eg2_0, eh2_0, ei2_0, rfl, ra2_0, rb2_0, rc2_0, rd2_0, re2_0, rf2_0, rx2_0⟩ := ri2_0
  obtain ⟨ua2, uc2, rfl⟩ := rp2.isS (Own.satK o2 2 rfl)
  simp only [exR] at rx2_0
  obtain ⟨xk2, xc2, xn2, hq2, rxc2, rxn2, xs2, rxk2, rxx2⟩ := rx2_0
  unfold exC at hq2
  simp only [List.cons.injEq, and_true] at hq2
  obtain ⟨rfl, rfl, rfl, rfl, rfl, rfl, rfl, rfl, rfl⟩ := hq2
  replace rxk2 : Reads I2 9 _ 1 _ := rxk2
  obtain ⟨pxk2, qxk2, rfl⟩ := rxk2.isS (Own.satK o2 2 rfl)
  replace rxc2 : Reads I2 14 _ 1 _ := rxc2
  obtain ⟨pxc2, qxc2, rfl⟩ := rxc2.isS (Own.satK o2 2 rfl)
  replace rxn2 : Reads I2 1 _ 0 _ := rxn2
  obtain ⟨pxn2, qxn2, rfl⟩ := rxn2.isS (Own.satK o2 2 rfl)
  clear ra2_0 rb2_0 rc2_0 rd2_0 re2_0 rf2_0
  obtain ⟨cc2, hxs2, hkid⟩ : ∃ c : Cells9, xs2 = [c] ∧ exR I2 c.1 (.mk 1 [115, 101, 108, 101, 99, 116] [] [] [] [] [] 0 17) := by
    match xs2, rxx2 with
    | [c], k => exact ⟨c, rfl, k.1⟩
  subst hxs2
  obtain ⟨cc2, hcl2⟩ := cc2
  simp only [exR] at hkid
  obtain ⟨gk, gc, gn, rfl, hg1, hg2, gs, hg3, hg4⟩ := hkid
  clear hg1 hg2 hg3 hg4 rxx2 rxn2
  (refine RunVC.alloc o2 ty25 ?_; intro b200 m200 o200)
  (refine RunVC.storeL o200 3 rfl ty25 rfl (by decide) (And.intro ⟨rfl, rfl⟩ ?_); intro m201 o201)
  refine CallVC.ret (parse_err (by decide) ex3 _ (hW.ext (Own.ext (h := m201) (by assumption)))) ?_
  rintro _ h3 ⟨rfl, oc3⟩
  have o3 := oc3.thenE (by assumption)
  clear oc3
  (refine RunVC.alloc o3 ty25 ?_; intro b300 m300 o300)
  (refine RunVC.storeL o300 4 rfl ty25 rfl (by decide) (And.intro ⟨rfl, rfl⟩ ?_); intro m301 o301)
  refine CallVC.ret (parse_err (by decide) ex4 _ (hW.ext (Own.ext (h := m301) (by assumption)))) ?_
  rintro _ h4 ⟨rfl, oc4⟩
  have o4 := oc4.thenE (by assumption)
  clear oc4
  (refine RunVC.alloc o4 ty25 ?_; intro b400 m400 o400)
  (refine RunVC.storeL o400 5 rfl ty25 rfl (by decide) (And.intro ⟨rfl, rfl⟩ ?_); intro m401 o401)
  refine CallVC.ret (parse_ok (by decide) ex5 _ (hW.ext (Own.ext (h := m401) (by assumption)))) ?_
  rintro _ h5 ⟨u5, I5, rfl, hp5, oc5⟩
  have o5 := Own.call (by assumption) oc5
  simp only [List.cons_append, List.nil_append] at o5
  clear oc5
  obtain ⟨c5_0, c5_1, rp5, ri5_0, ri5_1⟩ := progR_two hp5
  obtain ⟨vc5_0, vn5_0, vt5_0, vf5_0, vv5_0, vd5_0, ea5_0, eb5_0, ec5_0, ed5_0, ee5_0, ef5_0, eg5_0, eh5_0, ei5_0, rfl, ra5_0, rb5_0, rc5_0, rd5_0, re5_0, rf5_0, rx5_0⟩ := ri5_0
  obtain ⟨vc5_1, vn5_1, vt5_1, vf5_1, vv5_1, vd5_1, ea5_1, eb5_1, ec5_1, ed5_1, ee5_1, ef5_1, eg5_1, eh5_1, ei5_1, rfl, ra5_1, rb5_1, rc5_1, rd5_1, re5_1, rf5_1, rx5_1⟩ := ri5_1
  obtain ⟨ua5, uc5, rfl⟩ := rp5.isS (Own.satK o5 6 rfl)
  simp only [exR] at rx5_0
  obtain ⟨xk5, xc5, xn5, hq5, rxc5, rxn5, xs5, rxk5, rxx5⟩ := rx5_0
  unfold exC at hq5
  simp only [List.cons.injEq, and_true] at hq5
  obtain ⟨rfl, rfl, rfl, rfl, rfl, rfl, rfl, rfl, rfl⟩ := hq5
  replace rxk5 : Reads I5 9 _ 1 _ := rxk5
  obtain ⟨pxk5, qxk5, rfl⟩ := rxk5.isS (Own.satK o5 6 rfl)
  replace rxc5 : Reads I5 14 _ 0 _ := rxc5
  obtain ⟨pxc5, qxc5, rfl⟩ := rxc5.isS (Own.satK o5 6 rfl)
  replace rxn5 : Reads I5 1 _ 0 _ := rxn5
  obtain ⟨pxn5, qxn5, rfl⟩ := rxn5.isS (Own.satK o5 6 rfl)
  clear ra5_0 rb5_0 rc5_0 rd5_0 re5_0 rf5_0
  clear ra5_1 rb5_1 rc5_1 rd5_1 re5_1 rf5_1
  clear rx5_1
  clear rxx5 rxk5 rxc5 rxn5
  (refine RunVC.alloc o5 ty25 ?_; intro b500 m500 o500)
  (refine RunVC.storeL o500 7 rfl ty25 rfl (by decide) (And.intro ⟨rfl, rfl⟩ ?_); intro m501 o501)
  refine CallVC.ret (parse_ok (by decide) ex6 _ (hW.ext (Own.ext (h := m501) (by assumption)))) ?_
  rintro _ h6 ⟨u6, I6, rfl, hp6, oc6⟩
  have o6 := Own.call (by assumption) oc6
  simp only [List.cons_append, List.nil_append] at o6
  clear oc6
  obtain ⟨c6_0, c6_1, rp6, ri6_0, ri6_1⟩ := progR_two hp6
  obtain ⟨vc6_0, vn6_0, vt6_0, vf6_0, vv6_0, vd6_0, ea6_0, eb6_0, ec6_0, ed6_0, ee6_0, ef6_0, eg6_0, eh6_0, ei6_0, rfl, ra6_0, rb6_0, rc6_0, rd6_0, re6_0, rf6_0, rx6_0⟩ := ri6_0
  obtain ⟨vc6_1, vn6_1, vt6_1, vf6_1, vv6_1, vd6_1, ea6_1, eb6_1, ec6_1, ed6_1, ee6_1, ef6_1, eg6_1, eh6_1, ei6_1, rfl, ra6_1, rb6_1, rc6_1, rd6_1, re6_1, rf6_1, rx6_1⟩ := ri6_1
  obtain ⟨ua6, uc6, rfl⟩ := rp6.isS (Own.satK o6 8 rfl)
  replace rc6_0 : Reads I6 7 _ 2 _ := rc6_0
  obtain ⟨tvt6_0, svt6_0, rfl⟩ := rc6_0.isS (Own.satK o6 8 rfl)
  clear ra6_0 rb6_0 rd6_0 re6_0 rf6_0
  clear rx6_0
  replace re6_1 : Reads I6 2 _ 2 _ := re6_1
  obtain ⟨tvv6_1, svv6_1, rfl⟩ := re6_1.isS (Own.satK o6 8 rfl)
  replace rf6_1 : Reads I6 14 _ 2 _ := rf6_1
  obtain ⟨tvd6_1, svd6_1, rfl⟩ := rf6_1.isS (Own.satK o6 8 rfl)
  clear ra6_1 rb6_1 rc6_1 rd6_1 re6_1
  clear rx6_1
  (refine RunVC.alloc o6 ty25 ?_; intro b600 m600 o600)
  (refine RunVC.storeL o600 9 rfl ty25 rfl (by decide) (And.intro ⟨rfl, rfl⟩ ?_); intro m601 o601)
  refine Br.ff ?_
  refine Br.ff ?_
  refine Br.ff ?_
  refine Br.ff ?_
  refine StillVC.run (StillVC.fieldAddr st25 rfl rfl rfl ?_)
  refine StillVC.run (StillVC.loadO o601 1 rfl ty23 rfl rfl ?_)
  refine StillVC.run (StillVC.lenV rfl sl23 ?_)
  refine Br.ff ?_
  refine StillVC.run (StillVC.fieldAddr st25 rfl rfl rfl ?_)
  refine StillVC.run (StillVC.loadO o601 3 rfl ty23 rfl rfl ?_)
  refine StillVC.run (StillVC.lenV rfl sl23 ?_)
  refine Br.ff ?_
  refine StillVC.run (StillVC.fieldAddr st25 rfl rfl rfl ?_)
  refine StillVC.run (StillVC.loadO o601 7 rfl ty23 rfl rfl ?_)
  refine StillVC.run (StillVC.lenV rfl sl23 ?_)
  refine Br.ff ?_
  refine StillVC.run (StillVC.fieldAddr st25 rfl rfl rfl ?_)
  refine StillVC.run (StillVC.loadO o601 9 rfl ty23 rfl rfl ?_)
  refine StillVC.run (StillVC.lenV rfl sl23 ?_)
  refine Br.ff ?_
  refine StillVC.run (StillVC.fieldAddr st25 rfl rfl rfl ?_)
  refine StillVC.run (StillVC.loadO o601 3 rfl ty23 rfl rfl ?_)
  refine StillVC.run (StillVC.idxN sl23 ty51 (o601.reads 2 rp2 rfl) rfl (by omega) (by omega) ?_)
  refine StillVC.run (StillVC.fieldAdr (o601.reads 2 rp2 rfl) (by omega) st51 rfl rfl rfl ?_)
  refine StillVC.run (StillVC.loadAN (o601.reads 2 rp2 rfl) ty49 rfl rfl rfl (by decide) ?_)
  (refine RunVC.alloc o601 ty49 ?_; intro b619 m619 o619)
  (refine RunVC.storeL o619 10 rfl ty49 rfl (by decide) (And.intro ⟨rfl, rfl⟩ ?_); intro m620 o620)
  refine Br.ff ?_
  refine StillVC.run (StillVC.fieldAddr st49 rfl rfl rfl ?_)
  refine StillVC.run (StillVC.loadO o620 10 rfl ty47 rfl rfl ?_)
  refine StillVC.run (StillVC.lenV rfl sl47 ?_)
  refine Br.ff ?_
  refine StillVC.run (StillVC.fieldAddr st49 rfl rfl rfl ?_)
  refine StillVC.run (StillVC.loadO o620 10 rfl ty46 rfl rfl ?_)
  refine StillVC.run (StillVC.lenV rfl sl46 ?_)
  refine Br.ff ?_
  refine StillVC.run (StillVC.fieldAddr st25 rfl rfl rfl ?_)
  refine StillVC.run (StillVC.loadO o620 9 rfl ty23 rfl rfl ?_)
  refine StillVC.run (StillVC.idxN sl23 ty51 (o620.reads 8 rp6 rfl) rfl (by omega) (by omega) ?_)
  refine StillVC.run (StillVC.fieldAdr (o620.reads 8 rp6 rfl) (by omega) st51 rfl rfl rfl ?_)
  refine StillVC.run (StillVC.loadA1 (o620.reads 8 rp6 rfl) ty43 rfl rfl ?_)
  refine StillVC.run (StillVC.lenV rfl sl43 ?_)
  refine Br.ff ?_
  refine StillVC.run (StillVC.fieldAddr st25 rfl rfl rfl ?_)
  refine StillVC.run (StillVC.loadO o620 9 rfl ty23 rfl rfl ?_)
  refine StillVC.run (StillVC.idxN sl23 ty51 (o620.reads 8 rp6 rfl) rfl (by omega) (by omega) ?_)
  refine StillVC.run (StillVC.fieldAdr (o620.reads 8 rp6 rfl) (by omega) st51 rfl rfl rfl ?_)
  refine StillVC.run (StillVC.loadA1 (o620.reads 8 rp6 rfl) ty46 rfl rfl ?_)
  refine StillVC.run (StillVC.lenV rfl sl46 ?_)
  refine Br.ff ?_
  refine StillVC.run (StillVC.fieldAddr st25 rfl rfl rfl ?_)
  refine StillVC.run (StillVC.loadO o620 9 rfl ty23 rfl rfl ?_)
  refine StillVC.run (StillVC.idxN sl23 ty51 (o620.reads 8 rp6 rfl) rfl (by omega) (by omega) ?_)
  refine StillVC.run (StillVC.fieldAdr (o620.reads 8 rp6 rfl) (by omega) st51 rfl rfl rfl ?_)
  refine StillVC.run (StillVC.loadA1 (o620.reads 8 rp6 rfl) ty45 rfl rfl ?_)
  refine StillVC.run (StillVC.lenV rfl sl45 ?_)
  refine Br.ff ?_
  refine StillVC.run (StillVC.fieldAddr st25 rfl rfl rfl ?_)
  refine StillVC.run (StillVC.loadO o620 1 rfl ty23 rfl rfl ?_)
  refine StillVC.run (StillVC.idxN sl23 ty51 (o620.reads 0 rp1 rfl) rfl (by omega) (by omega) ?_)
  refine StillVC.run (StillVC.fieldAdr (o620.reads 0 rp1 rfl) (by omega) st51 rfl rfl rfl ?_)
  refine StillVC.run (StillVC.loadA1 (o620.reads 0 rp1 rfl) ty3 rfl rfl ?_)
  refine Br.tt ?_
  refine StillVC.run (StillVC.fieldAddr st25 rfl rfl rfl ?_)
  refine StillVC.run (StillVC.loadO o620 1 rfl ty23 rfl rfl ?_)
  refine StillVC.run (StillVC.idxN sl23 ty51 (o620.reads 0 rp1 rfl) rfl (by omega) (by omega) ?_)
  refine StillVC.run (StillVC.fieldAdr (o620.reads 0 rp1 rfl) (by omega) st51 rfl rfl rfl ?_)
  refine StillVC.run (StillVC.loadA1 (o620.reads 0 rp1 rfl) ty9 rfl rfl ?_)
  refine Br.tt ?_
  refine StillVC.run (StillVC.fieldAddr st25 rfl rfl rfl ?_)
  refine StillVC.run (StillVC.loadO o620 1 rfl ty23 rfl rfl ?_)
  refine StillVC.run (StillVC.idxN sl23 ty51 (o620.reads 0 rp1 rfl) rfl (by omega) (by omega) ?_)
  refine StillVC.run (StillVC.fieldAdr (o620.reads 0 rp1 rfl) (by omega) st51 rfl rfl rfl ?_)
  refine StillVC.run (StillVC.loadA1 (o620.reads 0 rp1 rfl) ty3 rfl rfl ?_)
  refine Br.tt ?_
  refine StillVC.run (StillVC.fieldAddr st49 rfl rfl rfl ?_)
  refine StillVC.run (StillVC.loadO o620 10 rfl ty3 rfl rfl ?_)
  refine Br.tt ?_
  refine StillVC.run (StillVC.fieldAddr st49 rfl rfl rfl ?_)
  refine StillVC.run (StillVC.loadO o620 10 rfl ty3 rfl rfl ?_)
  refine Br.tt ?_
  refine StillVC.run (StillVC.fieldAddr st49 rfl rfl rfl ?_)
  refine StillVC.run (StillVC.loadO o620 10 rfl ty47 rfl rfl ?_)
  refine StillVC.run (StillVC.idxN sl47 ty49 (o620.reads 2 rxk2 rfl) rfl (by omega) (by omega) ?_)
  refine StillVC.run (StillVC.fieldAdr (o620.reads 2 rxk2 rfl) (by omega) st49 rfl rfl rfl ?_)
  refine StillVC.run (StillVC.loadA1 (o620.reads 2 rxk2 rfl) ty9 rfl rfl ?_)
  refine Br.tt ?_
  refine StillVC.run (StillVC.fieldAddr st49 rfl rfl rfl ?_)
  refine StillVC.run (StillVC.loadO o620 10 rfl ty46 rfl rfl ?_)
  refine StillVC.run (StillVC.idxN sl46 ty58 (o620.reads 2 rxc2 rfl) rfl (by omega) (by omega) ?_)
  refine StillVC.run (StillVC.fieldAdr (o620.reads 2 rxc2 rfl) (by omega) st58 rfl rfl rfl ?_)
  refine StillVC.run (StillVC.loadAN (o620.reads 2 rxc2 rfl) ty56 rfl rfl rfl (by decide) ?_)
  refine StillVC.run (StillVC.buildK st56 ?_)
  refine And.intro rfl ?_
  refine RunVC.eqSelf dp_opd eg_opd rfl rfl rfl ?_
  refine Br.tt ?_
  refine StillVC.run (StillVC.fieldAddr st49 rfl rfl rfl ?_)
  refine StillVC.run (StillVC.loadO o620 10 rfl ty46 rfl rfl ?_)
  refine StillVC.run (StillVC.idxN sl46 ty58 (o620.reads 2 rxc2 rfl) rfl (by omega) (by omega) ?_)
  refine StillVC.run (StillVC.fieldAdr (o620.reads 2 rxc2 rfl) (by omega) st58 rfl rfl rfl ?_)
  refine StillVC.run (StillVC.fieldAdr (o620.reads 2 rxc2 rfl) (by omega) st56 rfl rfl rfl ?_)
  refine StillVC.run (StillVC.fieldAdr (o620.reads 2 rxc2 rfl) (by omega) st54 rfl rfl rfl ?_)
  refine StillVC.run (StillVC.loadA1 (o620.reads 2 rxc2 rfl) ty3 rfl rfl ?_)
  refine Br.tt ?_
  refine StillVC.run (StillVC.fieldAddr st49 rfl rfl rfl ?_)
  refine StillVC.run (StillVC.loadO o620 10 rfl ty46 rfl rfl ?_)
  refine StillVC.run (StillVC.idxN sl46 ty58 (o620.reads 2 rxc2 rfl) rfl (by omega) (by omega) ?_)
  refine StillVC.run (StillVC.fieldAdr (o620.reads 2 rxc2 rfl) (by omega) st58 rfl rfl rfl ?_)
  refine StillVC.run (StillVC.loadA1 (o620.reads 2 rxc2 rfl) ty3 rfl rfl ?_)
  refine Br.tt ?_
  refine Br.tt ?_
  refine Br.tt ?_
  refine Br.tt ?_
  refine StillVC.run (StillVC.fieldAddr st25 rfl rfl rfl ?_)
  refine StillVC.run (StillVC.loadO o620 7 rfl ty23 rfl rfl ?_)
  refine StillVC.run (StillVC.idxN sl23 ty51 (o620.reads 6 rp5 rfl) rfl (by omega) (by omega) ?_)
  refine StillVC.run (StillVC.fieldAdr (o620.reads 6 rp5 rfl) (by omega) st51 rfl rfl rfl ?_)
  refine StillVC.run (StillVC.fieldAdr (o620.reads 6 rp5 rfl) (by omega) st49 rfl rfl rfl ?_)
  refine StillVC.run (StillVC.loadA1 (o620.reads 6 rp5 rfl) ty3 rfl rfl ?_)
  refine Br.tt ?_
  refine StillVC.run (StillVC.fieldAddr st25 rfl rfl rfl ?_)
  refine StillVC.run (StillVC.loadO o620 7 rfl ty23 rfl rfl ?_)
  refine StillVC.run (StillVC.idxN sl23 ty51 (o620.reads 6 rp5 rfl) rfl (by omega) (by omega) ?_)
  refine StillVC.run (StillVC.fieldAdr (o620.reads 6 rp5 rfl) (by omega) st51 rfl rfl rfl ?_)
  refine StillVC.run (StillVC.fieldAdr (o620.reads 6 rp5 rfl) (by omega) st49 rfl rfl rfl ?_)
  refine StillVC.run (StillVC.loadA1 (o620.reads 6 rp5 rfl) ty42 rfl rfl ?_)
  refine StillVC.run (StillVC.lenV rfl sl42 ?_)
  refine Br.tt ?_
  refine StillVC.run (StillVC.fieldAddr st25 rfl rfl rfl ?_)
  refine StillVC.run (StillVC.loadO o620 7 rfl ty23 rfl rfl ?_)
  refine StillVC.run (StillVC.idxN sl23 ty51 (o620.reads 6 rp5 rfl) rfl (by omega) (by omega) ?_)
  refine StillVC.run (StillVC.fieldAdr (o620.reads 6 rp5 rfl) (by omega) st51 rfl rfl rfl ?_)
  refine StillVC.run (StillVC.loadA1 (o620.reads 6 rp5 rfl) ty3 rfl rfl ?_)
  refine Br.tt ?_
  refine StillVC.run (StillVC.fieldAddr st25 rfl rfl rfl ?_)
  refine StillVC.run (StillVC.loadO o620 7 rfl ty23 rfl rfl ?_)
  refine StillVC.run (StillVC.idxN sl23 ty51 (o620.reads 6 rp5 rfl) rfl (by omega) (by omega) ?_)
  refine StillVC.run (StillVC.fieldAdr (o620.reads 6 rp5 rfl) (by omega) st51 rfl rfl rfl ?_)
  refine StillVC.run (StillVC.loadA1 (o620.reads 6 rp5 rfl) ty3 rfl rfl ?_)
  refine StillVC.run (StillVC.fieldAddr st25 rfl rfl rfl ?_)
  refine StillVC.run (StillVC.loadO o620 9 rfl ty23 rfl rfl ?_)
  refine StillVC.run (StillVC.idxN sl23 ty51 (o620.reads 8 rp6 rfl) rfl (by omega) (by omega) ?_)
  refine StillVC.run (StillVC.fieldAdr (o620.reads 8 rp6 rfl) (by omega) st51 rfl rfl rfl ?_)
  refine StillVC.run (StillVC.loadA1 (o620.reads 8 rp6 rfl) ty46 rfl rfl ?_)
  refine StillVC.run (StillVC.idxN sl46 ty58 (o620.reads 8 rf6_1 rfl) rfl (by omega) (by omega) ?_)
  refine StillVC.run (StillVC.loadAN (o620.reads 8 rf6_1 rfl) ty58 rfl rfl rfl (by decide) ?_)
  (refine RunVC.alloc o620 ty58 ?_; intro b718 m718 o718)
  (refine RunVC.storeL o718 11 rfl ty58 rfl (by decide) (And.intro ⟨rfl, rfl⟩ ?_); intro m719 o719)
  refine Br.tt ?_
  refine Br.tt ?_
  refine StillVC.run (StillVC.fieldAddr st25 rfl rfl rfl ?_)
  refine StillVC.run (StillVC.loadO o719 9 rfl ty23 rfl rfl ?_)
  refine StillVC.run (StillVC.idxN sl23 ty51 (o719.reads 8 rp6 rfl) rfl (by omega) (by omega) ?_)
  refine StillVC.run (StillVC.fieldAdr (o719.reads 8 rp6 rfl) (by omega) st51 rfl rfl rfl ?_)
  refine StillVC.run (StillVC.loadA1 (o719.reads 8 rp6 rfl) ty43 rfl rfl ?_)
  refine StillVC.run (StillVC.idxN sl43 ty62 (o719.reads 8 rc6_0 rfl) rfl (by omega) (by omega) ?_)
  refine StillVC.run (StillVC.loadAN (o719.reads 8 rc6_0 rfl) ty62 rfl rfl rfl (by decide) ?_)
  refine StillVC.run (StillVC.buildK st60 ?_)
  refine And.intro rfl ?_
  refine And.intro rfl ?_
  refine StillVC.run (StillVC.buildK st62 ?_)
  refine And.intro rfl ?_
  refine And.intro rfl ?_
  refine And.intro rfl ?_
  refine And.intro rfl ?_
  refine And.intro rfl ?_
  refine RunVC.eqSelf dp_term eg_term rfl rfl rfl ?_
  refine Br.tt ?_
  refine StillVC.run (StillVC.fieldAddr st25 rfl rfl rfl ?_)
  refine StillVC.run (StillVC.loadO o719 9 rfl ty23 rfl rfl ?_)
  refine StillVC.run (StillVC.idxN sl23 ty51 (o719.reads 8 rp6 rfl) rfl (by omega) (by omega) ?_)
  refine StillVC.run (StillVC.fieldAdr (o719.reads 8 rp6 rfl) (by omega) st51 rfl rfl rfl ?_)
  refine StillVC.run (StillVC.loadA1 (o719.reads 8 rp6 rfl) ty43 rfl rfl ?_)
  refine StillVC.run (StillVC.idxN sl43 ty62 (o719.reads 8 rc6_0 rfl) rfl (by omega) (by omega) ?_)
  refine StillVC.run (StillVC.fieldAdr (o719.reads 8 rc6_0 rfl) (by omega) st62 rfl rfl rfl ?_)
  refine StillVC.run (StillVC.loadA1 (o719.reads 8 rc6_0 rfl) ty3 rfl rfl ?_)
  refine Br.tt ?_
  refine StillVC.run (StillVC.fieldAddr st58 rfl rfl rfl ?_)
  refine StillVC.run (StillVC.loadON o719 11 rfl ty56 rfl rfl rfl ?_)
  refine StillVC.run (StillVC.buildK st56 ?_)
  refine And.intro rfl ?_
  refine And.intro rfl ?_
  refine RunVC.eqSelf dp_opd eg_opd rfl rfl rfl ?_
  refine Br.tt ?_
  refine StillVC.run (StillVC.fieldAddr st58 rfl rfl rfl ?_)
  refine StillVC.run (StillVC.loadO o719 11 rfl ty3 rfl rfl ?_)
  refine Br.tt ?_
  refine StillVC.run (StillVC.fieldAddr st58 rfl rfl rfl ?_)
  refine StillVC.run (StillVC.loadO o719 11 rfl ty3 rfl rfl ?_)
  refine Br.tt ?_
  refine StillVC.run (StillVC.fieldAddr st25 rfl rfl rfl ?_)
  refine StillVC.run (StillVC.loadO o719 9 rfl ty23 rfl rfl ?_)
  refine StillVC.run (StillVC.idxN sl23 ty51 (o719.reads 8 rp6 rfl) rfl (by omega) (by omega) ?_)
  refine StillVC.run (StillVC.fieldAdr (o719.reads 8 rp6 rfl) (by omega) st51 rfl rfl rfl ?_)
  refine StillVC.run (StillVC.loadA1 (o719.reads 8 rp6 rfl) ty46 rfl rfl ?_)
  refine StillVC.run (StillVC.idxN sl46 ty58 (o719.reads 8 rf6_1 rfl) rfl (by omega) (by omega) ?_)
  refine StillVC.run (StillVC.fieldAdr (o719.reads 8 rf6_1 rfl) (by omega) st58 rfl rfl rfl ?_)
  refine StillVC.run (StillVC.fieldAdr (o719.reads 8 rf6_1 rfl) (by omega) st56 rfl rfl rfl ?_)
  refine StillVC.run (StillVC.loadA1 (o719.reads 8 rf6_1 rfl) ty4 rfl rfl ?_)
  refine RetVC.one rfl ?_
  exact ⟨rfl, Own.sel (by assumption) [] rfl⟩

end Go.Proofs.YtnmfanjhepepbaaGreatDoor

/- The walk of ParserJoins. -/
namespace Go.Proofs.YtnmfanjhepepbaaGreatDoor
open Go

theorem progR.isS {I : Item} {u : Value} {xs : List It} (h : progR I u xs) {hh : Heap} (hI : I.sat hh) : ∃ a c, u = .slice a xs.length c := by
  obtain ⟨cs, r, _⟩ := h
  exact r.isS hI

theorem itsR_one {I : Item} {h : Heap} (hI : I.sat h) : ∀ {cs : List (List Value)} {xs : List It}, itsR I cs xs → ∀ u ∈ cs.flatten, u.oneCell' = true
  | [], [], _, u, hu => by simp at hu
  | c :: cs, x :: xs, k, u, hu => by
    rw [List.flatten_cons] at hu
    rcases List.mem_append.1 hu with hu | hu
    · exact k.1.one hI u hu
    · exact itsR_one hI k.2 u hu
  | [], _ :: _, k, _, _ => k.elim
  | _ :: _, [], k, _, _ => k.elim

theorem progR_cells {I : Item} {v : Value} {xs : List It} (hp : progR I v xs) {h : Heap} (hI : I.sat h) : ∃ ca : List Cells25, Reads I 25 v xs.length (ca.flatMap Subtype.val) ∧ (∀ (i : Nat) (x : It), xs[i]? = some x → ∃ d : Cells25, ca[i]? = some d ∧ itR I d.1 x) ∧ (∀ u ∈ ca.flatMap Subtype.val, u.oneCell' = true) ∧ ca.length = xs.length := by
  obtain ⟨cs, r1, r2⟩ := hp
  obtain ⟨ca, e1, k1⟩ := itsR_cells r2
  have h1 := itsR_one hI r2
  rw [e1] at r1 h1
  have hl := (r1 h hI).1
  have e : ∀ l : List Cells25, (l.flatMap Subtype.val).length = l.length * 25 := by
    intro l
    induction l with
    | nil => rfl
    | cons c l ih => rw [List.flatMap_cons, List.length_append, ih, c.2, List.length_cons]; omega
  rw [e] at hl
  exact ⟨ca, r1, k1, h1, by omega⟩

mutual
theorem exQ_symm : ∀ (x y : Ex), ExQ QA x y → ExQ QA y x
  | .mk k t ks c n a s g o, .mk k' t' ks' c' n' a' s' g' o', h => by
    rw [ExQ] at h ⊢
    obtain ⟨rfl, rfl, rfl, rfl, rfl, rfl, rfl, _, hk⟩ := h
    exact ⟨rfl, rfl, rfl, rfl, rfl, rfl, rfl, trivial, exsQ_symm ks ks' hk⟩
theorem exsQ_symm : ∀ (xs ys : List Ex), ExsQ QA xs ys → ExsQ QA ys xs
  | [], [], _ => trivial
  | x :: xs, y :: ys, h => ⟨exQ_symm x y h.1, exsQ_symm xs ys h.2⟩
  | [], _ :: _, h => h.elim
  | _ :: _, [], h => h.elim
end

theorem itQ_symm {x y : It} (h : ItQ QA x y) : ItQ QA y x := by
  obtain ⟨o', e', rfl, _, h3⟩ := h
  exact ⟨x.off, x.expr, rfl, trivial, exQ_symm _ _ h3⟩

theorem itsQ_symm : ∀ {xs ys : List It}, ItsQ QA xs ys → ItsQ QA ys xs
  | [], [], _ => trivial
  | _ :: _, _ :: _, h => ⟨itQ_symm h.1, itsQ_symm h.2⟩
  | [], _ :: _, h => h.elim
  | _ :: _, [], h => h.elim

set_option maxHeartbeats 8000000 in
set_option maxRecDepth 100000 in
theorem joins_spec (s t : List UInt8) (h : Heap) (hs : s.length ≤ 9223372036854775807) (ht : t.length ≤ 9223372036854775807) (hW : WordsH h) : SpecR Tryz.prog 5 [.string ⟨⟨s⟩⟩, .string ⟨⟨t⟩⟩] h fun v h' => v = .bool true ∧ Own h [] h' := by
  refine Spec.enter Tryz.func5 rfl Tryz.ntmps5 (by kernel_rfl) ?_
  have o0 := Own.refl h
  refine CallVC.ret (head_spec _ hW) ?_
  rintro _ h1 ⟨rfl, oc⟩
  have o1 := oc.thenE (by assumption)
  clear oc
  by_cases hbig : 2000 < s.length ∨ 2000 < t.length
  · rcases hbig with hbig | hbig
    · refine StillVC.run (StillVC.lenS rfl str9 ?_)
      refine Br.dec (fun c21 => ?_) (fun hc => absurd (by omega) hc)
      refine Br.tt ?_
      refine RetVC.one rfl ?_
      exact ⟨rfl, Own.sel (by assumption) [] rfl⟩
    · by_cases h2 : 2000 < s.length
      · refine StillVC.run (StillVC.lenS rfl str9 ?_)
        refine Br.dec (fun c41 => ?_) (fun hc => absurd (by omega) hc)
        refine Br.tt ?_
        refine RetVC.one rfl ?_
        exact ⟨rfl, Own.sel (by assumption) [] rfl⟩
      · refine StillVC.run (StillVC.lenS rfl str9 ?_)
        refine Br.dec (fun hc => absurd hc (by omega)) (fun c61 => ?_)
        refine StillVC.run (StillVC.lenS rfl str9 ?_)
        refine Br.dec (fun c63 => ?_) (fun hc => absurd (by omega) hc)
        refine RetVC.one rfl ?_
        exact ⟨rfl, Own.sel (by assumption) [] rfl⟩
  have hs2 : s.length ≤ 2000 := by omega
  have ht2 : t.length ≤ 2000 := by omega
  refine StillVC.run (StillVC.lenS rfl str9 ?_)
  refine Br.dec (fun hc => absurd hc (by omega)) (fun c101 => ?_)
  refine StillVC.run (StillVC.lenS rfl str9 ?_)
  refine Br.dec (fun hc => absurd hc (by omega)) (fun c103 => ?_)
  refine CallVC.ret (parse_cases (by omega) _ (hW.ext o1.ext)) ?_
  rintro _ h2 (⟨e, i, hM, hne, rfl, oc⟩ | ⟨xs, ts, ua, uc, I, hM, hL, hI, hlen, rfl, hp, oc⟩)
  · have o2 := oc.thenE (by assumption)
    clear oc
    (refine RunVC.alloc o2 ty25 ?_; intro b120 m120 o120)
    (refine RunVC.storeL o120 0 rfl ty25 rfl (by decide) (And.intro ⟨rfl, rfl⟩ ?_); intro m121 o121)
    refine CallVC.ret (parse_cases (by omega) _ (hW.ext (Own.ext (h := m121) (by assumption)))) ?_
    rintro _ h3 (⟨e2, i2, hM2, hne2, rfl, oc⟩ | ⟨ys, ts2, va, vc, J, hM2, hL2, hJ, hlen2, rfl, hp2, oc⟩)
    · have o3 := oc.thenE (by assumption)
      clear oc
      (refine RunVC.alloc o3 ty25 ?_; intro b140 m140 o140)
      (refine RunVC.storeL o140 1 rfl ty25 rfl (by decide) (And.intro ⟨rfl, rfl⟩ ?_); intro m141 o141)
      refine Br.ndec (fun c142 => ?_) (fun hc => absurd hc (by first | omega | assumption | decide | exact rfl))
      refine Br.tt ?_
      refine RetVC.one rfl ?_
      exact ⟨rfl, Own.sel (by assumption) [] rfl⟩
    · have o3 := Own.call (by assumption) oc
      clear oc
      (refine RunVC.alloc o3 ty25 ?_; intro b160 m160 o160)
      (refine RunVC.storeL o160 2 rfl ty25 rfl (by decide) (And.intro ⟨rfl, rfl⟩ ?_); intro m161 o161)
      refine Br.ndec (fun c162 => ?_) (fun hc => absurd hc (by first | omega | assumption | decide | exact rfl))
      refine Br.tt ?_
      refine RetVC.one rfl ?_
      exact ⟨rfl, Own.sel (by assumption) [] rfl⟩
  · have o2 := Own.call (by assumption) oc
    simp only [List.nil_append] at o2
    clear oc
    (refine RunVC.alloc o2 ty25 ?_; intro b200 m200 o200)
    (refine RunVC.storeL o200 1 rfl ty25 rfl (by decide) (And.intro ⟨rfl, rfl⟩ ?_); intro m201 o201)
    refine CallVC.ret (parse_cases (by omega) _ (hW.ext (Own.ext (h := m201) (by assumption)))) ?_
    rintro _ h3 (⟨e2, i2, hM2, hne2, rfl, oc⟩ | ⟨ys, ts2, va, vc, J, hM2, hL2, hJ, hlen2, rfl, hp2, oc⟩)
    · have o3 := oc.thenE (by assumption)
      clear oc
      (refine RunVC.alloc o3 ty25 ?_; intro b240 m240 o240)
      (refine RunVC.storeL o240 2 rfl ty25 rfl (by decide) (And.intro ⟨rfl, rfl⟩ ?_); intro m241 o241)
      refine Br.ff ?_
      refine Br.ndec (fun c242 => ?_) (fun hc => absurd hc (by first | omega | assumption | decide | exact rfl))
      refine Br.tt ?_
      refine RetVC.one rfl ?_
      exact ⟨rfl, Own.sel (by assumption) [] rfl⟩
    · have o3 := Own.call (by assumption) oc
      simp only [List.cons_append, List.nil_append] at o3
      clear oc
      by_cases h200 : 200 < xs.length + ys.length
      · (refine RunVC.alloc o3 ty25 ?_; intro b260 m260 o260)
        (refine RunVC.storeL o260 3 rfl ty25 rfl (by decide) (And.intro ⟨rfl, rfl⟩ ?_); intro m261 o261)
        refine Br.ff ?_
        refine Br.ff ?_
        refine StillVC.run (StillVC.fieldAddr st25 rfl rfl rfl ?_)
        refine StillVC.run (StillVC.loadO o261 1 rfl ty23 rfl rfl ?_)
        refine StillVC.run (StillVC.lenV rfl sl23 ?_)
        refine StillVC.run (StillVC.fieldAddr st25 rfl rfl rfl ?_)
        refine StillVC.run (StillVC.loadO o261 3 rfl ty23 rfl rfl ?_)
        refine StillVC.run (StillVC.lenV rfl sl23 ?_)
        refine Ar.i64 (by omega) (by omega) ?_
        refine Br.dec (fun c268 => ?_) (fun hc => absurd (by omega) hc)
        refine RetVC.one rfl ?_
        exact ⟨rfl, Own.sel (by assumption) [] rfl⟩
      · obtain ⟨zs, hZ, hQ⟩ := joins_plain hs2 ht2 hM hM2 (by omega)
        (refine RunVC.alloc o3 ty25 ?_; intro b300 m300 o300)
        (refine RunVC.storeL o300 3 rfl ty25 rfl (by decide) (And.intro ⟨rfl, rfl⟩ ?_); intro m301 o301)
        refine Br.ff ?_
        refine Br.ff ?_
        refine StillVC.run (StillVC.fieldAddr st25 rfl rfl rfl ?_)
        refine StillVC.run (StillVC.loadO o301 1 rfl ty23 rfl rfl ?_)
        refine StillVC.run (StillVC.lenV rfl sl23 ?_)
        refine StillVC.run (StillVC.fieldAddr st25 rfl rfl rfl ?_)
        refine StillVC.run (StillVC.loadO o301 3 rfl ty23 rfl rfl ?_)
        refine StillVC.run (StillVC.lenV rfl sl23 ?_)
        refine Ar.i64 (by omega) (by omega) ?_
        refine Br.dec (fun hc => absurd hc (by omega)) (fun c308 => ?_)
        refine StillVC.run (StillVC.strAdd rfl rfl (by first | omega | (simp; omega)) ?_)
        refine StillVC.run (StillVC.strAdd rfl rfl (by first | omega | (simp; omega)) ?_)
        have ej : s ++ [10] ++ t = s ++ 10 :: t := by simp
        refine CallVC.ret (parse_cases (by simp; omega) _ (hW.ext (Own.ext (h := m301) (by assumption)))) ?_
        rintro _ h4 (⟨e3, i3, hM3, _⟩ | ⟨zz, ts3, wa, wc, Z, hM3, hL3, hI3, hlen3, rfl, hpz, oc⟩)
        · rw [ej, hZ] at hM3
          cases hM3
        rw [ej, hZ] at hM3
        cases hM3
        have o4 := Own.call (by assumption) oc
        simp only [List.cons_append, List.nil_append] at o4
        clear oc
        (refine RunVC.alloc o4 ty25 ?_; intro b340 m340 o340)
        (refine RunVC.storeL o340 5 rfl ty25 rfl (by decide) (And.intro ⟨rfl, rfl⟩ ?_); intro m341 o341)
        refine DrawVC.introG (fun h h' => h'[b200]? = h[b200]? ∧ h'[b300]? = h[b300]?) (fun a => a.block = b200 ∨ a.block = b300) (fun _ => ⟨rfl, rfl⟩) (fun h h' a v he ha hc => by rcases ha with rfl | rfl; rw [cellAt_congr he.1]; exact hc; rw [cellAt_congr he.2]; exact hc) [1, 4] [2, 5] [6, 7] [1, 4, 2, 5, 0, 3, 6, 7] mixed (by kernel_rfl) rfl (fun _ _ _ _ h => h) ?_
        refine StillVC.fieldAddr st25 rfl rfl rfl ?_
        refine StillVC.fieldAddr st25 rfl rfl rfl ?_
        refine StillVCA.load1 ty23 rfl (.inl rfl) ((Own.cellB (by assumption) 1 rfl _).trans rfl) ?_
        refine StillVCA.load1 ty23 rfl (.inr rfl) ((Own.cellB (by assumption) 3 rfl _).trans rfl) ?_
        (refine RunVC.litN o341 sl23 ty51 rfl rfl (by decide) ?_)
        intro b365 m365 o365
        obtain ⟨ca, r1, k1, n1, l1⟩ := progR_cells hp (Own.satK o365 0 rfl)
        obtain ⟨cb, r2, k2, n2, l2⟩ := progR_cells hp2 (Own.satK o365 2 rfl)
        obtain ⟨cz, r3, k3, n3, l3⟩ := progR_cells hpz (Own.satK o365 4 rfl)
        refine ⟨⟨(Own.satK o365 1 rfl).trans (Own.satK o341 1 rfl).symm, (Own.satK o365 3 rfl).trans (Own.satK o341 3 rfl).symm⟩, ?_⟩
        have orr := o365.boxRow 6 rfl 25 0 0 rfl (Nat.le_refl _) (by decide)
        simp only [List.set_cons_succ, List.set_cons_zero] at orr
        refine RunVC.append orr 6 rfl sl23 ty51 (by decide) (r1 _ (Own.satK orr 0 rfl)) n1 (by simp only [maxLen]; omega) (by omega) ?_
        intro v391 m391 o391
        refine ⟨⟨(Own.satK o391 1 rfl).trans (Own.satK orr 1 rfl).symm, (Own.satK o391 3 rfl).trans (Own.satK orr 3 rfl).symm⟩, ?_⟩
        refine RunVC.append o391 6 rfl sl23 ty51 (by decide) (r2 _ (Own.satK o391 2 rfl)) n2 (by simp only [maxLen]; omega) (by omega) ?_
        intro v411 m411 o411
        refine Br.tt ?_
        refine Br.tt ?_
        refine StillVC.run (StillVC.fieldAddr st25 rfl rfl rfl ?_)
        refine StillVC.run (StillVC.loadO o411 5 rfl ty23 rfl rfl ?_)
        have q : ArrN 25 m411 v411 (0 + xs.length + ys.length) (List.take (0 * 25) [] ++ ca.flatMap Subtype.val ++ cb.flatMap Subtype.val) := o411.rowArrN 6 rfl
        rw [show 0 + xs.length + ys.length = (xs ++ ys).length by simp, show List.take (0 * 25) ([] : List Value) ++ ca.flatMap Subtype.val ++ cb.flatMap Subtype.val = (ca ++ cb).flatMap Subtype.val by simp] at q
        refine CallVC.ret (sameItems_specA QA false (fun h => by cases h) zs (xs ++ ys) _ _ cz (ca ++ cb) _ (hI3.bound (N := 9999) (by decide) (by have := (lexM_props.2 ts3 hL3).1; omega)) (itsQ_symm hQ) (by omega) (r3 _ (Own.satK o411 4 rfl)) q (fun i x hx => ?_) (fun i x hx => ?_)) ?_
        · obtain ⟨d, e1, e2⟩ := k3 i x hx
          exact ⟨d, Z, e1, e2, o411.satE 4 rfl⟩
        · by_cases hlt : i < xs.length
          · rw [List.getElem?_append_left hlt] at hx
            obtain ⟨d, e1, e2⟩ := k1 i x hx
            exact ⟨d, I, by rw [List.getElem?_append_left (by omega)]; exact e1, e2, o411.satE 0 rfl⟩
          · rw [List.getElem?_append_right (by omega)] at hx
            obtain ⟨d, e1, e2⟩ := k2 _ x hx
            exact ⟨d, J, by rw [List.getElem?_append_right (by omega), l1]; exact e1, e2, o411.satE 2 rfl⟩
        rintro _ h5 ⟨rfl, oc⟩
        have o5 := oc.thenE o411
        refine RetVC.one rfl ?_
        exact ⟨rfl, Own.sel (by assumption) [] rfl⟩

end Go.Proofs.YtnmfanjhepepbaaGreatDoor
