/-
 The reference's Parse. The walk of ParserMatchesReference: both parsers give one answer.
-/
import Derived.Test.YtnmfanjhepepbaaGreatDoorNStructs
import Derived.Test.YtnmfanjhepepbaaGreatDoorNMRk
import Derived.Test.YtnmfanjhepepbaaGreatDoorNMRl
import Derived.Test.YtnmfanjhepepbaaGreatDoorNMPe
import Derived.Test.YtnmfanjhepepbaaGreatDoorNMJh
set_option linter.all false
/- The reference's Parse. -/
namespace Go.Proofs.YtnmfanjhepepbaaGreatDoor
open Go StillVC

theorem items_stop {L : List Tok} {z f : Nat} {acc : List It} {s : RS} (h : ¬ (s.e = 0 ∧ s.i < L.length)) : itemsR L z f acc s = (acc, s) := by
 cases f with
 | zero => rfl
 | succ f => rw [itemsR]; exact if_neg h

theorem items_full {L : List Tok} {z f : Nat} {acc : List It} {s : RS} (h : s.e = 0 ∧ s.i < L.length) (ha : 200 ≤ acc.length) : itemsR L z (f + 1) acc s = (acc, failS L z 3 s) := by
 rw [itemsR]; exact (if_pos h).trans (if_pos ha)

theorem items_go {L : List Tok} {z f : Nat} {acc : List It} {s : RS} (h : s.e = 0 ∧ s.i < L.length) (ha : ¬ 200 ≤ acc.length) : itemsR L z (f + 1) acc s = (ritemR L z >>= fun x => itemsR L z f (acc ++ [x])) s := by
 rw [itemsR]; exact (if_pos h).trans (if_neg ha)

theorem Sim.items2 {L : List Tok} {z : Nat} (hS : OpT L) : ∀ (f : Nat) (acc : List It) (i g : Nat), i ≤ L.length → acc.length ≤ 200 → L.length - i < f → 200 - acc.length < g →
  (∀ xs, itemsA z f acc (L.drop i) = .ok xs → ∃ j, itemsR L z g acc ⟨i, 0, 0⟩ = (xs, ⟨j, 0, 0⟩)) ∧ (∀ e k, itemsA z f acc (L.drop i) = .error (e, k) → e ≠ 0 ∧ ∃ xs j, itemsR L z g acc ⟨i, 0, 0⟩ = (xs, ⟨j, e, k⟩))
 | 0, acc, i, g, hi, ha, hf, hg => absurd hf (Nat.not_lt_zero _)
 | f + 1, acc, i, 0, hi, ha, hf, hg => absurd hg (Nat.not_lt_zero _)
 | f + 1, acc, i, g + 1, hi, ha, hf, hg => by
  cases hx : L[i]? with
  | none =>
   have hd := drop_none hi hx
   rw [hd]
   refine ⟨fun xs h => ?_, fun e k h => (by cases h)⟩
   cases h
   exact ⟨i, by rw [itemsR]; exact if_neg fun h => by simp at hx; exact absurd h.2 (by simp; omega)⟩
  | some t =>
   have hd := drop_some hx
   have hlt := drop_lt hx
   rw [hd]
   have hR : itemsR L z (g + 1) acc ⟨i, 0, 0⟩ = (if 200 ≤ acc.length then (acc, failS L z 3 ⟨i, 0, 0⟩) else (ritemR L z >>= fun x => itemsR L z g (acc ++ [x])) ⟨i, 0, 0⟩) := by
    rw [itemsR]; exact if_pos ⟨rfl, hlt⟩
   by_cases h200 : acc.length = 200
   ·rw [itemsA_full h200]
    refine ⟨fun xs h => (by cases h), fun e k h => ?_⟩
    cases h
    refine ⟨by decide, acc, i, ?_⟩
    rw [hR, if_pos (by omega)]
    unfold failS
    rw [if_neg (fun h => h rfl)]
    simp only [hx]
   ·rw [if_neg (by omega)] at hR
    obtain ⟨r, hr, hs⟩ := Sim.item (z := z) hS hx
    have hG := itemP_G z t (L.drop (i + 1))
    cases hq : itemP z (t :: L.drop (i + 1)) with
    | error y =>
     obtain ⟨e', k'⟩ := y
     rw [itemsA_err h200 hq]
     refine ⟨fun xs h => (by cases h), fun e k h => ?_⟩
     cases h
     obtain ⟨he, a, j, ha2⟩ := (hs.2 i hi).2 e' k' (by rw [hd, ← hG, hq])
     exact ⟨he, acc ++ [a], j, by rw [hR, RM.bind_of (hr.trans ha2), items_err _ _ he]⟩
    | ok p =>
     obtain ⟨x, q⟩ := p
     rw [itemsA_ok h200 hq]
     obtain ⟨j, hj, rfl, ha2⟩ := (hs.2 i hi).1 x q (by rw [hd, ← hG, hq])
     have hl := itemP_lt hq
     rw [← hd, List.length_drop, List.length_drop] at hl
     have ih := Sim.items2 (z := z) hS f (acc ++ [x]) j g hj (by simp; omega) (by omega) (by simp; omega)
     rw [hR, RM.bind_of (hr.trans ha2)]
     exact ih

/-- What the reader's end says of the program. -/
def RPost (h : Heap) (L : List Tok) (z : Nat) (v : Value) (h' : Heap) : Prop :=
 if (itemsR L z 201 [] ⟨0, 0, 0⟩).2.e = 0 then ∃ u I, v = .tuple ⟨[.agg ⟨[u]⟩, .int .i64 0, .int .i64 0]⟩ ∧ progR I u (itemsR L z 201 [] ⟨0, 0, 0⟩).1 ∧ Own h [I] h'
 else v = .tuple ⟨[.agg ⟨[nilV]⟩, .int .i64 (itemsR L z 201 [] ⟨0, 0, 0⟩).2.e, .int .i64 (itemsR L z 201 [] ⟨0, 0, 0⟩).2.a]⟩ ∧ Own h [] h'

theorem rpost_parse {h h' : Heap} {t : List UInt8} {ts : List Tok} {v : Value} (hL : lexM t = .ok ts) (hbig : ¬ 20000 < t.length) (hp : RPost h ts t.length v h') : ParsePost h t v h' := by
 obtain ⟨s1, s2⟩ := Sim.items2 (z := t.length) (opT_of hL) (ts.length + 1) [] 0 201 (Nat.zero_le _) (by simp) (by omega) (by simp)
 rw [List.drop_zero] at s1 s2
 rw [ParsePost, if_neg hbig]
 unfold parseM
 simp only [hL]
 unfold RPost at hp
 cases hT : itemsA t.length (ts.length + 1) [] ts with
 | ok xs =>
  obtain ⟨j, hj⟩ := s1 xs hT
  rw [hj] at hp
  exact hp
 | error y =>
  obtain ⟨e, k⟩ := y
  obtain ⟨he, xs, j, hj⟩ := s2 e k hT
  rw [hj] at hp
  simp only [if_neg he] at hp
  exact hp

set_option maxHeartbeats 8000000 in
set_option maxRecDepth 100000 in
theorem rparse_spec (t : List UInt8) (h : Heap) (hl : t.length ≤ 9223372036854775807) :
  SpecR Tryz.prog 9 [.string ⟨⟨t⟩⟩] h (ParsePost h t) := by
 refine Spec.enter Tryz.func9 rfl Tryz.ntmps9 (by kernel_rfl) ?_
 have o0 := Own.refl h
 (refine RunVC.alloc o0 ty25 ?_; intro b10 m10 o10)
 refine CallVC.ret (rlex_spec t _ hl) ?_
 rintro v h1 hv
 have key : (∃ e i : Int, e ≠ 0 ∧ v = .tuple ⟨[.slice none 0 0, .int .i64 e, .int .i64 i]⟩ ∧ Own m10 [] h1 ∧ ∀ h', Own h [] h' → ParsePost h t (.tuple ⟨[.agg ⟨[nilV]⟩, .int .i64 e, .int .i64 i]⟩) h') ∨
   (∃ ts u, lexM t = .ok ts ∧ ¬ 20000 < t.length ∧ v = .tuple ⟨[u, .int .i64 0, .int .i64 0]⟩ ∧ Own m10 [row u 38 4 ts.length (ts.flatMap tokC)] h1) := by
  unfold LexPost at hv
  by_cases hbig : 20000 < t.length
  ·rw [if_pos hbig] at hv
   exact .inl ⟨3, -1, by decide, hv.1, hv.2, fun h' o' => by rw [ParsePost, if_pos hbig]; exact ⟨rfl, o'⟩⟩
  ·rw [if_neg hbig] at hv
   cases hL : lexM t with
   | error e =>
    obtain ⟨e, i⟩ := e
    rw [hL] at hv
    exact .inl ⟨e, i, lexM_props.1 e i hL, hv.1, hv.2, fun h' o' => by rw [ParsePost, if_neg hbig, parseM, hL]; exact ⟨rfl, o'⟩⟩
   | ok ts =>
    rw [hL] at hv
    obtain ⟨u, h2, h3⟩ := hv
    exact .inr ⟨ts, u, rfl, hbig, h2, h3⟩
 clear hv
 rcases key with ⟨e, i, hne, rfl, oc, hpost⟩ | ⟨ts, u, hL, hbig, rfl, oc⟩
 ·have o1 := oc.thenE ‹_›
  clear oc
  refine Br.ndec (fun c50 => ?_) (fun hc => absurd hc (by first | omega | assumption | decide | exact rfl))
  refine run (buildK st25 ?_)
  (refine RunVC.storeL o1 0 rfl ty25 rfl (by decide) (And.intro ⟨rfl, rfl⟩ ?_); intro m52 o52)
  first | refine RetVC.cell2 rfl o52 0 rfl ty25 rfl rfl ?_ | refine RetVC.cell1 rfl o52 0 rfl ty25 rfl rfl ?_ | refine RetVC.cellTT rfl o52 0 rfl ty25 rfl rfl ?_
  exact hpost _ (Own.sel ‹_› [] rfl)
 ·obtain ⟨hts, hok⟩ := lexM_props.2 ts hL
  have o1 := Own.call ‹_› oc
  simp only [lcA, lnA] at o1
  clear oc
  obtain ⟨ua, uc, rfl⟩ := o1.rowIs 1 rfl
  refine Br.ff ?_
  refine run (lenS rfl str9 ?_)
  refine run (buildK st73 ?_)
  refine And.intro rfl ?_
  refine And.intro rfl ?_
  (refine RunVC.boxO o1 rfl ?_; intro b102 m102 o102)
  (refine RunVC.alloc o102 ty25 ?_; intro b103 m103 o103)
  have on : Own ⟨h, []⟩ [box b102 [.slice ua ts.length uc, .int .i64 (0 : Nat), .int .i64 0, .int .i64 0, .int .i64 t.length] 73, row (.slice ua ts.length uc) 38 4 ts.length (ts.flatMap tokC), box b10 [.slice none 0 0] 25, box b103 [.slice none 0 0] 25, row (.slice none 0 0) 51 25 0 [], emptyI] m103 := ((o103.nilRow 51 25).emptyI').sel [3, 2, 1, 4, 5, 0] rfl
  generalize hT : itemsR ts t.length 201 [] ⟨0, 0, 0⟩ = T
  refine LoopVC.intro [26, 27, 28, 29, 30, 31, 32, 33, 34, 35, 36, 37, 38, 39, 40, 41, 42, 43, 44, 45, 46, 47, 48, 49, 50, 51, 52, 53, 54, 55] [] (fun _ hh => ∃ (acc : List It) (s : RS) (va : Option Addr) (vc : Nat) (I : Item) (cs : List (List Value)), itemsR ts t.length (201 - acc.length) acc s = T ∧ acc.length ≤ 200 ∧ s.i ≤ ts.length ∧ itsR I cs acc ∧ Own ⟨h, []⟩ [box b102 [.slice ua ts.length uc, .int .i64 s.i, .int .i64 s.e, .int .i64 s.a, .int .i64 t.length] 73, row (.slice ua ts.length uc) 38 4 ts.length (ts.flatMap tokC), box b10 [.slice none 0 0] 25, box b103 [.slice va acc.length vc] 25, row (.slice va acc.length vc) 51 25 acc.length cs.flatten, I] hh) (fun _ hh => lenM b103 0 hh) ?_ ?_
  ·exact ⟨[], ⟨0, 0, 0⟩, none, 0, emptyI, [], hT, by simp, Nat.zero_le _, trivial, on⟩
  ·rintro _ junk hh ⟨acc, s, va, vc, I, cs, hQ, hacc, hsi, hI, oh⟩
   have hR : TokR (row (.slice ua ts.length uc) 38 4 ts.length (ts.flatMap tokC)) (.slice ua ts.length uc) ts := ⟨row_reads, hok⟩
   have hm0 := lenM_of oh 3 rfl (off := 0) rfl
   have hgo : 201 - acc.length = (200 - acc.length) + 1 := by omega
   by_cases he : s.e = 0
   ·by_cases hlt : s.i < ts.length
    ·by_cases hfull : 200 ≤ acc.length
     ·rw [hgo, items_full ⟨he, hlt⟩ hfull] at hQ
      refine DrawVC.intro [0, 1, 2, 4, 5, 6, 7, 8, 10, 11, 12, 14, 15, 16] [3, 9, 13] [] [0, 1, 2, 3, 4, 5, 6, 7, 8, 9, 10, 11, 12, 13, 14, 15, 16] mixed (by kernel_rfl) rfl (fun _ _ _ _ h => h) ?_
      refine nilCheck rfl ?_
      refine fieldAddr st73 rfl rfl rfl ?_
      refine loadO oh 0 rfl ty26 rfl rfl ?_
      refine Br.dec (fun c303 => ?_) (fun hc => absurd (by omega) hc)
      refine nilCheck rfl ?_
      refine fieldAddr st73 rfl rfl rfl ?_
      refine loadO oh 0 rfl ty3 rfl rfl ?_
      refine nilCheck rfl ?_
      refine fieldAddr st73 rfl rfl rfl ?_
      refine loadO oh 0 rfl ty31 rfl rfl ?_
      refine lenV rfl sl31 ?_
      refine Br.dec (fun c311 => ?_) (fun hc => absurd (by omega) hc)
      refine run (fieldAddr st25 rfl rfl rfl ?_)
      refine run (loadO oh 3 rfl ty23 rfl rfl ?_)
      refine run (lenV rfl sl23 ?_)
      refine Br.dec (fun c315 => ?_) (fun hc => absurd (by omega) hc)
      refine (rfail_spec 3).callL oh rfl hR hts hsi (fun a s3 v h3 hm hv hi3 hj3 oq => ?_)
      subst hv
      injection hm with _ hm
      have he3 : s3.e ≠ 0 := by
       rw [← hm]
       unfold failS
       rw [if_neg (fun h => h he)]
       split <;> simp
      rw [hm] at hQ
      have o3 := oq
      simp only [RSt, pick, lcA, lnA, lgS, lgZ, lgN] at o3
      clear oq hm
      refine run (nilCheck rfl ?_)
      refine run (fieldAddr st73 rfl rfl rfl ?_)
      refine run (loadO o3 0 rfl ty26 rfl rfl ?_)
      refine Br.ndec (fun c323 => ?_) (fun hc => absurd hc (by first | omega | assumption | decide | exact rfl))
      refine DrawVC.introB b102 [0, 1, 2, 3, 5, 6, 7, 10, 11] [4, 8] [] [0, 1, 2, 3, 4, 5, 6, 7, 8, 9, 10, 11] mixed (by kernel_rfl) rfl (fun _ _ _ _ h => h) ?_
      refine buildK st25 ?_
      refine nilCheck rfl ?_
      refine fieldAddr st73 rfl rfl rfl ?_
      refine StillVCA.load1 ty26 rfl rfl ((o3.cellB 0 rfl _).trans rfl) ?_
      refine nilCheck rfl ?_
      refine fieldAddr st73 rfl rfl rfl ?_
      refine StillVCA.load1 ty3 rfl rfl ((o3.cellB 0 rfl _).trans rfl) ?_
      (refine RunVC.storeL o3 2 rfl ty25 rfl (by decide) (And.intro ⟨rfl, rfl⟩ ?_); intro m347 o347)
      refine And.intro ((o347.boxBlk 0 rfl).trans (o3.boxBlk 0 rfl).symm) ?_
      first | refine RetVC.cell2 rfl o347 2 rfl ty25 rfl rfl ?_ | refine RetVC.cell1 rfl o347 2 rfl ty25 rfl rfl ?_ | refine RetVC.cellTT rfl o347 2 rfl ty25 rfl rfl ?_
      show ParsePost h t _ _
      refine rpost_parse hL hbig ?_
      unfold RPost
      rw [hT, ← hQ, if_neg he3]
      exact ⟨rfl, Own.sel ‹_› [] rfl⟩
     ·rw [hgo, items_go ⟨he, hlt⟩ hfull] at hQ
      refine DrawVC.intro [0, 1, 2, 4, 5, 6, 7, 8, 10, 11, 12, 14, 15, 16] [3, 9, 13] [] [0, 1, 2, 3, 4, 5, 6, 7, 8, 9, 10, 11, 12, 13, 14, 15, 16] mixed (by kernel_rfl) rfl (fun _ _ _ _ h => h) ?_
      refine nilCheck rfl ?_
      refine fieldAddr st73 rfl rfl rfl ?_
      refine loadO oh 0 rfl ty26 rfl rfl ?_
      refine Br.dec (fun c303 => ?_) (fun hc => absurd (by omega) hc)
      refine nilCheck rfl ?_
      refine fieldAddr st73 rfl rfl rfl ?_
      refine loadO oh 0 rfl ty3 rfl rfl ?_
      refine nilCheck rfl ?_
      refine fieldAddr st73 rfl rfl rfl ?_
      refine loadO oh 0 rfl ty31 rfl rfl ?_
      refine lenV rfl sl31 ?_
      refine Br.dec (fun c311 => ?_) (fun hc => absurd (by omega) hc)
      refine run (fieldAddr st25 rfl rfl rfl ?_)
      refine run (loadO oh 3 rfl ty23 rfl rfl ?_)
      refine run (lenV rfl sl23 ?_)
      refine Br.dec (fun hc => absurd hc (by omega)) (fun c403 => ?_)
      refine DrawVC.introB b103 [0, 2, 6] [1] [5, 7] [0, 1, 2, 3, 4, 5, 6, 7] mixed (by kernel_rfl) rfl (fun _ _ _ _ h => h) ?_
      refine fieldAddr st25 rfl rfl rfl ?_
      refine StillVCA.load1 ty23 rfl rfl ((oh.cellB 3 rfl _).trans rfl) ?_
      refine ritem_call ‹_› rfl hR hts hlt (fun x s3 v J h3 hm hv hi3 hj3 oq => ?_)
      obtain ⟨c, rfl, hc⟩ := hv
      rw [RM.bind_of hm] at hQ
      have o9 := oq
      simp only [RSt, pick, lcA, lnA, lgS, lgZ, lgN] at o9
      clear oq
      refine ⟨(Own.satK o9 4 rfl).trans (Own.satK (x := box b103 _ _) oh 3 rfl).symm, ?_⟩
      have hcl := hc.len
      have hc1 := hc.one (Own.satK o9 2 rfl)
      (refine RunVC.litN o9 sl23 ty51 rfl rfl (by decide) ?_)
      refine And.intro (by rw [hcl]; exact (List.all_eq_true.2 hc1)) ?_
      refine Eq.mpr (lappV_eq c [] _) ?_
      rw [List.append_nil]
      intro b905 m905 o905
      refine ⟨(Own.satK o905 4 rfl).trans (Own.satK o9 4 rfl).symm, ?_⟩
      refine RunVC.append ‹_› 5 rfl sl23 ty51 (by decide) (Own.boxArrN ‹_› 7 rfl (n := 1) (by simpa using hcl) (by omega)) (by simpa using hc1) (by simp only [maxLen]; omega) (by omega) ?_
      intro v915 m915 o915
      obtain ⟨xa, xc, rfl⟩ := o915.rowIs 5 rfl
      refine fieldAddr st25 rfl rfl rfl ?_
      (refine RunVC.store o915 4 rfl ty23 rfl (by simp) (And.intro ⟨rfl, rfl⟩ ?_); intro m921 o921)
      refine ⟨rfl, ?_⟩
      have e2 : (acc ++ [x]).length = acc.length + 1 := by simp
      have e1 : (cs ++ [c]).flatten = cs.flatten ++ c := by simp
      refine ⟨⟨acc ++ [x], s3, xa, xc, joinI J I, cs ++ [c], by rw [e2, show 201 - (acc.length + 1) = 200 - acc.length by omega]; exact hQ, by omega, hj3, itsR.snoc (hI.mono (fun _ (s : (joinI _ _).sat _) => s.2)) (hc.mono (fun _ (s : (joinI _ _).sat _) => s.1)), ?_⟩, ?_⟩
      ·rw [e1, e2]
       exact (Own.sel ‹_› [2, 6, 0, 1, 3, 4, 5] rfl).join.sel [1, 2, 3, 4, 5, 0] rfl
      ·have hm1 := lenM_of (b := b103) ‹_› 4 rfl (off := 0) rfl
       rw [hm0, hm1]
       omega
    ·rw [items_stop (fun h => hlt h.2)] at hQ
     refine DrawVC.intro [0, 1, 2, 4, 5, 6, 7, 8, 10, 11, 12, 14, 15, 16] [3, 9, 13] [] [0, 1, 2, 3, 4, 5, 6, 7, 8, 9, 10, 11, 12, 13, 14, 15, 16] mixed (by kernel_rfl) rfl (fun _ _ _ _ h => h) ?_
     refine nilCheck rfl ?_
     refine fieldAddr st73 rfl rfl rfl ?_
     refine loadO oh 0 rfl ty26 rfl rfl ?_
     refine Br.dec (fun c503 => ?_) (fun hc => absurd (by omega) hc)
     refine nilCheck rfl ?_
     refine fieldAddr st73 rfl rfl rfl ?_
     refine loadO oh 0 rfl ty3 rfl rfl ?_
     refine nilCheck rfl ?_
     refine fieldAddr st73 rfl rfl rfl ?_
     refine loadO oh 0 rfl ty31 rfl rfl ?_
     refine lenV rfl sl31 ?_
     refine Br.dec (fun hc => absurd hc (by omega)) (fun c511 => ?_)
     refine run (nilCheck rfl ?_)
     refine run (fieldAddr st73 rfl rfl rfl ?_)
     refine run (loadO oh 0 rfl ty26 rfl rfl ?_)
     refine Br.ndec (fun hc => absurd (by first | omega | assumption | decide | exact rfl) hc) (fun c515 => ?_)
     refine run (loadON oh 3 rfl ty25 rfl rfl rfl ?_)
     (refine RunVC.storeL oh 2 rfl ty25 rfl (by decide) (And.intro ⟨rfl, rfl⟩ ?_); intro m517 o517)
     first | refine RetVC.cell2 rfl o517 2 rfl ty25 rfl rfl ?_ | refine RetVC.cell1 rfl o517 2 rfl ty25 rfl rfl ?_ | refine RetVC.cellTT rfl o517 2 rfl ty25 rfl rfl ?_
     show ParsePost h t _ _
     refine rpost_parse hL hbig ?_
     unfold RPost
     rw [hT, ← hQ, if_pos he]
     exact ⟨_, _, rfl, ⟨cs, row_reads.inl, hI.mono (fun _ (s : (joinI _ _).sat _) => s.2)⟩, (Own.sel ‹_› [4, 5] rfl).join⟩
   ·rw [items_stop (fun h => he h.1)] at hQ
    refine DrawVC.intro [0, 1, 2, 4, 5, 6, 7, 8, 10, 11, 12, 14, 15, 16] [3, 9, 13] [] [0, 1, 2, 3, 4, 5, 6, 7, 8, 9, 10, 11, 12, 13, 14, 15, 16] mixed (by kernel_rfl) rfl (fun _ _ _ _ h => h) ?_
    refine nilCheck rfl ?_
    refine fieldAddr st73 rfl rfl rfl ?_
    refine loadO oh 0 rfl ty26 rfl rfl ?_
    refine Br.dec (fun hc => absurd hc (by omega)) (fun c603 => ?_)
    refine Br.ff ?_
    refine run (nilCheck rfl ?_)
    refine run (fieldAddr st73 rfl rfl rfl ?_)
    refine run (loadO oh 0 rfl ty26 rfl rfl ?_)
    refine Br.ndec (fun c603 => ?_) (fun hc => absurd hc (by first | omega | assumption | decide | exact rfl))
    refine DrawVC.introB b102 [0, 1, 2, 3, 5, 6, 7, 10, 11] [4, 8] [] [0, 1, 2, 3, 4, 5, 6, 7, 8, 9, 10, 11] mixed (by kernel_rfl) rfl (fun _ _ _ _ h => h) ?_
    refine buildK st25 ?_
    refine nilCheck rfl ?_
    refine fieldAddr st73 rfl rfl rfl ?_
    refine StillVCA.load1 ty26 rfl rfl ((oh.cellB 0 rfl _).trans rfl) ?_
    refine nilCheck rfl ?_
    refine fieldAddr st73 rfl rfl rfl ?_
    refine StillVCA.load1 ty3 rfl rfl ((oh.cellB 0 rfl _).trans rfl) ?_
    (refine RunVC.storeL oh 2 rfl ty25 rfl (by decide) (And.intro ⟨rfl, rfl⟩ ?_); intro m627 o627)
    refine And.intro ((o627.boxBlk 0 rfl).trans (oh.boxBlk 0 rfl).symm) ?_
    first | refine RetVC.cell2 rfl o627 2 rfl ty25 rfl rfl ?_ | refine RetVC.cell1 rfl o627 2 rfl ty25 rfl rfl ?_ | refine RetVC.cellTT rfl o627 2 rfl ty25 rfl rfl ?_
    show ParsePost h t _ _
    refine rpost_parse hL hbig ?_
    unfold RPost
    rw [hT, ← hQ, if_neg he]
    exact ⟨rfl, Own.sel ‹_› [] rfl⟩

end Go.Proofs.YtnmfanjhepepbaaGreatDoor

/- The walk of ParserMatchesReference: both parsers give one answer. -/
namespace Go.Proofs.YtnmfanjhepepbaaGreatDoor
open Go StillVC

mutual
theorem eqEx_refl : ∀ (x : Ex), ExQ Eq x x
 | .mk k t ks c n a s g o => by
  rw [ExQ]
  exact ⟨rfl, rfl, rfl, rfl, rfl, rfl, rfl, rfl, eqExs_refl ks⟩
theorem eqExs_refl : ∀ (xs : List Ex), ExsQ Eq xs xs
 | [] => trivial
 | x :: xs => ⟨eqEx_refl x, eqExs_refl xs⟩
end

theorem eqIts_refl : ∀ (xs : List It), ItsQ Eq xs xs
 | [] => trivial
 | x :: xs => ⟨⟨x.off, x.expr, rfl, rfl, eqEx_refl _⟩, eqIts_refl xs⟩

/-- What the parsing of a text gives: an error, or items. -/
def resE (t : List UInt8) : Option (Int × Int) := if 20000 < t.length then some (3, -1) else match parseM t with
 | .error (e, i) => some (e, i)
 | .ok _ => none

theorem post_cases {h h' : Heap} {t : List UInt8} {v : Value} (hp : ParsePost h t v h') :
  (∃ e i, resE t = some (e, i) ∧ v = .tuple ⟨[.agg ⟨[nilV]⟩, .int .i64 e, .int .i64 i]⟩ ∧ Own h [] h') ∨
   (∃ xs ts u c I, resE t = none ∧ parseM t = .ok xs ∧ lexM t = .ok ts ∧ v = .tuple ⟨[.agg ⟨[.slice u xs.length c]⟩, .int .i64 0, .int .i64 0]⟩ ∧ progR I (.slice u xs.length c) xs ∧ Own h [I] h') := by
 unfold ParsePost at hp
 by_cases hbig : 20000 < t.length
 ·rw [if_pos hbig] at hp
  exact .inl ⟨3, -1, if_pos hbig, hp⟩
 ·rw [if_neg hbig] at hp
  cases hM : parseM t with
  | error y =>
   obtain ⟨e, i⟩ := y
   rw [hM] at hp
   exact .inl ⟨e, i, by unfold resE; rw [if_neg hbig, hM], hp⟩
  | ok xs =>
   rw [hM] at hp
   obtain ⟨u, I, rfl, hr, ho⟩ := hp
   have hL : ∃ ts, lexM t = .ok ts := by
    unfold parseM at hM
    cases hL : lexM t with
    | error y => rw [hL] at hM; cases hM
    | ok ts => exact ⟨ts, rfl⟩
   obtain ⟨ts, hL⟩ := hL
   obtain ⟨cs, r1, r2⟩ := hr
   obtain ⟨a, c, rfl⟩ := r1.isS (Own.satK ho 0 rfl)
   exact .inr ⟨xs, ts, a, c, I, by unfold resE; rw [if_neg hbig, hM], rfl, hL, rfl, ⟨cs, r1, r2⟩, ho⟩

set_option maxHeartbeats 8000000 in
set_option maxRecDepth 100000 in
theorem matches_spec (t : List UInt8) (h : Heap) (ht : t.length ≤ 9223372036854775807) (hW : WordsH h) : SpecR Tryz.prog 3 [.string ⟨⟨t⟩⟩] h fun v h' => v = .bool true ∧ Own h [] h' := by
 refine Spec.enter Tryz.func3 rfl Tryz.ntmps3 (by kernel_rfl) ?_
 have o0 := Own.refl h
 refine CallVC.ret (head_spec _ hW) ?_
 rintro _ h1 ⟨rfl, oc⟩
 have o1 := oc.thenE ‹_›
 clear oc
 by_cases hbig : 30000 < t.length
 ·refine run (lenS rfl str9 ?_)
  refine Br.dec (fun c21 => ?_) (fun hc => absurd (by omega) hc)
  refine RetVC.one rfl ?_
  exact ⟨rfl, Own.sel ‹_› [] rfl⟩
 refine run (lenS rfl str9 ?_)
 refine Br.dec (fun hc => absurd hc (by omega)) (fun c101 => ?_)
 refine CallVC.ret ((parse_spec t _ ht (hW.ext (Own.ext (h := h1) ‹_›))).mono fun v h' hp => post_cases hp) ?_
 rintro _ h2 (⟨e, i, hr, rfl, oc⟩ | ⟨xs, ts, ua, uc, I, hr, hM, hL, rfl, hp, oc⟩)
 ·have o2 := oc.thenE ‹_›
  clear oc
  (refine RunVC.alloc o2 ty25 ?_; intro b120 m120 o120)
  (refine RunVC.storeL o120 0 rfl ty25 rfl (by decide) (And.intro ⟨rfl, rfl⟩ ?_); intro m121 o121)
  refine CallVC.ret ((rparse_spec t _ ht).mono fun v h' hp => post_cases hp) ?_
  rintro _ h3 (⟨e2, i2, hr2, rfl, oc⟩ | ⟨ys, ts2, va, vc, J, hr2, hM2, hL2, rfl, hp2, oc⟩)
  ·rw [hr] at hr2
   injection hr2 with hr2
   injection hr2 with q1 q2
   subst q1 q2
   have o3 := oc.thenE ‹_›
   clear oc
   (refine RunVC.alloc o3 ty25 ?_; intro b140 m140 o140)
   (refine RunVC.storeL o140 1 rfl ty25 rfl (by decide) (And.intro ⟨rfl, rfl⟩ ?_); intro m141 o141)
   refine Br.tt ?_
   refine run (loadON o141 0 rfl ty25 rfl rfl rfl ?_)
   refine run (loadON o141 1 rfl ty25 rfl rfl rfl ?_)
   refine CallVC.ret (same_spec Eq true (fun _ _ _ h => h) emptyI emptyI [] [] nilV nilV _ (by simp) trivial (by simp) ⟨[], nil_reads, trivial⟩ ⟨[], nil_reads, trivial⟩ (fun _ _ => trivial) (fun _ _ => trivial)) ?_
   rintro _ h4 ⟨rfl, oc⟩
   have o4 := oc.thenE ‹_›
   refine Br.tt ?_
   refine Br.dec (fun c160 => ?_) (fun hc => absurd (by omega) hc)
   refine RetVC.one rfl ?_
   exact ⟨by simp, Own.sel ‹_› [] rfl⟩
  ·rw [hr] at hr2
   cases hr2
 ·have o2 := Own.call ‹_› oc
  simp only [List.nil_append] at o2
  clear oc
  (refine RunVC.alloc o2 ty25 ?_; intro b200 m200 o200)
  (refine RunVC.storeL o200 1 rfl ty25 rfl (by decide) (And.intro ⟨rfl, rfl⟩ ?_); intro m201 o201)
  refine CallVC.ret ((rparse_spec t _ ht).mono fun v h' hp => post_cases hp) ?_
  rintro _ h3 (⟨e2, i2, hr2, rfl, oc⟩ | ⟨ys, ts2, va, vc, J, hr2, hM2, hL2, rfl, hp2, oc⟩)
  ·rw [hr] at hr2
   cases hr2
  ·rw [hM] at hM2
   injection hM2 with hM2
   subst hM2
   have o3 := Own.call ‹_› oc
   simp only [lcA, lnA] at o3
   clear oc
   obtain ⟨hI, hlen⟩ := (parseM_ok hL).1 hM
   have hB := hI.bound (N := 9999) (by decide) (by have := (lexM_props.2 ts hL).1; omega)
   (refine RunVC.alloc o3 ty25 ?_; intro b240 m240 o240)
   (refine RunVC.storeL o240 3 rfl ty25 rfl (by decide) (And.intro ⟨rfl, rfl⟩ ?_); intro m241 o241)
   refine Br.tt ?_
   refine run (loadON o241 1 rfl ty25 rfl rfl rfl ?_)
   refine run (loadON o241 3 rfl ty25 rfl rfl rfl ?_)
   refine CallVC.ret (same_spec Eq true (fun _ _ _ h => h) I J xs xs _ _ _ hB (eqIts_refl xs) (by omega) hp hp2 (Own.satE ‹_› 0 rfl) (Own.satE ‹_› 2 rfl)) ?_
   rintro _ h4 ⟨rfl, oc⟩
   have o4 := oc.thenE ‹_›
   refine Br.tt ?_
   refine Br.tt ?_
   refine RetVC.one rfl ?_
   exact ⟨rfl, Own.sel ‹_› [] rfl⟩

end Go.Proofs.YtnmfanjhepepbaaGreatDoor
