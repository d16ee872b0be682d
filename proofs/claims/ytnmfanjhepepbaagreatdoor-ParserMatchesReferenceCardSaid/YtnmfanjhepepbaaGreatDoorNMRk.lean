/-
 The reference's reader: items. The reference's reader: items, none. The reference's reader: items, table. The reference's reader: items, source. The reference's reader: items, block. The reference's reader: items, match. The reference's reader: items, keep. The reference's reader: items, unique. The reference's reader: items, depend. The reference's reader: items, include. The reference's reader: items, deny. The reference's reader: items, query. The reference's reader: items of every kind; what the lexer's tokens are to it.
-/
import Derived.Test.YtnmfanjhepepbaaGreatDoorNStructs
import Derived.Test.YtnmfanjhepepbaaGreatDoorNMRh
import Derived.Test.YtnmfanjhepepbaaGreatDoorNMPe
import Derived.Test.YtnmfanjhepepbaaGreatDoorNMRd
import Derived.Test.YtnmfanjhepepbaaGreatDoorNMRi
import Derived.Test.YtnmfanjhepepbaaGreatDoorNMPl
set_option linter.all false
/- The reference's reader: items. -/
namespace Go.Proofs.YtnmfanjhepepbaaGreatDoor
open Go StillVC

def lenM (b off : Nat) (h : Heap) : Nat := match cellAt h ⟨b, off, none⟩ with
 | some (.slice _ n _) => 6001 - n
 | _ => 0

theorem lenM_of {B : Base} {L : List Item} {h : Heap} {b off n : Nat} {cs : List Value} {t : TypeId} {a : Option Addr} {c : Nat} (o : Own B L h) (k : Nat) (hk : L[k]? = some (box b cs t)) (hc : cs[off]? = some (.slice a n c)) : lenM b off h = 6001 - n := by
 unfold lenM
 rw [(o.cellB k hk off).trans hc]

theorem ritemR_eq {L : List Tok} {z : Nat} {s : RS} {t : Tok} (hx : L[s.i]? = some t) : ritemR L z s = (oneR L z itWords 1 >>= fun k => ifR (k != 5) (rnameR L z) [] >>= fun nm => partR L z k (x0 k nm t.off) >>= fun x => mustR L z (if k = 4 then [125] else [59]) >>= fun _ => (pure x : RM It)) s := by
 unfold ritemR
 simp only [hx]

end Go.Proofs.YtnmfanjhepepbaaGreatDoor

/- The reference's reader: items, none. -/
namespace Go.Proofs.YtnmfanjhepepbaaGreatDoor
open Go StillVC

set_option maxHeartbeats 100000000 in
set_option maxRecDepth 100000 in
theorem ritem_none (B : Base) (bp z : Nat) (tk : Item) (w : Value) (L : List Tok) (s : RS) (h : Heap) (o : Own B (RSt bp z w tk s) h) (hR : TokR tk w L) (hl : L.length ≤ 5000) (hlt : s.i < L.length) (hk : (oneR L z itWords 1 s).1 = 0) : SpecR Tryz.prog 19 [.pointer (some ⟨bp, 0, none⟩)] h fun v h' =>
   ∃ x s' I, ritemR L z s = (x, s') ∧ itV x v I ∧ s.i ≤ s'.i ∧ s'.i ≤ L.length ∧ Own B [box bp [w, .int .i64 s'.i, .int .i64 s'.e, .int .i64 s'.a, .int .i64 z] 73, tk, I] h' := by
 unfold RSt at o
 obtain ⟨hRd, hK⟩ := hR
 have hR : TokR tk w L := ⟨hRd, hK⟩
 obtain ⟨t, hx⟩ := getx hlt
 have hi := Nat.le_of_lt hlt
 have hE := ritemR_eq (z := z) hx
 refine Spec.enter Tryz.func19 rfl Tryz.ntmps19 (by kernel_rfl) ?_
 refine RunVC.alloc o ty51 ?_
 intro b10 m10 o10
 refine DrawVC.intro [0, 1, 2, 4, 5, 6, 8, 9, 11] [3, 7, 10] [13] [0, 1, 2, 3, 4, 5, 6, 7, 8, 9, 10, 11, 12, 13] mixed (by kernel_rfl) rfl (fun _ _ _ _ h => h) ?_
 refine nilCheck rfl ?_
 refine fieldAddr st73 rfl rfl rfl ?_
 refine loadO o10 0 rfl ty31 rfl rfl ?_
 refine nilCheck rfl ?_
 refine fieldAddr st73 rfl rfl rfl ?_
 refine loadO o10 0 rfl ty3 rfl rfl ?_
 refine idxN sl31 ty38 (o10.reads 1 hRd rfl) rfl (by omega) (by omega) ?_
 refine fieldAdr (o10.reads 1 hRd rfl) (by omega) st38 rfl rfl rfl ?_
 refine loadFF (o10.reads 1 hRd rfl) ty3 (fun _ => rfl) rfl ‹_› rfl ?_
 refine buildK st51 ?_
 refine And.intro rfl ?_
 refine RunVC.alloc (Own.refl m10) ty51 ?_
 intro b21 m21 oZ
 refine And.intro (Own.ext oZ) ?_
 have o21 := Own.call o10 oZ
 simp only [lcA, lnA] at o21
 clear oZ
 (refine RunVC.storeL o21 3 rfl ty51 rfl (by decide) (And.intro ⟨rfl, rfl⟩ ?_); intro m10 o10)
 refine CallVC.ret (rwords_spec _) ?_
 rintro _ h2 ⟨bw, rfl, oc⟩
 have o2 := Own.call ‹_› oc
 simp only [lcA, lnA] at o2
 clear oc
 refine rone_call (ss := itWords) ‹_› rfl ⟨4, by decide, rfl⟩ hR hl hi (by decide) (fun kk s1 v h1 hm hv hi1 hj1 oq => ?_)
 subst hv
 rw [RM.bind_of hm] at hE
 rw [hm] at hk
 dsimp only at hk
 subst hk
 have o1 := oq.sel [0, 1, 2, 3] rfl
 simp only [RSt, pick, lcA, lnA, lgS, lgZ, lgN] at o1
 clear oq o2 o21 hm
 rw [show (if (0 : Int) = 4 then ([125] : List UInt8) else [59]) = [59] from rfl] at hE
 rw [ifR_yes (show ((0 : Int) != 5) = true from rfl)] at hE
 refine run (fieldAddr st51 rfl rfl rfl ?_)
 (refine RunVC.store o1 3 rfl ty3 rfl (by simp) (And.intro ⟨rfl, rfl⟩ ?_); intro m31 o31)
 refine run (fieldAddr st51 rfl rfl rfl ?_)
 refine run (loadO o31 3 rfl ty3 rfl rfl ?_)
 refine Br.tt ?_
 refine rname_spec.callL ‹_› rfl hR hl hj1 (fun nm s21 v h21 hm hv hi21 hj21 oq => ?_)
 subst hv
 rw [RM.bind_of hm] at hE
 have o21 := oq
 simp only [RSt, pick, lcA, lnA, lgS, lgZ, lgN] at o21
 clear oq
 refine run (fieldAddr st51 rfl rfl rfl ?_)
 (refine RunVC.store o21 3 rfl ty9 rfl (by simp) (And.intro ⟨rfl, rfl⟩ ?_); intro m41 o41)
 refine run (fieldAddr st51 rfl rfl rfl ?_)
 refine run (loadO o41 3 rfl ty3 rfl rfl ?_)
 refine Br.ff ?_
 refine Br.ff ?_
 refine Br.ff ?_
 refine Br.ff ?_
 refine Br.ff ?_
 refine Br.ff ?_
 refine Br.ff ?_
 refine Br.ff ?_
 refine Br.ff ?_
 refine Br.ff ?_
 rw [show partR L z 0 (x0 0 nm t.off) = pure (x0 0 nm t.off) from rfl] at hE
 simp only [RM.assoc, RM.pure_bind] at hE
 refine (rmust_spec [59]).callL ‹_› rfl hR hl hj21 (fun a22 s22 v h22 hm hv hi22 hj22 oq => ?_)
 subst hv
 rw [RM.bind_of hm] at hE
 have o22 := oq
 simp only [RSt, pick, lcA, lnA, lgS, lgZ, lgN] at o22
 clear oq
 refine run (loadON o22 3 rfl ty51 rfl rfl rfl ?_)
 (refine RunVC.storeL o22 2 rfl ty51 rfl (by decide) (And.intro ⟨rfl, rfl⟩ ?_); intro m51 o51)
 first | refine RetVC.cell2 rfl o51 2 rfl ty51 rfl rfl ?_ | refine RetVC.cell1 rfl o51 2 rfl ty51 rfl rfl ?_ | refine RetVC.cellTT rfl o51 2 rfl ty51 rfl rfl ?_
 obtain ⟨W, oW, hs⟩ := Own.allM (M := [_, _]) ‹_› [3] [0, 1] rfl rfl
 exact ⟨_, _, W, hE, ⟨_, rfl, ⟨_, _, _, _, _, _, _, _, _, _, _, _, _, _, _, rfl, nil_reads, nil_reads, nil_reads, nil_reads, nil_reads, nil_reads, exR_zero _⟩⟩, by omega, by omega, oW.sel [1, 2, 0] rfl⟩

end Go.Proofs.YtnmfanjhepepbaaGreatDoor

/- The reference's reader: items, table. -/
namespace Go.Proofs.YtnmfanjhepepbaaGreatDoor
open Go StillVC

set_option maxHeartbeats 100000000 in
set_option maxRecDepth 100000 in
theorem ritem_table (B : Base) (bp z : Nat) (tk : Item) (w : Value) (L : List Tok) (s : RS) (h : Heap) (o : Own B (RSt bp z w tk s) h) (hR : TokR tk w L) (hl : L.length ≤ 5000) (hlt : s.i < L.length) (hk : (oneR L z itWords 1 s).1 = 1) : SpecR Tryz.prog 19 [.pointer (some ⟨bp, 0, none⟩)] h fun v h' =>
   ∃ x s' I, ritemR L z s = (x, s') ∧ itV x v I ∧ s.i ≤ s'.i ∧ s'.i ≤ L.length ∧ Own B [box bp [w, .int .i64 s'.i, .int .i64 s'.e, .int .i64 s'.a, .int .i64 z] 73, tk, I] h' := by
 unfold RSt at o
 obtain ⟨hRd, hK⟩ := hR
 have hR : TokR tk w L := ⟨hRd, hK⟩
 obtain ⟨t, hx⟩ := getx hlt
 have hi := Nat.le_of_lt hlt
 have hE := ritemR_eq (z := z) hx
 refine Spec.enter Tryz.func19 rfl Tryz.ntmps19 (by kernel_rfl) ?_
 refine RunVC.alloc o ty51 ?_
 intro b10 m10 o10
 refine DrawVC.intro [0, 1, 2, 4, 5, 6, 8, 9, 11] [3, 7, 10] [13] [0, 1, 2, 3, 4, 5, 6, 7, 8, 9, 10, 11, 12, 13] mixed (by kernel_rfl) rfl (fun _ _ _ _ h => h) ?_
 refine nilCheck rfl ?_
 refine fieldAddr st73 rfl rfl rfl ?_
 refine loadO o10 0 rfl ty31 rfl rfl ?_
 refine nilCheck rfl ?_
 refine fieldAddr st73 rfl rfl rfl ?_
 refine loadO o10 0 rfl ty3 rfl rfl ?_
 refine idxN sl31 ty38 (o10.reads 1 hRd rfl) rfl (by omega) (by omega) ?_
 refine fieldAdr (o10.reads 1 hRd rfl) (by omega) st38 rfl rfl rfl ?_
 refine loadFF (o10.reads 1 hRd rfl) ty3 (fun _ => rfl) rfl ‹_› rfl ?_
 refine buildK st51 ?_
 refine And.intro rfl ?_
 refine RunVC.alloc (Own.refl m10) ty51 ?_
 intro b21 m21 oZ
 refine And.intro (Own.ext oZ) ?_
 have o21 := Own.call o10 oZ
 simp only [lcA, lnA] at o21
 clear oZ
 (refine RunVC.storeL o21 3 rfl ty51 rfl (by decide) (And.intro ⟨rfl, rfl⟩ ?_); intro m10 o10)
 refine CallVC.ret (rwords_spec _) ?_
 rintro _ h2 ⟨bw, rfl, oc⟩
 have o2 := Own.call ‹_› oc
 simp only [lcA, lnA] at o2
 clear oc
 refine rone_call (ss := itWords) ‹_› rfl ⟨4, by decide, rfl⟩ hR hl hi (by decide) (fun kk s1 v h1 hm hv hi1 hj1 oq => ?_)
 subst hv
 rw [RM.bind_of hm] at hE
 rw [hm] at hk
 dsimp only at hk
 subst hk
 have o1 := oq.sel [0, 1, 2, 3] rfl
 simp only [RSt, pick, lcA, lnA, lgS, lgZ, lgN] at o1
 clear oq o2 o21 hm
 rw [show (if (1 : Int) = 4 then ([125] : List UInt8) else [59]) = [59] from rfl] at hE
 rw [ifR_yes (show ((1 : Int) != 5) = true from rfl)] at hE
 refine run (fieldAddr st51 rfl rfl rfl ?_)
 (refine RunVC.store o1 3 rfl ty3 rfl (by simp) (And.intro ⟨rfl, rfl⟩ ?_); intro m31 o31)
 refine run (fieldAddr st51 rfl rfl rfl ?_)
 refine run (loadO o31 3 rfl ty3 rfl rfl ?_)
 refine Br.tt ?_
 refine rname_spec.callL ‹_› rfl hR hl hj1 (fun nm s21 v h21 hm hv hi21 hj21 oq => ?_)
 subst hv
 rw [RM.bind_of hm] at hE
 have o21 := oq
 simp only [RSt, pick, lcA, lnA, lgS, lgZ, lgN] at o21
 clear oq
 refine run (fieldAddr st51 rfl rfl rfl ?_)
 (refine RunVC.store o21 3 rfl ty9 rfl (by simp) (And.intro ⟨rfl, rfl⟩ ?_); intro m41 o41)
 refine run (fieldAddr st51 rfl rfl rfl ?_)
 refine run (loadO o41 3 rfl ty3 rfl rfl ?_)
 refine Br.tt ?_
 rw [show partR L z 1 (x0 1 nm t.off) = tableR L z (x0 1 nm t.off) from rfl] at hE
 simp only [tableR, RM.assoc, RM.pure_bind] at hE
 refine (rmust_spec [40]).callL ‹_› rfl hR hl hj21 (fun a22 s22 v h22 hm hv hi22 hj22 oq => ?_)
 subst hv
 rw [RM.bind_of hm] at hE
 have o22 := oq
 simp only [RSt, pick, lcA, lnA, lgS, lgZ, lgN] at o22
 clear oq
 rw [show listR L [44] (columnR L z) = columnsR L z from rfl] at hE
 refine RSpecI.callL rcolumns_spec ‹_› rfl hR hl hj22 (fun lc s23 v23 I23 h23 hm hv hi23 hj23 oq => ?_)
 obtain ⟨hn23, rfl⟩ := hv
 rw [RM.bind_of hm] at hE
 have o23 := oq
 simp only [RSt, pick, lcA, lnA, lgS, lgZ, lgN] at o23
 clear oq
 obtain ⟨va23, vb23, rfl⟩ := o23.rowIs 2 rfl
 refine run (fieldAddr st51 rfl rfl rfl ?_)
 (refine RunVC.store o23 4 rfl ty41 rfl (by simp) (And.intro ⟨rfl, rfl⟩ ?_); intro m61 o61)
 refine (rmust_spec [41]).callL ‹_› rfl hR hl hj23 (fun a24 s24 v h24 hm hv hi24 hj24 oq => ?_)
 subst hv
 rw [RM.bind_of hm] at hE
 have o24 := oq
 simp only [RSt, pick, lcA, lnA, lgS, lgZ, lgN] at o24
 clear oq
 refine (rmust_spec [107, 101, 121]).callL ‹_› rfl hR hl hj24 (fun a25 s25 v h25 hm hv hi25 hj25 oq => ?_)
 subst hv
 rw [RM.bind_of hm] at hE
 have o25 := oq
 simp only [RSt, pick, lcA, lnA, lgS, lgZ, lgN] at o25
 clear oq
 refine RSpecI.callL rnames_spec ‹_› rfl hR hl hj25 (fun ln s26 v26 I26 h26 hm hv hi26 hj26 oq => ?_)
 obtain ⟨hn26, rfl⟩ := hv
 rw [RM.bind_of hm] at hE
 have o26 := oq
 simp only [RSt, pick, lcA, lnA, lgS, lgZ, lgN] at o26
 clear oq
 obtain ⟨va26, vb26, rfl⟩ := o26.rowIs 2 rfl
 refine run (fieldAddr st51 rfl rfl rfl ?_)
 (refine RunVC.store o26 5 rfl ty42 rfl (by simp) (And.intro ⟨rfl, rfl⟩ ?_); intro m91 o91)
 refine (rmust_spec [59]).callL ‹_› rfl hR hl hj26 (fun a27 s27 v h27 hm hv hi27 hj27 oq => ?_)
 subst hv
 rw [RM.bind_of hm] at hE
 have o27 := oq
 simp only [RSt, pick, lcA, lnA, lgS, lgZ, lgN] at o27
 clear oq
 refine run (loadON o27 5 rfl ty51 rfl rfl rfl ?_)
 (refine RunVC.storeL o27 4 rfl ty51 rfl (by decide) (And.intro ⟨rfl, rfl⟩ ?_); intro m101 o101)
 first | refine RetVC.cell2 rfl o101 4 rfl ty51 rfl rfl ?_ | refine RetVC.cell1 rfl o101 4 rfl ty51 rfl rfl ?_ | refine RetVC.cellTT rfl o101 4 rfl ty51 rfl rfl ?_
 obtain ⟨W, oW, hs⟩ := Own.allM (M := [_, _]) ‹_› [2, 3, 4, 5, 6] [0, 1] rfl rfl
 exact ⟨_, _, W, hE, ⟨_, rfl, ⟨_, _, _, _, _, _, _, _, _, _, _, _, _, _, _, rfl, (row_reads.mono (hs 1 _ rfl)), (row_reads.mono (hs 0 _ rfl)), nil_reads, nil_reads, nil_reads, nil_reads, exR_zero _⟩⟩, by omega, by omega, oW.sel [1, 2, 0] rfl⟩

end Go.Proofs.YtnmfanjhepepbaaGreatDoor

/- The reference's reader: items, source. -/
namespace Go.Proofs.YtnmfanjhepepbaaGreatDoor
open Go StillVC

set_option maxHeartbeats 100000000 in
set_option maxRecDepth 100000 in
theorem ritem_source (B : Base) (bp z : Nat) (tk : Item) (w : Value) (L : List Tok) (s : RS) (h : Heap) (o : Own B (RSt bp z w tk s) h) (hR : TokR tk w L) (hl : L.length ≤ 5000) (hlt : s.i < L.length) (hk : (oneR L z itWords 1 s).1 = 2) : SpecR Tryz.prog 19 [.pointer (some ⟨bp, 0, none⟩)] h fun v h' =>
   ∃ x s' I, ritemR L z s = (x, s') ∧ itV x v I ∧ s.i ≤ s'.i ∧ s'.i ≤ L.length ∧ Own B [box bp [w, .int .i64 s'.i, .int .i64 s'.e, .int .i64 s'.a, .int .i64 z] 73, tk, I] h' := by
 unfold RSt at o
 obtain ⟨hRd, hK⟩ := hR
 have hR : TokR tk w L := ⟨hRd, hK⟩
 obtain ⟨t, hx⟩ := getx hlt
 have hi := Nat.le_of_lt hlt
 have hE := ritemR_eq (z := z) hx
 refine Spec.enter Tryz.func19 rfl Tryz.ntmps19 (by kernel_rfl) ?_
 refine RunVC.alloc o ty51 ?_
 intro b10 m10 o10
 refine DrawVC.intro [0, 1, 2, 4, 5, 6, 8, 9, 11] [3, 7, 10] [13] [0, 1, 2, 3, 4, 5, 6, 7, 8, 9, 10, 11, 12, 13] mixed (by kernel_rfl) rfl (fun _ _ _ _ h => h) ?_
 refine nilCheck rfl ?_
 refine fieldAddr st73 rfl rfl rfl ?_
 refine loadO o10 0 rfl ty31 rfl rfl ?_
 refine nilCheck rfl ?_
 refine fieldAddr st73 rfl rfl rfl ?_
 refine loadO o10 0 rfl ty3 rfl rfl ?_
 refine idxN sl31 ty38 (o10.reads 1 hRd rfl) rfl (by omega) (by omega) ?_
 refine fieldAdr (o10.reads 1 hRd rfl) (by omega) st38 rfl rfl rfl ?_
 refine loadFF (o10.reads 1 hRd rfl) ty3 (fun _ => rfl) rfl ‹_› rfl ?_
 refine buildK st51 ?_
 refine And.intro rfl ?_
 refine RunVC.alloc (Own.refl m10) ty51 ?_
 intro b21 m21 oZ
 refine And.intro (Own.ext oZ) ?_
 have o21 := Own.call o10 oZ
 simp only [lcA, lnA] at o21
 clear oZ
 (refine RunVC.storeL o21 3 rfl ty51 rfl (by decide) (And.intro ⟨rfl, rfl⟩ ?_); intro m10 o10)
 refine CallVC.ret (rwords_spec _) ?_
 rintro _ h2 ⟨bw, rfl, oc⟩
 have o2 := Own.call ‹_› oc
 simp only [lcA, lnA] at o2
 clear oc
 refine rone_call (ss := itWords) ‹_› rfl ⟨4, by decide, rfl⟩ hR hl hi (by decide) (fun kk s1 v h1 hm hv hi1 hj1 oq => ?_)
 subst hv
 rw [RM.bind_of hm] at hE
 rw [hm] at hk
 dsimp only at hk
 subst hk
 have o1 := oq.sel [0, 1, 2, 3] rfl
 simp only [RSt, pick, lcA, lnA, lgS, lgZ, lgN] at o1
 clear oq o2 o21 hm
 rw [show (if (2 : Int) = 4 then ([125] : List UInt8) else [59]) = [59] from rfl] at hE
 rw [ifR_yes (show ((2 : Int) != 5) = true from rfl)] at hE
 refine run (fieldAddr st51 rfl rfl rfl ?_)
 (refine RunVC.store o1 3 rfl ty3 rfl (by simp) (And.intro ⟨rfl, rfl⟩ ?_); intro m31 o31)
 refine run (fieldAddr st51 rfl rfl rfl ?_)
 refine run (loadO o31 3 rfl ty3 rfl rfl ?_)
 refine Br.tt ?_
 refine rname_spec.callL ‹_› rfl hR hl hj1 (fun nm s21 v h21 hm hv hi21 hj21 oq => ?_)
 subst hv
 rw [RM.bind_of hm] at hE
 have o21 := oq
 simp only [RSt, pick, lcA, lnA, lgS, lgZ, lgN] at o21
 clear oq
 refine run (fieldAddr st51 rfl rfl rfl ?_)
 (refine RunVC.store o21 3 rfl ty9 rfl (by simp) (And.intro ⟨rfl, rfl⟩ ?_); intro m41 o41)
 refine run (fieldAddr st51 rfl rfl rfl ?_)
 refine run (loadO o41 3 rfl ty3 rfl rfl ?_)
 refine Br.ff ?_
 refine Br.tt ?_
 rw [show partR L z 2 (x0 2 nm t.off) = sourceR L z (x0 2 nm t.off) from rfl] at hE
 simp only [sourceR, RM.assoc, RM.pure_bind] at hE
 refine (rmust_spec [116, 114, 117, 115, 116]).callL ‹_› rfl hR hl hj21 (fun a22 s22 v h22 hm hv hi22 hj22 oq => ?_)
 subst hv
 rw [RM.bind_of hm] at hE
 have o22 := oq
 simp only [RSt, pick, lcA, lnA, lgS, lgZ, lgN] at o22
 clear oq
 refine rnumber_spec.callL ‹_› rfl hR hl hj22 (fun n_ s23 v h23 hm hv hi23 hj23 oq => ?_)
 obtain ⟨rfl, hv0_23, hv1_23⟩ := hv
 rw [RM.bind_of hm] at hE
 have o23 := oq
 simp only [RSt, pick, lcA, lnA, lgS, lgZ, lgN] at o23
 clear oq
 refine run (fieldAddr st51 rfl rfl rfl ?_)
 (refine RunVC.store o23 3 rfl ty3 rfl (by simp) (And.intro ⟨rfl, rfl⟩ ?_); intro m61 o61)
 refine (rmust_spec [59]).callL ‹_› rfl hR hl hj23 (fun a24 s24 v h24 hm hv hi24 hj24 oq => ?_)
 subst hv
 rw [RM.bind_of hm] at hE
 have o24 := oq
 simp only [RSt, pick, lcA, lnA, lgS, lgZ, lgN] at o24
 clear oq
 refine run (loadON o24 3 rfl ty51 rfl rfl rfl ?_)
 (refine RunVC.storeL o24 2 rfl ty51 rfl (by decide) (And.intro ⟨rfl, rfl⟩ ?_); intro m71 o71)
 first | refine RetVC.cell2 rfl o71 2 rfl ty51 rfl rfl ?_ | refine RetVC.cell1 rfl o71 2 rfl ty51 rfl rfl ?_ | refine RetVC.cellTT rfl o71 2 rfl ty51 rfl rfl ?_
 obtain ⟨W, oW, hs⟩ := Own.allM (M := [_, _]) ‹_› [3] [0, 1] rfl rfl
 exact ⟨_, _, W, hE, ⟨_, rfl, ⟨_, _, _, _, _, _, _, _, _, _, _, _, _, _, _, rfl, nil_reads, nil_reads, nil_reads, nil_reads, nil_reads, nil_reads, exR_zero _⟩⟩, by omega, by omega, oW.sel [1, 2, 0] rfl⟩

end Go.Proofs.YtnmfanjhepepbaaGreatDoor

/- The reference's reader: items, block. -/
namespace Go.Proofs.YtnmfanjhepepbaaGreatDoor
open Go StillVC

set_option maxHeartbeats 100000000 in
set_option maxRecDepth 100000 in
theorem ritem_block (B : Base) (bp z : Nat) (tk : Item) (w : Value) (L : List Tok) (s : RS) (h : Heap) (o : Own B (RSt bp z w tk s) h) (hR : TokR tk w L) (hl : L.length ≤ 5000) (hlt : s.i < L.length) (hk : (oneR L z itWords 1 s).1 = 3) : SpecR Tryz.prog 19 [.pointer (some ⟨bp, 0, none⟩)] h fun v h' =>
   ∃ x s' I, ritemR L z s = (x, s') ∧ itV x v I ∧ s.i ≤ s'.i ∧ s'.i ≤ L.length ∧ Own B [box bp [w, .int .i64 s'.i, .int .i64 s'.e, .int .i64 s'.a, .int .i64 z] 73, tk, I] h' := by
 unfold RSt at o
 obtain ⟨hRd, hK⟩ := hR
 have hR : TokR tk w L := ⟨hRd, hK⟩
 obtain ⟨t, hx⟩ := getx hlt
 have hi := Nat.le_of_lt hlt
 have hE := ritemR_eq (z := z) hx
 refine Spec.enter Tryz.func19 rfl Tryz.ntmps19 (by kernel_rfl) ?_
 refine RunVC.alloc o ty51 ?_
 intro b10 m10 o10
 refine DrawVC.intro [0, 1, 2, 4, 5, 6, 8, 9, 11] [3, 7, 10] [13] [0, 1, 2, 3, 4, 5, 6, 7, 8, 9, 10, 11, 12, 13] mixed (by kernel_rfl) rfl (fun _ _ _ _ h => h) ?_
 refine nilCheck rfl ?_
 refine fieldAddr st73 rfl rfl rfl ?_
 refine loadO o10 0 rfl ty31 rfl rfl ?_
 refine nilCheck rfl ?_
 refine fieldAddr st73 rfl rfl rfl ?_
 refine loadO o10 0 rfl ty3 rfl rfl ?_
 refine idxN sl31 ty38 (o10.reads 1 hRd rfl) rfl (by omega) (by omega) ?_
 refine fieldAdr (o10.reads 1 hRd rfl) (by omega) st38 rfl rfl rfl ?_
 refine loadFF (o10.reads 1 hRd rfl) ty3 (fun _ => rfl) rfl ‹_› rfl ?_
 refine buildK st51 ?_
 refine And.intro rfl ?_
 refine RunVC.alloc (Own.refl m10) ty51 ?_
 intro b21 m21 oZ
 refine And.intro (Own.ext oZ) ?_
 have o21 := Own.call o10 oZ
 simp only [lcA, lnA] at o21
 clear oZ
 (refine RunVC.storeL o21 3 rfl ty51 rfl (by decide) (And.intro ⟨rfl, rfl⟩ ?_); intro m10 o10)
 refine CallVC.ret (rwords_spec _) ?_
 rintro _ h2 ⟨bw, rfl, oc⟩
 have o2 := Own.call ‹_› oc
 simp only [lcA, lnA] at o2
 clear oc
 refine rone_call (ss := itWords) ‹_› rfl ⟨4, by decide, rfl⟩ hR hl hi (by decide) (fun kk s1 v h1 hm hv hi1 hj1 oq => ?_)
 subst hv
 rw [RM.bind_of hm] at hE
 rw [hm] at hk
 dsimp only at hk
 subst hk
 have o1 := oq.sel [0, 1, 2, 3] rfl
 simp only [RSt, pick, lcA, lnA, lgS, lgZ, lgN] at o1
 clear oq o2 o21 hm
 rw [show (if (3 : Int) = 4 then ([125] : List UInt8) else [59]) = [59] from rfl] at hE
 rw [ifR_yes (show ((3 : Int) != 5) = true from rfl)] at hE
 refine run (fieldAddr st51 rfl rfl rfl ?_)
 (refine RunVC.store o1 3 rfl ty3 rfl (by simp) (And.intro ⟨rfl, rfl⟩ ?_); intro m31 o31)
 refine run (fieldAddr st51 rfl rfl rfl ?_)
 refine run (loadO o31 3 rfl ty3 rfl rfl ?_)
 refine Br.tt ?_
 refine rname_spec.callL ‹_› rfl hR hl hj1 (fun nm s21 v h21 hm hv hi21 hj21 oq => ?_)
 subst hv
 rw [RM.bind_of hm] at hE
 have o21 := oq
 simp only [RSt, pick, lcA, lnA, lgS, lgZ, lgN] at o21
 clear oq
 refine run (fieldAddr st51 rfl rfl rfl ?_)
 (refine RunVC.store o21 3 rfl ty9 rfl (by simp) (And.intro ⟨rfl, rfl⟩ ?_); intro m41 o41)
 refine run (fieldAddr st51 rfl rfl rfl ?_)
 refine run (loadO o41 3 rfl ty3 rfl rfl ?_)
 refine Br.ff ?_
 refine Br.ff ?_
 refine Br.tt ?_
 rw [show partR L z 3 (x0 3 nm t.off) = blockR L z (x0 3 nm t.off) from rfl] at hE
 simp only [blockR, RM.assoc, RM.pure_bind] at hE
 refine (rmust_spec [111, 110]).callL ‹_› rfl hR hl hj21 (fun a22 s22 v h22 hm hv hi22 hj22 oq => ?_)
 subst hv
 rw [RM.bind_of hm] at hE
 have o22 := oq
 simp only [RSt, pick, lcA, lnA, lgS, lgZ, lgN] at o22
 clear oq
 refine rplace_spec.callL ‹_› rfl hR hl hj22 (fun pl22 s23 v h23 hm hv hi23 hj23 oq => ?_)
 subst hv
 rw [RM.bind_of hm] at hE
 have o23 := oq
 simp only [RSt, pick, lcA, lnA, lgS, lgZ, lgN] at o23
 clear oq
 refine run (fieldAddr st51 rfl rfl rfl ?_)
 (refine RunVC.store o23 3 rfl ty9 rfl (by simp) (And.intro ⟨rfl, rfl⟩ ?_); intro m61 o61)
 refine run (fieldAddr st51 rfl rfl rfl ?_)
 (refine RunVC.store o61 3 rfl ty9 rfl (by simp) (And.intro ⟨rfl, rfl⟩ ?_); intro m63 o63)
 refine (rmust_spec [98, 121]).callL ‹_› rfl hR hl hj23 (fun a24 s24 v h24 hm hv hi24 hj24 oq => ?_)
 subst hv
 rw [RM.bind_of hm] at hE
 have o24 := oq
 simp only [RSt, pick, lcA, lnA, lgS, lgZ, lgN] at o24
 clear oq
 (refine RunVC.lit o24 sl42 ty9 rfl rfl (by decide) (And.intro rfl ?_); intro b70 m70 o70)
 refine rone_call (ss := [[101, 120, 97, 99, 116], [116, 111, 107, 101, 110], [112, 114, 101, 102, 105, 120], [115, 107, 101, 116, 99, 104]]) ‹_› rfl ⟨4, by decide, rfl⟩ hR hl hj24 (by decide) (fun b_ s25 v h25 hm hv hi25 hj25 oq => ?_)
 subst hv
 rw [RM.bind_of hm] at hE
 have o25 := oq
 simp only [RSt, pick, lcA, lnA, lgS, lgZ, lgN] at o25
 clear oq
 by_cases h3 : 3 ≤ b_
 ·rw [ifR_yes (by simp [h3])] at hE
  refine run (fieldAddr st51 rfl rfl rfl ?_)
  (refine RunVC.store o25 3 rfl ty3 rfl (by simp) (And.intro ⟨rfl, rfl⟩ ?_); intro m81 o81)
  refine run (fieldAddr st51 rfl rfl rfl ?_)
  refine run (loadO o81 3 rfl ty3 rfl rfl ?_)
  refine Br.dec (fun c84 => ?_) (fun hc => absurd (by omega) hc)
  refine rnumber_spec.callL ‹_› rfl hR hl hj25 (fun n_ s26 v h26 hm hv hi26 hj26 oq => ?_)
  obtain ⟨rfl, hv0_26, hv1_26⟩ := hv
  rw [RM.bind_of hm] at hE
  have o26 := oq
  simp only [RSt, pick, lcA, lnA, lgS, lgZ, lgN] at o26
  clear oq
  by_cases h4 : b_ = 4
  ·rw [ifR_yes (by simp [h4])] at hE
   refine run (fieldAddr st51 rfl rfl rfl ?_)
   (refine RunVC.store o26 3 rfl ty3 rfl (by simp) (And.intro ⟨rfl, rfl⟩ ?_); intro m91 o91)
   refine run (fieldAddr st51 rfl rfl rfl ?_)
   refine run (loadO o91 3 rfl ty3 rfl rfl ?_)
   refine Br.dec (fun c94 => ?_) (fun hc => absurd (by omega) hc)
   refine rnumber_spec.callL ‹_› rfl hR hl hj26 (fun m_ s27 v h27 hm hv hi27 hj27 oq => ?_)
   obtain ⟨rfl, hv0_27, hv1_27⟩ := hv
   rw [RM.bind_of hm] at hE
   have o27 := oq
   simp only [RSt, pick, lcA, lnA, lgS, lgZ, lgN] at o27
   clear oq
   refine run (fieldAddr st51 rfl rfl rfl ?_)
   (refine RunVC.store o27 3 rfl ty3 rfl (by simp) (And.intro ⟨rfl, rfl⟩ ?_); intro m101 o101)
   refine (rmust_spec [59]).callL ‹_› rfl hR hl hj27 (fun a28 s28 v h28 hm hv hi28 hj28 oq => ?_)
   subst hv
   rw [RM.bind_of hm] at hE
   have o28 := oq
   simp only [RSt, pick, lcA, lnA, lgS, lgZ, lgN] at o28
   clear oq
   refine run (loadON o28 3 rfl ty51 rfl rfl rfl ?_)
   (refine RunVC.storeL o28 2 rfl ty51 rfl (by decide) (And.intro ⟨rfl, rfl⟩ ?_); intro m111 o111)
   first | refine RetVC.cell2 rfl o111 2 rfl ty51 rfl rfl ?_ | refine RetVC.cell1 rfl o111 2 rfl ty51 rfl rfl ?_ | refine RetVC.cellTT rfl o111 2 rfl ty51 rfl rfl ?_
   obtain ⟨W, oW, hs⟩ := Own.allM (M := [_, _]) ‹_› [3] [0, 1] rfl rfl
   exact ⟨_, _, W, hE, ⟨_, rfl, ⟨_, _, _, _, _, _, _, _, _, _, _, _, _, _, _, rfl, nil_reads, nil_reads, nil_reads, nil_reads, nil_reads, nil_reads, exR_zero _⟩⟩, by omega, by omega, oW.sel [1, 2, 0] rfl⟩
  ·rw [ifR_no (by simp [h4]), RM.bind_of (RM.pure_eq _ _)] at hE
   refine run (fieldAddr st51 rfl rfl rfl ?_)
   (refine RunVC.store o26 3 rfl ty3 rfl (by simp) (And.intro ⟨rfl, rfl⟩ ?_); intro m121 o121)
   refine run (fieldAddr st51 rfl rfl rfl ?_)
   refine run (loadO o121 3 rfl ty3 rfl rfl ?_)
   refine Br.dec (fun hc => absurd hc (by omega)) (fun c124 => ?_)
   refine (rmust_spec [59]).callL ‹_› rfl hR hl hj26 (fun a29 s29 v h29 hm hv hi29 hj29 oq => ?_)
   subst hv
   rw [RM.bind_of hm] at hE
   have o29 := oq
   simp only [RSt, pick, lcA, lnA, lgS, lgZ, lgN] at o29
   clear oq
   refine run (loadON o29 3 rfl ty51 rfl rfl rfl ?_)
   (refine RunVC.storeL o29 2 rfl ty51 rfl (by decide) (And.intro ⟨rfl, rfl⟩ ?_); intro m131 o131)
   first | refine RetVC.cell2 rfl o131 2 rfl ty51 rfl rfl ?_ | refine RetVC.cell1 rfl o131 2 rfl ty51 rfl rfl ?_ | refine RetVC.cellTT rfl o131 2 rfl ty51 rfl rfl ?_
   obtain ⟨W, oW, hs⟩ := Own.allM (M := [_, _]) ‹_› [3] [0, 1] rfl rfl
   exact ⟨_, _, W, hE, ⟨_, rfl, ⟨_, _, _, _, _, _, _, _, _, _, _, _, _, _, _, rfl, nil_reads, nil_reads, nil_reads, nil_reads, nil_reads, nil_reads, exR_zero _⟩⟩, by omega, by omega, oW.sel [1, 2, 0] rfl⟩
 ·rw [ifR_no (by simp [h3]), RM.bind_of (RM.pure_eq _ _), ifR_no (by simp; omega), RM.bind_of (RM.pure_eq _ _)] at hE
  refine run (fieldAddr st51 rfl rfl rfl ?_)
  (refine RunVC.store o25 3 rfl ty3 rfl (by simp) (And.intro ⟨rfl, rfl⟩ ?_); intro m141 o141)
  refine run (fieldAddr st51 rfl rfl rfl ?_)
  refine run (loadO o141 3 rfl ty3 rfl rfl ?_)
  refine Br.dec (fun hc => absurd hc (by omega)) (fun c144 => ?_)
  refine run (fieldAddr st51 rfl rfl rfl ?_)
  refine run (loadO o141 3 rfl ty3 rfl rfl ?_)
  refine Br.dec (fun hc => absurd hc (by omega)) (fun c147 => ?_)
  refine (rmust_spec [59]).callL ‹_› rfl hR hl hj25 (fun a30 s30 v h30 hm hv hi30 hj30 oq => ?_)
  subst hv
  rw [RM.bind_of hm] at hE
  have o30 := oq
  simp only [RSt, pick, lcA, lnA, lgS, lgZ, lgN] at o30
  clear oq
  refine run (loadON o30 3 rfl ty51 rfl rfl rfl ?_)
  (refine RunVC.storeL o30 2 rfl ty51 rfl (by decide) (And.intro ⟨rfl, rfl⟩ ?_); intro m151 o151)
  first | refine RetVC.cell2 rfl o151 2 rfl ty51 rfl rfl ?_ | refine RetVC.cell1 rfl o151 2 rfl ty51 rfl rfl ?_ | refine RetVC.cellTT rfl o151 2 rfl ty51 rfl rfl ?_
  obtain ⟨W, oW, hs⟩ := Own.allM (M := [_, _]) ‹_› [3] [0, 1] rfl rfl
  exact ⟨_, _, W, hE, ⟨_, rfl, ⟨_, _, _, _, _, _, _, _, _, _, _, _, _, _, _, rfl, nil_reads, nil_reads, nil_reads, nil_reads, nil_reads, nil_reads, exR_zero _⟩⟩, by omega, by omega, oW.sel [1, 2, 0] rfl⟩

end Go.Proofs.YtnmfanjhepepbaaGreatDoor

/- The reference's reader: items, match. -/
namespace Go.Proofs.YtnmfanjhepepbaaGreatDoor
open Go StillVC

set_option maxHeartbeats 100000000 in
set_option maxRecDepth 100000 in
theorem ritem_match (B : Base) (bp z : Nat) (tk : Item) (w : Value) (L : List Tok) (s : RS) (h : Heap) (o : Own B (RSt bp z w tk s) h) (hR : TokR tk w L) (hl : L.length ≤ 5000) (hlt : s.i < L.length) (hk : (oneR L z itWords 1 s).1 = 4) : SpecR Tryz.prog 19 [.pointer (some ⟨bp, 0, none⟩)] h fun v h' =>
   ∃ x s' I, ritemR L z s = (x, s') ∧ itV x v I ∧ s.i ≤ s'.i ∧ s'.i ≤ L.length ∧ Own B [box bp [w, .int .i64 s'.i, .int .i64 s'.e, .int .i64 s'.a, .int .i64 z] 73, tk, I] h' := by
 unfold RSt at o
 obtain ⟨hRd, hK⟩ := hR
 have hR : TokR tk w L := ⟨hRd, hK⟩
 obtain ⟨t, hx⟩ := getx hlt
 have hi := Nat.le_of_lt hlt
 have hE := ritemR_eq (z := z) hx
 refine Spec.enter Tryz.func19 rfl Tryz.ntmps19 (by kernel_rfl) ?_
 refine RunVC.alloc o ty51 ?_
 intro b10 m10 o10
 refine DrawVC.intro [0, 1, 2, 4, 5, 6, 8, 9, 11] [3, 7, 10] [13] [0, 1, 2, 3, 4, 5, 6, 7, 8, 9, 10, 11, 12, 13] mixed (by kernel_rfl) rfl (fun _ _ _ _ h => h) ?_
 refine nilCheck rfl ?_
 refine fieldAddr st73 rfl rfl rfl ?_
 refine loadO o10 0 rfl ty31 rfl rfl ?_
 refine nilCheck rfl ?_
 refine fieldAddr st73 rfl rfl rfl ?_
 refine loadO o10 0 rfl ty3 rfl rfl ?_
 refine idxN sl31 ty38 (o10.reads 1 hRd rfl) rfl (by omega) (by omega) ?_
 refine fieldAdr (o10.reads 1 hRd rfl) (by omega) st38 rfl rfl rfl ?_
 refine loadFF (o10.reads 1 hRd rfl) ty3 (fun _ => rfl) rfl ‹_› rfl ?_
 refine buildK st51 ?_
 refine And.intro rfl ?_
 refine RunVC.alloc (Own.refl m10) ty51 ?_
 intro b21 m21 oZ
 refine And.intro (Own.ext oZ) ?_
 have o21 := Own.call o10 oZ
 simp only [lcA, lnA] at o21
 clear oZ
 (refine RunVC.storeL o21 3 rfl ty51 rfl (by decide) (And.intro ⟨rfl, rfl⟩ ?_); intro m10 o10)
 refine CallVC.ret (rwords_spec _) ?_
 rintro _ h2 ⟨bw, rfl, oc⟩
 have o2 := Own.call ‹_› oc
 simp only [lcA, lnA] at o2
 clear oc
 refine rone_call (ss := itWords) ‹_› rfl ⟨4, by decide, rfl⟩ hR hl hi (by decide) (fun kk s1 v h1 hm hv hi1 hj1 oq => ?_)
 subst hv
 rw [RM.bind_of hm] at hE
 rw [hm] at hk
 dsimp only at hk
 subst hk
 have o1 := oq.sel [0, 1, 2, 3] rfl
 simp only [RSt, pick, lcA, lnA, lgS, lgZ, lgN] at o1
 clear oq o2 o21 hm
 rw [show (if (4 : Int) = 4 then ([125] : List UInt8) else [59]) = [125] from rfl] at hE
 rw [ifR_yes (show ((4 : Int) != 5) = true from rfl)] at hE
 refine run (fieldAddr st51 rfl rfl rfl ?_)
 (refine RunVC.store o1 3 rfl ty3 rfl (by simp) (And.intro ⟨rfl, rfl⟩ ?_); intro m31 o31)
 refine run (fieldAddr st51 rfl rfl rfl ?_)
 refine run (loadO o31 3 rfl ty3 rfl rfl ?_)
 refine Br.tt ?_
 refine rname_spec.callL ‹_› rfl hR hl hj1 (fun nm s21 v h21 hm hv hi21 hj21 oq => ?_)
 subst hv
 rw [RM.bind_of hm] at hE
 have o21 := oq
 simp only [RSt, pick, lcA, lnA, lgS, lgZ, lgN] at o21
 clear oq
 refine run (fieldAddr st51 rfl rfl rfl ?_)
 (refine RunVC.store o21 3 rfl ty9 rfl (by simp) (And.intro ⟨rfl, rfl⟩ ?_); intro m41 o41)
 refine run (fieldAddr st51 rfl rfl rfl ?_)
 refine run (loadO o41 3 rfl ty3 rfl rfl ?_)
 refine Br.ff ?_
 refine Br.ff ?_
 refine Br.ff ?_
 refine Br.tt ?_
 rw [show partR L z 4 (x0 4 nm t.off) = matchR L z (x0 4 nm t.off) from rfl] at hE
 simp only [matchR, RM.assoc, RM.pure_bind] at hE
 refine ron_spec.callL ‹_› rfl hR hl hj21 (fun tb s22 v h22 hm hv hi22 hj22 oq => ?_)
 subst hv
 rw [RM.bind_of hm] at hE
 have o22 := oq
 simp only [RSt, pick, lcA, lnA, lgS, lgZ, lgN] at o22
 clear oq
 refine run (fieldAddr st51 rfl rfl rfl ?_)
 (refine RunVC.store o22 3 rfl ty9 rfl (by simp) (And.intro ⟨rfl, rfl⟩ ?_); intro m51 o51)
 refine (rmust_spec [97, 116]).callL ‹_› rfl hR hl hj22 (fun a23 s23 v h23 hm hv hi23 hj23 oq => ?_)
 subst hv
 rw [RM.bind_of hm] at hE
 have o23 := oq
 simp only [RSt, pick, lcA, lnA, lgS, lgZ, lgN] at o23
 clear oq
 refine rnumber_spec.callL ‹_› rfl hR hl hj23 (fun n_ s24 v h24 hm hv hi24 hj24 oq => ?_)
 obtain ⟨rfl, hv0_24, hv1_24⟩ := hv
 rw [RM.bind_of hm] at hE
 have o24 := oq
 simp only [RSt, pick, lcA, lnA, lgS, lgZ, lgN] at o24
 clear oq
 refine run (fieldAddr st51 rfl rfl rfl ?_)
 (refine RunVC.store o24 3 rfl ty3 rfl (by simp) (And.intro ⟨rfl, rfl⟩ ?_); intro m71 o71)
 refine (rmust_spec [123]).callL ‹_› rfl hR hl hj24 (fun a25 s25 v h25 hm hv hi25 hj25 oq => ?_)
 subst hv
 rw [RM.bind_of hm] at hE
 have o25 := oq
 simp only [RSt, pick, lcA, lnA, lgS, lgZ, lgN] at o25
 clear oq
 have hE : ritemR L z s = (termsR L z >>= fun l => mustR L z [125] >>= fun _ => (pure { x0 4 nm t.off with table := tb, n := n_, terms := l } : RM It)) s25 := hE
 refine RSpecI.callL rterms_spec ‹_› rfl hR hl hj25 (fun lt s26 v26 I26 h26 hm hv hi26 hj26 oq => ?_)
 obtain ⟨hn26, rfl⟩ := hv
 rw [RM.bind_of hm] at hE
 have o26 := oq
 simp only [RSt, pick, lcA, lnA, lgS, lgZ, lgN] at o26
 clear oq
 obtain ⟨va26, vb26, rfl⟩ := o26.rowIs 2 rfl
 refine run (fieldAddr st51 rfl rfl rfl ?_)
 (refine RunVC.store o26 4 rfl ty43 rfl (by simp) (And.intro ⟨rfl, rfl⟩ ?_); intro m91 o91)
 refine (rmust_spec [125]).callL ‹_› rfl hR hl hj26 (fun a27 s27 v h27 hm hv hi27 hj27 oq => ?_)
 subst hv
 rw [RM.bind_of hm] at hE
 have o27 := oq
 simp only [RSt, pick, lcA, lnA, lgS, lgZ, lgN] at o27
 clear oq
 refine run (loadON o27 4 rfl ty51 rfl rfl rfl ?_)
 (refine RunVC.storeL o27 3 rfl ty51 rfl (by decide) (And.intro ⟨rfl, rfl⟩ ?_); intro m101 o101)
 first | refine RetVC.cell2 rfl o101 3 rfl ty51 rfl rfl ?_ | refine RetVC.cell1 rfl o101 3 rfl ty51 rfl rfl ?_ | refine RetVC.cellTT rfl o101 3 rfl ty51 rfl rfl ?_
 obtain ⟨W, oW, hs⟩ := Own.allM (M := [_, _]) ‹_› [2, 3, 4] [0, 1] rfl rfl
 exact ⟨_, _, W, hE, ⟨_, rfl, ⟨_, _, _, _, _, _, _, _, _, _, _, _, _, _, _, rfl, nil_reads, nil_reads, (row_reads.mono (hs 0 _ rfl)), nil_reads, nil_reads, nil_reads, exR_zero _⟩⟩, by omega, by omega, oW.sel [1, 2, 0] rfl⟩

end Go.Proofs.YtnmfanjhepepbaaGreatDoor

/- The reference's reader: items, keep. -/
namespace Go.Proofs.YtnmfanjhepepbaaGreatDoor
open Go StillVC

set_option maxHeartbeats 100000000 in
set_option maxRecDepth 100000 in
theorem ritem_keep (B : Base) (bp z : Nat) (tk : Item) (w : Value) (L : List Tok) (s : RS) (h : Heap) (o : Own B (RSt bp z w tk s) h) (hR : TokR tk w L) (hl : L.length ≤ 5000) (hlt : s.i < L.length) (hk : (oneR L z itWords 1 s).1 = 5) : SpecR Tryz.prog 19 [.pointer (some ⟨bp, 0, none⟩)] h fun v h' =>
   ∃ x s' I, ritemR L z s = (x, s') ∧ itV x v I ∧ s.i ≤ s'.i ∧ s'.i ≤ L.length ∧ Own B [box bp [w, .int .i64 s'.i, .int .i64 s'.e, .int .i64 s'.a, .int .i64 z] 73, tk, I] h' := by
 unfold RSt at o
 obtain ⟨hRd, hK⟩ := hR
 have hR : TokR tk w L := ⟨hRd, hK⟩
 obtain ⟨t, hx⟩ := getx hlt
 have hi := Nat.le_of_lt hlt
 have hE := ritemR_eq (z := z) hx
 refine Spec.enter Tryz.func19 rfl Tryz.ntmps19 (by kernel_rfl) ?_
 refine RunVC.alloc o ty51 ?_
 intro b10 m10 o10
 refine DrawVC.intro [0, 1, 2, 4, 5, 6, 8, 9, 11] [3, 7, 10] [13] [0, 1, 2, 3, 4, 5, 6, 7, 8, 9, 10, 11, 12, 13] mixed (by kernel_rfl) rfl (fun _ _ _ _ h => h) ?_
 refine nilCheck rfl ?_
 refine fieldAddr st73 rfl rfl rfl ?_
 refine loadO o10 0 rfl ty31 rfl rfl ?_
 refine nilCheck rfl ?_
 refine fieldAddr st73 rfl rfl rfl ?_
 refine loadO o10 0 rfl ty3 rfl rfl ?_
 refine idxN sl31 ty38 (o10.reads 1 hRd rfl) rfl (by omega) (by omega) ?_
 refine fieldAdr (o10.reads 1 hRd rfl) (by omega) st38 rfl rfl rfl ?_
 refine loadFF (o10.reads 1 hRd rfl) ty3 (fun _ => rfl) rfl ‹_› rfl ?_
 refine buildK st51 ?_
 refine And.intro rfl ?_
 refine RunVC.alloc (Own.refl m10) ty51 ?_
 intro b21 m21 oZ
 refine And.intro (Own.ext oZ) ?_
 have o21 := Own.call o10 oZ
 simp only [lcA, lnA] at o21
 clear oZ
 (refine RunVC.storeL o21 3 rfl ty51 rfl (by decide) (And.intro ⟨rfl, rfl⟩ ?_); intro m10 o10)
 refine CallVC.ret (rwords_spec _) ?_
 rintro _ h2 ⟨bw, rfl, oc⟩
 have o2 := Own.call ‹_› oc
 simp only [lcA, lnA] at o2
 clear oc
 refine rone_call (ss := itWords) ‹_› rfl ⟨4, by decide, rfl⟩ hR hl hi (by decide) (fun kk s1 v h1 hm hv hi1 hj1 oq => ?_)
 subst hv
 rw [RM.bind_of hm] at hE
 rw [hm] at hk
 dsimp only at hk
 subst hk
 have o1 := oq.sel [0, 1, 2, 3] rfl
 simp only [RSt, pick, lcA, lnA, lgS, lgZ, lgN] at o1
 clear oq o2 o21 hm
 rw [show (if (5 : Int) = 4 then ([125] : List UInt8) else [59]) = [59] from rfl] at hE
 rw [ifR_no (show ((5 : Int) != 5) = false from rfl), RM.bind_of (RM.pure_eq _ _)] at hE
 refine run (fieldAddr st51 rfl rfl rfl ?_)
 (refine RunVC.store o1 3 rfl ty3 rfl (by simp) (And.intro ⟨rfl, rfl⟩ ?_); intro m31 o31)
 refine run (fieldAddr st51 rfl rfl rfl ?_)
 refine run (loadO o31 3 rfl ty3 rfl rfl ?_)
 refine Br.ff ?_
 refine run (fieldAddr st51 rfl rfl rfl ?_)
 refine run (loadO o31 3 rfl ty3 rfl rfl ?_)
 refine Br.ff ?_
 refine Br.ff ?_
 refine Br.ff ?_
 refine Br.ff ?_
 refine Br.tt ?_
 rw [show partR L z 5 (x0 5 [] t.off) = keepR L z (x0 5 [] t.off) from rfl] at hE
 simp only [keepR, RM.assoc, RM.pure_bind] at hE
 refine rplace_spec.callL ‹_› rfl hR hl hj1 (fun pl20 s21 v h21 hm hv hi21 hj21 oq => ?_)
 subst hv
 rw [RM.bind_of hm] at hE
 have o21 := oq
 simp only [RSt, pick, lcA, lnA, lgS, lgZ, lgN] at o21
 clear oq
 refine run (fieldAddr st51 rfl rfl rfl ?_)
 (refine RunVC.store o21 3 rfl ty9 rfl (by simp) (And.intro ⟨rfl, rfl⟩ ?_); intro m41 o41)
 refine run (fieldAddr st51 rfl rfl rfl ?_)
 (refine RunVC.store o41 3 rfl ty9 rfl (by simp) (And.intro ⟨rfl, rfl⟩ ?_); intro m43 o43)
 refine (rmust_spec [98, 121]).callL ‹_› rfl hR hl hj21 (fun a22 s22 v h22 hm hv hi22 hj22 oq => ?_)
 subst hv
 rw [RM.bind_of hm] at hE
 have o22 := oq
 simp only [RSt, pick, lcA, lnA, lgS, lgZ, lgN] at o22
 clear oq
 (refine RunVC.lit o22 sl42 ty9 rfl rfl (by decide) (And.intro rfl ?_); intro b50 m50 o50)
 refine rone_call (ss := [[108, 97, 116, 101, 115, 116], [109, 111, 115, 116], [116, 114, 117, 115, 116, 101, 100], [108, 111, 110, 103, 101, 115, 116], [108, 101, 97, 115, 116], [103, 114, 101, 97, 116, 101, 115, 116]]) ‹_› rfl ⟨4, by decide, rfl⟩ hR hl hj22 (by decide) (fun b_ s23 v h23 hm hv hi23 hj23 oq => ?_)
 subst hv
 rw [RM.bind_of hm] at hE
 have o23 := oq
 simp only [RSt, pick, lcA, lnA, lgS, lgZ, lgN] at o23
 clear oq
 refine run (fieldAddr st51 rfl rfl rfl ?_)
 (refine RunVC.store o23 3 rfl ty3 rfl (by simp) (And.intro ⟨rfl, rfl⟩ ?_); intro m61 o61)
 refine (rmust_spec [59]).callL ‹_› rfl hR hl hj23 (fun a24 s24 v h24 hm hv hi24 hj24 oq => ?_)
 subst hv
 rw [RM.bind_of hm] at hE
 have o24 := oq
 simp only [RSt, pick, lcA, lnA, lgS, lgZ, lgN] at o24
 clear oq
 refine run (loadON o24 3 rfl ty51 rfl rfl rfl ?_)
 (refine RunVC.storeL o24 2 rfl ty51 rfl (by decide) (And.intro ⟨rfl, rfl⟩ ?_); intro m71 o71)
 first | refine RetVC.cell2 rfl o71 2 rfl ty51 rfl rfl ?_ | refine RetVC.cell1 rfl o71 2 rfl ty51 rfl rfl ?_ | refine RetVC.cellTT rfl o71 2 rfl ty51 rfl rfl ?_
 obtain ⟨W, oW, hs⟩ := Own.allM (M := [_, _]) ‹_› [3] [0, 1] rfl rfl
 exact ⟨_, _, W, hE, ⟨_, rfl, ⟨_, _, _, _, _, _, _, _, _, _, _, _, _, _, _, rfl, nil_reads, nil_reads, nil_reads, nil_reads, nil_reads, nil_reads, exR_zero _⟩⟩, by omega, by omega, oW.sel [1, 2, 0] rfl⟩

end Go.Proofs.YtnmfanjhepepbaaGreatDoor

/- The reference's reader: items, unique. -/
namespace Go.Proofs.YtnmfanjhepepbaaGreatDoor
open Go StillVC

set_option maxHeartbeats 100000000 in
set_option maxRecDepth 100000 in
theorem ritem_unique (B : Base) (bp z : Nat) (tk : Item) (w : Value) (L : List Tok) (s : RS) (h : Heap) (o : Own B (RSt bp z w tk s) h) (hR : TokR tk w L) (hl : L.length ≤ 5000) (hlt : s.i < L.length) (hk : (oneR L z itWords 1 s).1 = 6) : SpecR Tryz.prog 19 [.pointer (some ⟨bp, 0, none⟩)] h fun v h' =>
   ∃ x s' I, ritemR L z s = (x, s') ∧ itV x v I ∧ s.i ≤ s'.i ∧ s'.i ≤ L.length ∧ Own B [box bp [w, .int .i64 s'.i, .int .i64 s'.e, .int .i64 s'.a, .int .i64 z] 73, tk, I] h' := by
 unfold RSt at o
 obtain ⟨hRd, hK⟩ := hR
 have hR : TokR tk w L := ⟨hRd, hK⟩
 obtain ⟨t, hx⟩ := getx hlt
 have hi := Nat.le_of_lt hlt
 have hE := ritemR_eq (z := z) hx
 refine Spec.enter Tryz.func19 rfl Tryz.ntmps19 (by kernel_rfl) ?_
 refine RunVC.alloc o ty51 ?_
 intro b10 m10 o10
 refine DrawVC.intro [0, 1, 2, 4, 5, 6, 8, 9, 11] [3, 7, 10] [13] [0, 1, 2, 3, 4, 5, 6, 7, 8, 9, 10, 11, 12, 13] mixed (by kernel_rfl) rfl (fun _ _ _ _ h => h) ?_
 refine nilCheck rfl ?_
 refine fieldAddr st73 rfl rfl rfl ?_
 refine loadO o10 0 rfl ty31 rfl rfl ?_
 refine nilCheck rfl ?_
 refine fieldAddr st73 rfl rfl rfl ?_
 refine loadO o10 0 rfl ty3 rfl rfl ?_
 refine idxN sl31 ty38 (o10.reads 1 hRd rfl) rfl (by omega) (by omega) ?_
 refine fieldAdr (o10.reads 1 hRd rfl) (by omega) st38 rfl rfl rfl ?_
 refine loadFF (o10.reads 1 hRd rfl) ty3 (fun _ => rfl) rfl ‹_› rfl ?_
 refine buildK st51 ?_
 refine And.intro rfl ?_
 refine RunVC.alloc (Own.refl m10) ty51 ?_
 intro b21 m21 oZ
 refine And.intro (Own.ext oZ) ?_
 have o21 := Own.call o10 oZ
 simp only [lcA, lnA] at o21
 clear oZ
 (refine RunVC.storeL o21 3 rfl ty51 rfl (by decide) (And.intro ⟨rfl, rfl⟩ ?_); intro m10 o10)
 refine CallVC.ret (rwords_spec _) ?_
 rintro _ h2 ⟨bw, rfl, oc⟩
 have o2 := Own.call ‹_› oc
 simp only [lcA, lnA] at o2
 clear oc
 refine rone_call (ss := itWords) ‹_› rfl ⟨4, by decide, rfl⟩ hR hl hi (by decide) (fun kk s1 v h1 hm hv hi1 hj1 oq => ?_)
 subst hv
 rw [RM.bind_of hm] at hE
 rw [hm] at hk
 dsimp only at hk
 subst hk
 have o1 := oq.sel [0, 1, 2, 3] rfl
 simp only [RSt, pick, lcA, lnA, lgS, lgZ, lgN] at o1
 clear oq o2 o21 hm
 rw [show (if (6 : Int) = 4 then ([125] : List UInt8) else [59]) = [59] from rfl] at hE
 rw [ifR_yes (show ((6 : Int) != 5) = true from rfl)] at hE
 refine run (fieldAddr st51 rfl rfl rfl ?_)
 (refine RunVC.store o1 3 rfl ty3 rfl (by simp) (And.intro ⟨rfl, rfl⟩ ?_); intro m31 o31)
 refine run (fieldAddr st51 rfl rfl rfl ?_)
 refine run (loadO o31 3 rfl ty3 rfl rfl ?_)
 refine Br.tt ?_
 refine rname_spec.callL ‹_› rfl hR hl hj1 (fun nm s21 v h21 hm hv hi21 hj21 oq => ?_)
 subst hv
 rw [RM.bind_of hm] at hE
 have o21 := oq
 simp only [RSt, pick, lcA, lnA, lgS, lgZ, lgN] at o21
 clear oq
 refine run (fieldAddr st51 rfl rfl rfl ?_)
 (refine RunVC.store o21 3 rfl ty9 rfl (by simp) (And.intro ⟨rfl, rfl⟩ ?_); intro m41 o41)
 refine run (fieldAddr st51 rfl rfl rfl ?_)
 refine run (loadO o41 3 rfl ty3 rfl rfl ?_)
 refine Br.ff ?_
 refine Br.ff ?_
 refine Br.ff ?_
 refine Br.ff ?_
 refine Br.ff ?_
 refine Br.tt ?_
 rw [show partR L z 6 (x0 6 nm t.off) = uniqueR L z (x0 6 nm t.off) from rfl] at hE
 simp only [uniqueR, RM.assoc, RM.pure_bind] at hE
 refine ron_spec.callL ‹_› rfl hR hl hj21 (fun tb s22 v h22 hm hv hi22 hj22 oq => ?_)
 subst hv
 rw [RM.bind_of hm] at hE
 have o22 := oq
 simp only [RSt, pick, lcA, lnA, lgS, lgZ, lgN] at o22
 clear oq
 refine run (fieldAddr st51 rfl rfl rfl ?_)
 (refine RunVC.store o22 3 rfl ty9 rfl (by simp) (And.intro ⟨rfl, rfl⟩ ?_); intro m51 o51)
 refine RSpecI.callL rlist_spec ‹_› rfl hR hl hj22 (fun ln s23 v23 I23 h23 hm hv hi23 hj23 oq => ?_)
 obtain ⟨hn23, rfl⟩ := hv
 rw [RM.bind_of hm] at hE
 have o23 := oq
 simp only [RSt, pick, lcA, lnA, lgS, lgZ, lgN] at o23
 clear oq
 obtain ⟨va23, vb23, rfl⟩ := o23.rowIs 2 rfl
 refine run (fieldAddr st51 rfl rfl rfl ?_)
 (refine RunVC.store o23 4 rfl ty42 rfl (by simp) (And.intro ⟨rfl, rfl⟩ ?_); intro m61 o61)
 refine (rmust_spec [59]).callL ‹_› rfl hR hl hj23 (fun a24 s24 v h24 hm hv hi24 hj24 oq => ?_)
 subst hv
 rw [RM.bind_of hm] at hE
 have o24 := oq
 simp only [RSt, pick, lcA, lnA, lgS, lgZ, lgN] at o24
 clear oq
 refine run (loadON o24 4 rfl ty51 rfl rfl rfl ?_)
 (refine RunVC.storeL o24 3 rfl ty51 rfl (by decide) (And.intro ⟨rfl, rfl⟩ ?_); intro m71 o71)
 first | refine RetVC.cell2 rfl o71 3 rfl ty51 rfl rfl ?_ | refine RetVC.cell1 rfl o71 3 rfl ty51 rfl rfl ?_ | refine RetVC.cellTT rfl o71 3 rfl ty51 rfl rfl ?_
 obtain ⟨W, oW, hs⟩ := Own.allM (M := [_, _]) ‹_› [2, 3, 4] [0, 1] rfl rfl
 exact ⟨_, _, W, hE, ⟨_, rfl, ⟨_, _, _, _, _, _, _, _, _, _, _, _, _, _, _, rfl, nil_reads, (row_reads.mono (hs 0 _ rfl)), nil_reads, nil_reads, nil_reads, nil_reads, exR_zero _⟩⟩, by omega, by omega, oW.sel [1, 2, 0] rfl⟩

end Go.Proofs.YtnmfanjhepepbaaGreatDoor

/- The reference's reader: items, depend. -/
namespace Go.Proofs.YtnmfanjhepepbaaGreatDoor
open Go StillVC

set_option maxHeartbeats 100000000 in
set_option maxRecDepth 100000 in
theorem ritem_depend (B : Base) (bp z : Nat) (tk : Item) (w : Value) (L : List Tok) (s : RS) (h : Heap) (o : Own B (RSt bp z w tk s) h) (hR : TokR tk w L) (hl : L.length ≤ 5000) (hlt : s.i < L.length) (hk : (oneR L z itWords 1 s).1 = 7) : SpecR Tryz.prog 19 [.pointer (some ⟨bp, 0, none⟩)] h fun v h' =>
   ∃ x s' I, ritemR L z s = (x, s') ∧ itV x v I ∧ s.i ≤ s'.i ∧ s'.i ≤ L.length ∧ Own B [box bp [w, .int .i64 s'.i, .int .i64 s'.e, .int .i64 s'.a, .int .i64 z] 73, tk, I] h' := by
 unfold RSt at o
 obtain ⟨hRd, hK⟩ := hR
 have hR : TokR tk w L := ⟨hRd, hK⟩
 obtain ⟨t, hx⟩ := getx hlt
 have hi := Nat.le_of_lt hlt
 have hE := ritemR_eq (z := z) hx
 refine Spec.enter Tryz.func19 rfl Tryz.ntmps19 (by kernel_rfl) ?_
 refine RunVC.alloc o ty51 ?_
 intro b10 m10 o10
 refine DrawVC.intro [0, 1, 2, 4, 5, 6, 8, 9, 11] [3, 7, 10] [13] [0, 1, 2, 3, 4, 5, 6, 7, 8, 9, 10, 11, 12, 13] mixed (by kernel_rfl) rfl (fun _ _ _ _ h => h) ?_
 refine nilCheck rfl ?_
 refine fieldAddr st73 rfl rfl rfl ?_
 refine loadO o10 0 rfl ty31 rfl rfl ?_
 refine nilCheck rfl ?_
 refine fieldAddr st73 rfl rfl rfl ?_
 refine loadO o10 0 rfl ty3 rfl rfl ?_
 refine idxN sl31 ty38 (o10.reads 1 hRd rfl) rfl (by omega) (by omega) ?_
 refine fieldAdr (o10.reads 1 hRd rfl) (by omega) st38 rfl rfl rfl ?_
 refine loadFF (o10.reads 1 hRd rfl) ty3 (fun _ => rfl) rfl ‹_› rfl ?_
 refine buildK st51 ?_
 refine And.intro rfl ?_
 refine RunVC.alloc (Own.refl m10) ty51 ?_
 intro b21 m21 oZ
 refine And.intro (Own.ext oZ) ?_
 have o21 := Own.call o10 oZ
 simp only [lcA, lnA] at o21
 clear oZ
 (refine RunVC.storeL o21 3 rfl ty51 rfl (by decide) (And.intro ⟨rfl, rfl⟩ ?_); intro m10 o10)
 refine CallVC.ret (rwords_spec _) ?_
 rintro _ h2 ⟨bw, rfl, oc⟩
 have o2 := Own.call ‹_› oc
 simp only [lcA, lnA] at o2
 clear oc
 refine rone_call (ss := itWords) ‹_› rfl ⟨4, by decide, rfl⟩ hR hl hi (by decide) (fun kk s1 v h1 hm hv hi1 hj1 oq => ?_)
 subst hv
 rw [RM.bind_of hm] at hE
 rw [hm] at hk
 dsimp only at hk
 subst hk
 have o1 := oq.sel [0, 1, 2, 3] rfl
 simp only [RSt, pick, lcA, lnA, lgS, lgZ, lgN] at o1
 clear oq o2 o21 hm
 rw [show (if (7 : Int) = 4 then ([125] : List UInt8) else [59]) = [59] from rfl] at hE
 rw [ifR_yes (show ((7 : Int) != 5) = true from rfl)] at hE
 refine run (fieldAddr st51 rfl rfl rfl ?_)
 (refine RunVC.store o1 3 rfl ty3 rfl (by simp) (And.intro ⟨rfl, rfl⟩ ?_); intro m31 o31)
 refine run (fieldAddr st51 rfl rfl rfl ?_)
 refine run (loadO o31 3 rfl ty3 rfl rfl ?_)
 refine Br.tt ?_
 refine rname_spec.callL ‹_› rfl hR hl hj1 (fun nm s21 v h21 hm hv hi21 hj21 oq => ?_)
 subst hv
 rw [RM.bind_of hm] at hE
 have o21 := oq
 simp only [RSt, pick, lcA, lnA, lgS, lgZ, lgN] at o21
 clear oq
 refine run (fieldAddr st51 rfl rfl rfl ?_)
 (refine RunVC.store o21 3 rfl ty9 rfl (by simp) (And.intro ⟨rfl, rfl⟩ ?_); intro m41 o41)
 refine run (fieldAddr st51 rfl rfl rfl ?_)
 refine run (loadO o41 3 rfl ty3 rfl rfl ?_)
 refine Br.ff ?_
 refine Br.ff ?_
 refine Br.ff ?_
 refine Br.ff ?_
 refine Br.ff ?_
 refine Br.ff ?_
 refine Br.tt ?_
 rw [show partR L z 7 (x0 7 nm t.off) = dependR L z (x0 7 nm t.off) from rfl] at hE
 simp only [dependR, RM.assoc, RM.pure_bind] at hE
 simp only [uniqueR, RM.assoc, RM.pure_bind] at hE
 refine ron_spec.callL ‹_› rfl hR hl hj21 (fun tb s22 v h22 hm hv hi22 hj22 oq => ?_)
 subst hv
 rw [RM.bind_of hm] at hE
 have o22 := oq
 simp only [RSt, pick, lcA, lnA, lgS, lgZ, lgN] at o22
 clear oq
 refine run (fieldAddr st51 rfl rfl rfl ?_)
 (refine RunVC.store o22 3 rfl ty9 rfl (by simp) (And.intro ⟨rfl, rfl⟩ ?_); intro m51 o51)
 refine RSpecI.callL rlist_spec ‹_› rfl hR hl hj22 (fun ln s23 v23 I23 h23 hm hv hi23 hj23 oq => ?_)
 obtain ⟨hn23, rfl⟩ := hv
 rw [RM.bind_of hm] at hE
 have o23 := oq
 simp only [RSt, pick, lcA, lnA, lgS, lgZ, lgN] at o23
 clear oq
 obtain ⟨va23, vb23, rfl⟩ := o23.rowIs 2 rfl
 refine run (fieldAddr st51 rfl rfl rfl ?_)
 (refine RunVC.store o23 4 rfl ty42 rfl (by simp) (And.intro ⟨rfl, rfl⟩ ?_); intro m61 o61)
 refine (rmust_spec [116, 111]).callL ‹_› rfl hR hl hj23 (fun a24 s24 v h24 hm hv hi24 hj24 oq => ?_)
 subst hv
 rw [RM.bind_of hm] at hE
 have o24 := oq
 simp only [RSt, pick, lcA, lnA, lgS, lgZ, lgN] at o24
 clear oq
 refine rname_spec.callL ‹_› rfl hR hl hj24 (fun at_ s25 v h25 hm hv hi25 hj25 oq => ?_)
 subst hv
 rw [RM.bind_of hm] at hE
 have o25 := oq
 simp only [RSt, pick, lcA, lnA, lgS, lgZ, lgN] at o25
 clear oq
 refine run (fieldAddr st51 rfl rfl rfl ?_)
 (refine RunVC.store o25 4 rfl ty9 rfl (by simp) (And.intro ⟨rfl, rfl⟩ ?_); intro m81 o81)
 refine (rhas_spec [119, 104, 101, 114, 101]).callL ‹_› rfl hR hl hj25 (fun b s26 v h26 hm hv hi26 hj26 oq => ?_)
 subst hv
 rw [RM.bind_of hm] at hE
 have o26 := oq
 simp only [RSt, pick, lcA, lnA, lgS, lgZ, lgN] at o26
 clear oq
 cases b with
 | true =>
  rw [if_pos rfl] at hE
  simp only [RM.assoc, RM.pure_bind] at hE
  have on := Own.nilRow ‹_› 105 4
  have on := Own.sel on [0, 1, 2, 3, 4, 5] rfl
  simp only [RSt, pick, lcA, lnA, lgS, lgZ, lgN] at on
  refine LoopVC.intro [4, 5, 138, 139, 140, 141, 142, 143, 144, 145, 146, 147, 148, 149, 150, 151, 152, 153, 154] [4] (fun vs hh => ∃ (again : Bool) (acc : List Nmd) (s2 : RS) (va : Option Addr) (vc : Nat), vs = [.bool again] ∧ s.i ≤ s2.i ∧ s2.i ≤ L.length ∧ Own B [box bp [w, .int .i64 s2.i, .int .i64 s2.e, .int .i64 s2.a, .int .i64 z] 73, tk, row (.slice va23 ln.length vb23) 9 1 ln.length (ln.flatMap strC), box b10 [.int .i64 0, .string ⟨⟨[]⟩⟩, .int .i64 0, .string ⟨⟨[]⟩⟩, .string ⟨⟨[]⟩⟩, nilV, nilV, .int .i64 0, .int .i64 0, .int .i64 0, nilV, .string ⟨⟨[]⟩⟩, .string ⟨⟨[]⟩⟩, nilV, nilV, nilV, .int .i64 0, .string ⟨⟨[]⟩⟩, nilV, nilV, nilV, .string ⟨⟨[]⟩⟩, .string ⟨⟨[]⟩⟩, .int .i64 0, .int .i64 0] 51, box b21 [.int .i64 7, .string ⟨⟨nm⟩⟩, .int .i64 t.off, .string ⟨⟨tb⟩⟩, .string ⟨⟨at_⟩⟩, nilV, (.slice va23 ln.length vb23), .int .i64 0, .int .i64 0, .int .i64 0, nilV, .string ⟨⟨[]⟩⟩, .string ⟨⟨[]⟩⟩, (.slice va acc.length vc), nilV, nilV, .int .i64 0, .string ⟨⟨[]⟩⟩, nilV, nilV, nilV, .string ⟨⟨[]⟩⟩, .string ⟨⟨[]⟩⟩, .int .i64 0, .int .i64 0] 51, row (.slice va acc.length vc) 105 4 acc.length (acc.flatMap nmdC)] hh ∧ ((again = false ∧ acc.length ≤ s2.i + 1 ∧ listR L [44] (fixedR L z) s26 = (acc, s2)) ∨ (again = true ∧ acc.length ≤ s2.i ∧ ∃ F : Nmd → RM (List Nmd), (fixedR L z >>= F) s2 = listR L [44] (fixedR L z) s26 ∧ ∀ a s3, s2.i ≤ s3.i → s3.i ≤ L.length → ∃ f, F a s3 = listAR L [44] (fixedR L z) f (acc ++ [a]) s3 ∧ L.length - s3.i < f))) (fun _ hh => lenM b21 13 hh) ?_ ?_
  ·exact ⟨true, [], s26, none, 0, rfl, by omega, by omega, on, .inr ⟨rfl, by simp, _, rfl, fun a s3 _ h3 => ⟨_, rfl, by omega⟩⟩⟩
  ·rintro vs junk hh ⟨again, acc, s2, va, vc, rfl, hi0, hj0, oh, hcase⟩
   clear on
   rcases hcase with ⟨rfl, hac, hT⟩ | ⟨rfl, hac, F, hT, hF⟩
   ·rw [RM.bind_of hT] at hE
    refine Br.ff ?_
    refine (rmust_spec [59]).callL ‹_› rfl hR hl hj0 (fun a27 s27 v h27 hm hv hi27 hj27 oq => ?_)
    subst hv
    rw [RM.bind_of hm] at hE
    have o27 := oq
    simp only [RSt, pick, lcA, lnA, lgS, lgZ, lgN] at o27
    clear oq
    refine run (loadON o27 4 rfl ty51 rfl rfl rfl ?_)
    (refine RunVC.storeL o27 3 rfl ty51 rfl (by decide) (And.intro ⟨rfl, rfl⟩ ?_); intro m111 o111)
    first | refine RetVC.cell2 rfl o111 3 rfl ty51 rfl rfl ?_ | refine RetVC.cell1 rfl o111 3 rfl ty51 rfl rfl ?_ | refine RetVC.cellTT rfl o111 3 rfl ty51 rfl rfl ?_
    obtain ⟨W, oW, hs⟩ := Own.allM (M := [_, _]) ‹_› [2, 4, 5] [0, 1] rfl rfl
    exact ⟨_, _, W, hE, ⟨_, rfl, ⟨_, _, _, _, _, _, _, _, _, _, _, _, _, _, _, rfl, nil_reads, (row_reads.mono (hs 0 _ rfl)), nil_reads, (row_reads.mono (hs 2 _ rfl)), nil_reads, nil_reads, exR_zero _⟩⟩, by omega, by omega, oW.sel [1, 2, 0] rfl⟩
   ·have hEl := congrFun (fixedR.eq_1 L z) s2
    refine Br.tt ?_
    refine rname_spec.callL ‹_› rfl hR hl hj0 (fun na s28 v h28 hm hv hi28 hj28 oq => ?_)
    subst hv
    rw [RM.bind_of hm] at hEl
    have o28 := oq
    simp only [RSt, pick, lcA, lnA, lgS, lgZ, lgN] at o28
    clear oq
    refine run (buildK st105 ?_)
    refine And.intro rfl ?_
    (refine RunVC.alloc o28 ty105 ?_; intro b131 m131 o131)
    (refine RunVC.storeL o131 6 rfl ty105 rfl (by decide) (And.intro ⟨rfl, rfl⟩ ?_); intro m132 o132)
    refine (rmust_spec [61]).callL ‹_› rfl hR hl hj28 (fun a29 s29 v h29 hm hv hi29 hj29 oq => ?_)
    subst hv
    rw [RM.bind_of hm] at hEl
    have o29 := oq
    simp only [RSt, pick, lcA, lnA, lgS, lgZ, lgN] at o29
    clear oq
    refine rconst_spec.callL ‹_› rfl hR hl hj29 (fun df s30 v h30 hm hv hi30 hj30 oq => ?_)
    subst hv
    rw [RM.bind_of hm] at hEl
    have o30 := oq
    simp only [RSt, pick, lcA, lnA, lgS, lgZ, lgN] at o30
    clear oq
    refine run (fieldAddr st105 rfl rfl rfl ?_)
    (refine RunVC.store o30 6 rfl ty54 rfl (by simp) (And.intro ⟨rfl, rfl⟩ ?_); intro m151 o151)
    refine run (fieldAddr st51 rfl rfl rfl ?_)
    refine run (loadO o151 4 rfl ty44 rfl rfl ?_)
    refine run (loadON o151 6 rfl ty105 rfl rfl rfl ?_)
    (refine RunVC.litN o151 sl44 ty105 rfl rfl (by decide) ?_)
    refine And.intro rfl ?_
    intro b156 m156 o156
    rw [RM.bind_of hEl] at hT
    obtain ⟨f, hf1, hf2⟩ := hF (⟨na, df⟩ : Nmd) s30 (by omega) (by omega)
    rw [hf1] at hT
    obtain ⟨f, rfl⟩ : ∃ f', f = f' + 1 := ⟨f - 1, by omega⟩
    refine RunVC.append ‹_› 5 rfl sl44 ty105 (by decide) (Own.boxArrN ‹_› 7 rfl (n := 1) rfl (by omega)) (by simp [Value.oneCell']) (by simp only [maxLen]; omega) (by omega) ?_
    intro v160 m160 o160
    obtain ⟨ua, uc, rfl⟩ := o160.rowIs 5 rfl
    refine run (fieldAddr st51 rfl rfl rfl ?_)
    (refine RunVC.store o160 4 rfl ty44 rfl (by simp) (And.intro ⟨rfl, rfl⟩ ?_); intro m162 o162)
    have e1 : (acc ++ [(⟨na, df⟩ : Nmd)]).flatMap nmdC = acc.flatMap nmdC ++ nmdC (⟨na, df⟩ : Nmd) := by rw [List.flatMap_append, List.flatMap_cons, List.flatMap_nil, List.append_nil]
    have e2 : (acc ++ [(⟨na, df⟩ : Nmd)]).length = acc.length + 1 := by simp
    have hm0 := lenM_of oh 4 rfl (off := 13) rfl
    refine (rhas_spec [44]).callL ‹_› rfl hR hl hj30 (fun b s31 v h31 hm hv hi31 hj31 oq => ?_)
    subst hv
    have o31 := oq
    simp only [RSt, pick, lcA, lnA, lgS, lgZ, lgN] at o31
    clear oq
    cases b with
    | true =>
     have hlt := hasR_lt hm
     rw [listAR_yes hm] at hT
     refine ⟨rfl, ?_⟩
     refine ⟨⟨true, acc ++ [(⟨na, df⟩ : Nmd)], s31, ua, uc, rfl, by omega, by omega, ?_, .inr ⟨rfl, by omega, _, hT, fun a s3 h3 h4 => ⟨_, rfl, by omega⟩⟩⟩, ?_⟩
     ·rw [e1, e2]
      exact Own.sel o31 [0, 1, 2, 3, 4, 5] rfl
     ·have hm1 := lenM_of o31 4 rfl (off := 13) rfl
      rw [hm0, hm1]
      omega
    | false =>
     obtain rfl := hasR_same hm
     rw [listAR_no hm] at hT
     refine ⟨rfl, ?_⟩
     refine ⟨⟨false, acc ++ [(⟨na, df⟩ : Nmd)], _, ua, uc, rfl, by omega, by omega, ?_, .inl ⟨rfl, by omega, hT.symm⟩⟩, ?_⟩
     ·rw [e1, e2]
      exact Own.sel o31 [0, 1, 2, 3, 4, 5] rfl
     ·have hm1 := lenM_of o31 4 rfl (off := 13) rfl
      rw [hm0, hm1]
      omega
 | false =>
  rw [if_neg (by decide)] at hE
  simp only [RM.assoc, RM.pure_bind] at hE
  have on := Own.sel o26 [0, 1, 2, 3, 4] rfl
  simp only [RSt, pick, lcA, lnA, lgS, lgZ, lgN] at on
  refine LoopVC.intro [4, 5, 138, 139, 140, 141, 142, 143, 144, 145, 146, 147, 148, 149, 150, 151, 152, 153, 154] [4] (fun vs hh => vs = [.bool false] ∧ Own B [box bp [w, .int .i64 s26.i, .int .i64 s26.e, .int .i64 s26.a, .int .i64 z] 73, tk, row (.slice va23 ln.length vb23) 9 1 ln.length (ln.flatMap strC), box b10 [.int .i64 0, .string ⟨⟨[]⟩⟩, .int .i64 0, .string ⟨⟨[]⟩⟩, .string ⟨⟨[]⟩⟩, nilV, nilV, .int .i64 0, .int .i64 0, .int .i64 0, nilV, .string ⟨⟨[]⟩⟩, .string ⟨⟨[]⟩⟩, nilV, nilV, nilV, .int .i64 0, .string ⟨⟨[]⟩⟩, nilV, nilV, nilV, .string ⟨⟨[]⟩⟩, .string ⟨⟨[]⟩⟩, .int .i64 0, .int .i64 0] 51, box b21 [.int .i64 7, .string ⟨⟨nm⟩⟩, .int .i64 t.off, .string ⟨⟨tb⟩⟩, .string ⟨⟨at_⟩⟩, nilV, (.slice va23 ln.length vb23), .int .i64 0, .int .i64 0, .int .i64 0, nilV, .string ⟨⟨[]⟩⟩, .string ⟨⟨[]⟩⟩, nilV, nilV, nilV, .int .i64 0, .string ⟨⟨[]⟩⟩, nilV, nilV, nilV, .string ⟨⟨[]⟩⟩, .string ⟨⟨[]⟩⟩, .int .i64 0, .int .i64 0] 51] hh) (fun _ _ => 0) ?_ ?_
  ·exact ⟨rfl, on⟩
  ·rintro vs junk hh ⟨rfl, oh⟩
   clear on
   refine Br.ff ?_
   refine (rmust_spec [59]).callL ‹_› rfl hR hl hj26 (fun a27 s27 v h27 hm hv hi27 hj27 oq => ?_)
   subst hv
   rw [RM.bind_of hm] at hE
   have o27 := oq
   simp only [RSt, pick, lcA, lnA, lgS, lgZ, lgN] at o27
   clear oq
   refine run (loadON o27 4 rfl ty51 rfl rfl rfl ?_)
   (refine RunVC.storeL o27 3 rfl ty51 rfl (by decide) (And.intro ⟨rfl, rfl⟩ ?_); intro m211 o211)
   first | refine RetVC.cell2 rfl o211 3 rfl ty51 rfl rfl ?_ | refine RetVC.cell1 rfl o211 3 rfl ty51 rfl rfl ?_ | refine RetVC.cellTT rfl o211 3 rfl ty51 rfl rfl ?_
   obtain ⟨W, oW, hs⟩ := Own.allM (M := [_, _]) ‹_› [2, 4] [0, 1] rfl rfl
   exact ⟨_, _, W, hE, ⟨_, rfl, ⟨_, _, _, _, _, _, _, _, _, _, _, _, _, _, _, rfl, nil_reads, (row_reads.mono (hs 0 _ rfl)), nil_reads, nil_reads, nil_reads, nil_reads, exR_zero _⟩⟩, by omega, by omega, oW.sel [1, 2, 0] rfl⟩

end Go.Proofs.YtnmfanjhepepbaaGreatDoor

/- The reference's reader: items, include. -/
namespace Go.Proofs.YtnmfanjhepepbaaGreatDoor
open Go StillVC

set_option maxHeartbeats 100000000 in
set_option maxRecDepth 100000 in
theorem ritem_include (B : Base) (bp z : Nat) (tk : Item) (w : Value) (L : List Tok) (s : RS) (h : Heap) (o : Own B (RSt bp z w tk s) h) (hR : TokR tk w L) (hl : L.length ≤ 5000) (hlt : s.i < L.length) (hk : (oneR L z itWords 1 s).1 = 8) : SpecR Tryz.prog 19 [.pointer (some ⟨bp, 0, none⟩)] h fun v h' =>
   ∃ x s' I, ritemR L z s = (x, s') ∧ itV x v I ∧ s.i ≤ s'.i ∧ s'.i ≤ L.length ∧ Own B [box bp [w, .int .i64 s'.i, .int .i64 s'.e, .int .i64 s'.a, .int .i64 z] 73, tk, I] h' := by
 unfold RSt at o
 obtain ⟨hRd, hK⟩ := hR
 have hR : TokR tk w L := ⟨hRd, hK⟩
 obtain ⟨t, hx⟩ := getx hlt
 have hi := Nat.le_of_lt hlt
 have hE := ritemR_eq (z := z) hx
 refine Spec.enter Tryz.func19 rfl Tryz.ntmps19 (by kernel_rfl) ?_
 refine RunVC.alloc o ty51 ?_
 intro b10 m10 o10
 refine DrawVC.intro [0, 1, 2, 4, 5, 6, 8, 9, 11] [3, 7, 10] [13] [0, 1, 2, 3, 4, 5, 6, 7, 8, 9, 10, 11, 12, 13] mixed (by kernel_rfl) rfl (fun _ _ _ _ h => h) ?_
 refine nilCheck rfl ?_
 refine fieldAddr st73 rfl rfl rfl ?_
 refine loadO o10 0 rfl ty31 rfl rfl ?_
 refine nilCheck rfl ?_
 refine fieldAddr st73 rfl rfl rfl ?_
 refine loadO o10 0 rfl ty3 rfl rfl ?_
 refine idxN sl31 ty38 (o10.reads 1 hRd rfl) rfl (by omega) (by omega) ?_
 refine fieldAdr (o10.reads 1 hRd rfl) (by omega) st38 rfl rfl rfl ?_
 refine loadFF (o10.reads 1 hRd rfl) ty3 (fun _ => rfl) rfl ‹_› rfl ?_
 refine buildK st51 ?_
 refine And.intro rfl ?_
 refine RunVC.alloc (Own.refl m10) ty51 ?_
 intro b21 m21 oZ
 refine And.intro (Own.ext oZ) ?_
 have o21 := Own.call o10 oZ
 simp only [lcA, lnA] at o21
 clear oZ
 (refine RunVC.storeL o21 3 rfl ty51 rfl (by decide) (And.intro ⟨rfl, rfl⟩ ?_); intro m10 o10)
 refine CallVC.ret (rwords_spec _) ?_
 rintro _ h2 ⟨bw, rfl, oc⟩
 have o2 := Own.call ‹_› oc
 simp only [lcA, lnA] at o2
 clear oc
 refine rone_call (ss := itWords) ‹_› rfl ⟨4, by decide, rfl⟩ hR hl hi (by decide) (fun kk s1 v h1 hm hv hi1 hj1 oq => ?_)
 subst hv
 rw [RM.bind_of hm] at hE
 rw [hm] at hk
 dsimp only at hk
 subst hk
 have o1 := oq.sel [0, 1, 2, 3] rfl
 simp only [RSt, pick, lcA, lnA, lgS, lgZ, lgN] at o1
 clear oq o2 o21 hm
 rw [show (if (8 : Int) = 4 then ([125] : List UInt8) else [59]) = [59] from rfl] at hE
 rw [ifR_yes (show ((8 : Int) != 5) = true from rfl)] at hE
 refine run (fieldAddr st51 rfl rfl rfl ?_)
 (refine RunVC.store o1 3 rfl ty3 rfl (by simp) (And.intro ⟨rfl, rfl⟩ ?_); intro m31 o31)
 refine run (fieldAddr st51 rfl rfl rfl ?_)
 refine run (loadO o31 3 rfl ty3 rfl rfl ?_)
 refine Br.tt ?_
 refine rname_spec.callL ‹_› rfl hR hl hj1 (fun nm s21 v h21 hm hv hi21 hj21 oq => ?_)
 subst hv
 rw [RM.bind_of hm] at hE
 have o21 := oq
 simp only [RSt, pick, lcA, lnA, lgS, lgZ, lgN] at o21
 clear oq
 refine run (fieldAddr st51 rfl rfl rfl ?_)
 (refine RunVC.store o21 3 rfl ty9 rfl (by simp) (And.intro ⟨rfl, rfl⟩ ?_); intro m41 o41)
 refine run (fieldAddr st51 rfl rfl rfl ?_)
 refine run (loadO o41 3 rfl ty3 rfl rfl ?_)
 refine Br.ff ?_
 refine Br.ff ?_
 refine Br.ff ?_
 refine Br.ff ?_
 refine Br.ff ?_
 refine Br.ff ?_
 refine Br.ff ?_
 refine Br.tt ?_
 rw [show partR L z 8 (x0 8 nm t.off) = includeR L z (x0 8 nm t.off) from rfl] at hE
 simp only [includeR, RM.assoc, RM.pure_bind] at hE
 refine rplace_spec.callL ‹_› rfl hR hl hj21 (fun pl21 s22 v h22 hm hv hi22 hj22 oq => ?_)
 subst hv
 rw [RM.bind_of hm] at hE
 have o22 := oq
 simp only [RSt, pick, lcA, lnA, lgS, lgZ, lgN] at o22
 clear oq
 refine run (fieldAddr st51 rfl rfl rfl ?_)
 (refine RunVC.store o22 3 rfl ty9 rfl (by simp) (And.intro ⟨rfl, rfl⟩ ?_); intro m51 o51)
 refine run (fieldAddr st51 rfl rfl rfl ?_)
 (refine RunVC.store o51 3 rfl ty9 rfl (by simp) (And.intro ⟨rfl, rfl⟩ ?_); intro m53 o53)
 refine (rmust_spec [105, 110]).callL ‹_› rfl hR hl hj22 (fun a23 s23 v h23 hm hv hi23 hj23 oq => ?_)
 subst hv
 rw [RM.bind_of hm] at hE
 have o23 := oq
 simp only [RSt, pick, lcA, lnA, lgS, lgZ, lgN] at o23
 clear oq
 refine rplace_spec.callL ‹_› rfl hR hl hj23 (fun pl23 s24 v h24 hm hv hi24 hj24 oq => ?_)
 subst hv
 rw [RM.bind_of hm] at hE
 have o24 := oq
 simp only [RSt, pick, lcA, lnA, lgS, lgZ, lgN] at o24
 clear oq
 refine run (fieldAddr st51 rfl rfl rfl ?_)
 (refine RunVC.store o24 3 rfl ty9 rfl (by simp) (And.intro ⟨rfl, rfl⟩ ?_); intro m71 o71)
 refine run (fieldAddr st51 rfl rfl rfl ?_)
 (refine RunVC.store o71 3 rfl ty9 rfl (by simp) (And.intro ⟨rfl, rfl⟩ ?_); intro m73 o73)
 refine (rmust_spec [59]).callL ‹_› rfl hR hl hj24 (fun a25 s25 v h25 hm hv hi25 hj25 oq => ?_)
 subst hv
 rw [RM.bind_of hm] at hE
 have o25 := oq
 simp only [RSt, pick, lcA, lnA, lgS, lgZ, lgN] at o25
 clear oq
 refine run (loadON o25 3 rfl ty51 rfl rfl rfl ?_)
 (refine RunVC.storeL o25 2 rfl ty51 rfl (by decide) (And.intro ⟨rfl, rfl⟩ ?_); intro m81 o81)
 first | refine RetVC.cell2 rfl o81 2 rfl ty51 rfl rfl ?_ | refine RetVC.cell1 rfl o81 2 rfl ty51 rfl rfl ?_ | refine RetVC.cellTT rfl o81 2 rfl ty51 rfl rfl ?_
 obtain ⟨W, oW, hs⟩ := Own.allM (M := [_, _]) ‹_› [3] [0, 1] rfl rfl
 exact ⟨_, _, W, hE, ⟨_, rfl, ⟨_, _, _, _, _, _, _, _, _, _, _, _, _, _, _, rfl, nil_reads, nil_reads, nil_reads, nil_reads, nil_reads, nil_reads, exR_zero _⟩⟩, by omega, by omega, oW.sel [1, 2, 0] rfl⟩

end Go.Proofs.YtnmfanjhepepbaaGreatDoor

/- The reference's reader: items, deny. -/
namespace Go.Proofs.YtnmfanjhepepbaaGreatDoor
open Go StillVC

set_option maxHeartbeats 100000000 in
set_option maxRecDepth 100000 in
theorem ritem_deny (B : Base) (bp z : Nat) (tk : Item) (w : Value) (L : List Tok) (s : RS) (h : Heap) (o : Own B (RSt bp z w tk s) h) (hR : TokR tk w L) (hl : L.length ≤ 5000) (hlt : s.i < L.length) (hk : (oneR L z itWords 1 s).1 = 9) : SpecR Tryz.prog 19 [.pointer (some ⟨bp, 0, none⟩)] h fun v h' =>
   ∃ x s' I, ritemR L z s = (x, s') ∧ itV x v I ∧ s.i ≤ s'.i ∧ s'.i ≤ L.length ∧ Own B [box bp [w, .int .i64 s'.i, .int .i64 s'.e, .int .i64 s'.a, .int .i64 z] 73, tk, I] h' := by
 unfold RSt at o
 obtain ⟨hRd, hK⟩ := hR
 have hR : TokR tk w L := ⟨hRd, hK⟩
 obtain ⟨t, hx⟩ := getx hlt
 have hi := Nat.le_of_lt hlt
 have hE := ritemR_eq (z := z) hx
 refine Spec.enter Tryz.func19 rfl Tryz.ntmps19 (by kernel_rfl) ?_
 refine RunVC.alloc o ty51 ?_
 intro b10 m10 o10
 refine DrawVC.intro [0, 1, 2, 4, 5, 6, 8, 9, 11] [3, 7, 10] [13] [0, 1, 2, 3, 4, 5, 6, 7, 8, 9, 10, 11, 12, 13] mixed (by kernel_rfl) rfl (fun _ _ _ _ h => h) ?_
 refine nilCheck rfl ?_
 refine fieldAddr st73 rfl rfl rfl ?_
 refine loadO o10 0 rfl ty31 rfl rfl ?_
 refine nilCheck rfl ?_
 refine fieldAddr st73 rfl rfl rfl ?_
 refine loadO o10 0 rfl ty3 rfl rfl ?_
 refine idxN sl31 ty38 (o10.reads 1 hRd rfl) rfl (by omega) (by omega) ?_
 refine fieldAdr (o10.reads 1 hRd rfl) (by omega) st38 rfl rfl rfl ?_
 refine loadFF (o10.reads 1 hRd rfl) ty3 (fun _ => rfl) rfl ‹_› rfl ?_
 refine buildK st51 ?_
 refine And.intro rfl ?_
 refine RunVC.alloc (Own.refl m10) ty51 ?_
 intro b21 m21 oZ
 refine And.intro (Own.ext oZ) ?_
 have o21 := Own.call o10 oZ
 simp only [lcA, lnA] at o21
 clear oZ
 (refine RunVC.storeL o21 3 rfl ty51 rfl (by decide) (And.intro ⟨rfl, rfl⟩ ?_); intro m10 o10)
 refine CallVC.ret (rwords_spec _) ?_
 rintro _ h2 ⟨bw, rfl, oc⟩
 have o2 := Own.call ‹_› oc
 simp only [lcA, lnA] at o2
 clear oc
 refine rone_call (ss := itWords) ‹_› rfl ⟨4, by decide, rfl⟩ hR hl hi (by decide) (fun kk s1 v h1 hm hv hi1 hj1 oq => ?_)
 subst hv
 rw [RM.bind_of hm] at hE
 rw [hm] at hk
 dsimp only at hk
 subst hk
 have o1 := oq.sel [0, 1, 2, 3] rfl
 simp only [RSt, pick, lcA, lnA, lgS, lgZ, lgN] at o1
 clear oq o2 o21 hm
 rw [show (if (9 : Int) = 4 then ([125] : List UInt8) else [59]) = [59] from rfl] at hE
 rw [ifR_yes (show ((9 : Int) != 5) = true from rfl)] at hE
 refine run (fieldAddr st51 rfl rfl rfl ?_)
 (refine RunVC.store o1 3 rfl ty3 rfl (by simp) (And.intro ⟨rfl, rfl⟩ ?_); intro m31 o31)
 refine run (fieldAddr st51 rfl rfl rfl ?_)
 refine run (loadO o31 3 rfl ty3 rfl rfl ?_)
 refine Br.tt ?_
 refine rname_spec.callL ‹_› rfl hR hl hj1 (fun nm s21 v h21 hm hv hi21 hj21 oq => ?_)
 subst hv
 rw [RM.bind_of hm] at hE
 have o21 := oq
 simp only [RSt, pick, lcA, lnA, lgS, lgZ, lgN] at o21
 clear oq
 refine run (fieldAddr st51 rfl rfl rfl ?_)
 (refine RunVC.store o21 3 rfl ty9 rfl (by simp) (And.intro ⟨rfl, rfl⟩ ?_); intro m41 o41)
 refine run (fieldAddr st51 rfl rfl rfl ?_)
 refine run (loadO o41 3 rfl ty3 rfl rfl ?_)
 refine Br.ff ?_
 refine Br.ff ?_
 refine Br.ff ?_
 refine Br.ff ?_
 refine Br.ff ?_
 refine Br.ff ?_
 refine Br.ff ?_
 refine Br.ff ?_
 refine Br.tt ?_
 rw [show partR L z 9 (x0 9 nm t.off) = denyR L z (x0 9 nm t.off) from rfl] at hE
 simp only [denyR, RM.assoc, RM.pure_bind] at hE
 have on := Own.nilRow ‹_› 108 2
 have on := Own.sel on [0, 1, 2, 3, 4] rfl
 simp only [RSt, pick, lcA, lnA, lgS, lgZ, lgN] at on
 refine LoopVC.intro [6, 7, 175, 176, 177, 178, 179, 180, 181, 182, 183, 184, 185, 186, 187, 188, 189] [6] (fun vs hh => ∃ (again : Bool) (acc : List Vr) (s2 : RS) (va : Option Addr) (vc : Nat), vs = [.bool again] ∧ s.i ≤ s2.i ∧ s2.i ≤ L.length ∧ Own B [box bp [w, .int .i64 s2.i, .int .i64 s2.e, .int .i64 s2.a, .int .i64 z] 73, tk, box b10 [.int .i64 0, .string ⟨⟨[]⟩⟩, .int .i64 0, .string ⟨⟨[]⟩⟩, .string ⟨⟨[]⟩⟩, nilV, nilV, .int .i64 0, .int .i64 0, .int .i64 0, nilV, .string ⟨⟨[]⟩⟩, .string ⟨⟨[]⟩⟩, nilV, nilV, nilV, .int .i64 0, .string ⟨⟨[]⟩⟩, nilV, nilV, nilV, .string ⟨⟨[]⟩⟩, .string ⟨⟨[]⟩⟩, .int .i64 0, .int .i64 0] 51, box b21 [.int .i64 9, .string ⟨⟨nm⟩⟩, .int .i64 t.off, .string ⟨⟨[]⟩⟩, .string ⟨⟨[]⟩⟩, nilV, nilV, .int .i64 0, .int .i64 0, .int .i64 0, nilV, .string ⟨⟨[]⟩⟩, .string ⟨⟨[]⟩⟩, nilV, (.slice va acc.length vc), nilV, .int .i64 0, .string ⟨⟨[]⟩⟩, nilV, nilV, nilV, .string ⟨⟨[]⟩⟩, .string ⟨⟨[]⟩⟩, .int .i64 0, .int .i64 0] 51, row (.slice va acc.length vc) 108 2 acc.length (acc.flatMap vrC)] hh ∧ ((again = false ∧ acc.length ≤ s2.i + 1 ∧ listR L [44] (varR L z) s21 = (acc, s2)) ∨ (again = true ∧ acc.length ≤ s2.i ∧ ∃ F : Vr → RM (List Vr), (varR L z >>= F) s2 = listR L [44] (varR L z) s21 ∧ ∀ a s3, s2.i ≤ s3.i → s3.i ≤ L.length → ∃ f, F a s3 = listAR L [44] (varR L z) f (acc ++ [a]) s3 ∧ L.length - s3.i < f))) (fun _ hh => lenM b21 14 hh) ?_ ?_
 ·exact ⟨true, [], s21, none, 0, rfl, by omega, by omega, on, .inr ⟨rfl, by simp, _, rfl, fun a s3 _ h3 => ⟨_, rfl, by omega⟩⟩⟩
 ·rintro vs junk hh ⟨again, acc, s2, va, vc, rfl, hi0, hj0, oh, hcase⟩
  clear on
  rcases hcase with ⟨rfl, hac, hT⟩ | ⟨rfl, hac, F, hT, hF⟩
  ·rw [RM.bind_of hT] at hE
   refine Br.ff ?_
   refine (rmust_spec [119, 104, 101, 114, 101]).callL ‹_› rfl hR hl hj0 (fun a22 s22 v h22 hm hv hi22 hj22 oq => ?_)
   subst hv
   rw [RM.bind_of hm] at hE
   have o22 := oq
   simp only [RSt, pick, lcA, lnA, lgS, lgZ, lgN] at o22
   clear oq
   refine RSpecI.callL rconds_spec ‹_› rfl hR hl hj22 (fun lc s23 v23 I23 h23 hm hv hi23 hj23 oq => ?_)
   obtain ⟨hn23, rfl⟩ := hv
   rw [RM.bind_of hm] at hE
   have o23 := oq
   simp only [RSt, pick, lcA, lnA, lgS, lgZ, lgN] at o23
   clear oq
   obtain ⟨va23, vb23, rfl⟩ := o23.rowIs 2 rfl
   refine run (fieldAddr st51 rfl rfl rfl ?_)
   (refine RunVC.store o23 4 rfl ty46 rfl (by simp) (And.intro ⟨rfl, rfl⟩ ?_); intro m71 o71)
   refine (rmust_spec [59]).callL ‹_› rfl hR hl hj23 (fun a24 s24 v h24 hm hv hi24 hj24 oq => ?_)
   subst hv
   rw [RM.bind_of hm] at hE
   have o24 := oq
   simp only [RSt, pick, lcA, lnA, lgS, lgZ, lgN] at o24
   clear oq
   refine run (loadON o24 4 rfl ty51 rfl rfl rfl ?_)
   (refine RunVC.storeL o24 3 rfl ty51 rfl (by decide) (And.intro ⟨rfl, rfl⟩ ?_); intro m81 o81)
   first | refine RetVC.cell2 rfl o81 3 rfl ty51 rfl rfl ?_ | refine RetVC.cell1 rfl o81 3 rfl ty51 rfl rfl ?_ | refine RetVC.cellTT rfl o81 3 rfl ty51 rfl rfl ?_
   obtain ⟨W, oW, hs⟩ := Own.allM (M := [_, _]) ‹_› [2, 4, 5] [0, 1] rfl rfl
   exact ⟨_, _, W, hE, ⟨_, rfl, ⟨_, _, _, _, _, _, _, _, _, _, _, _, _, _, _, rfl, nil_reads, nil_reads, nil_reads, nil_reads, (row_reads.mono (hs 2 _ rfl)), (row_reads.mono (hs 0 _ rfl)), exR_zero _⟩⟩, by omega, by omega, oW.sel [1, 2, 0] rfl⟩
  ·have hEl := congrFun (varR.eq_1 L z) s2
   refine Br.tt ?_
   refine rname_spec.callL ‹_› rfl hR hl hj0 (fun ta s25 v h25 hm hv hi25 hj25 oq => ?_)
   subst hv
   rw [RM.bind_of hm] at hEl
   have o25 := oq
   simp only [RSt, pick, lcA, lnA, lgS, lgZ, lgN] at o25
   clear oq
   refine run (buildK st108 ?_)
   refine And.intro rfl ?_
   (refine RunVC.alloc o25 ty108 ?_; intro b101 m101 o101)
   (refine RunVC.storeL o101 5 rfl ty108 rfl (by decide) (And.intro ⟨rfl, rfl⟩ ?_); intro m102 o102)
   refine rname_spec.callL ‹_› rfl hR hl hj25 (fun na s26 v h26 hm hv hi26 hj26 oq => ?_)
   subst hv
   rw [RM.bind_of hm] at hEl
   have o26 := oq
   simp only [RSt, pick, lcA, lnA, lgS, lgZ, lgN] at o26
   clear oq
   refine run (fieldAddr st108 rfl rfl rfl ?_)
   (refine RunVC.store o26 5 rfl ty9 rfl (by simp) (And.intro ⟨rfl, rfl⟩ ?_); intro m111 o111)
   refine run (fieldAddr st51 rfl rfl rfl ?_)
   refine run (loadO o111 3 rfl ty45 rfl rfl ?_)
   refine run (loadON o111 5 rfl ty108 rfl rfl rfl ?_)
   (refine RunVC.litN o111 sl45 ty108 rfl rfl (by decide) ?_)
   refine And.intro rfl ?_
   intro b116 m116 o116
   rw [RM.bind_of hEl] at hT
   obtain ⟨f, hf1, hf2⟩ := hF (⟨na, ta⟩ : Vr) s26 (by omega) (by omega)
   rw [hf1] at hT
   obtain ⟨f, rfl⟩ : ∃ f', f = f' + 1 := ⟨f - 1, by omega⟩
   refine RunVC.append ‹_› 4 rfl sl45 ty108 (by decide) (Own.boxArrN ‹_› 6 rfl (n := 1) rfl (by omega)) (by simp [Value.oneCell']) (by simp only [maxLen]; omega) (by omega) ?_
   intro v120 m120 o120
   obtain ⟨ua, uc, rfl⟩ := o120.rowIs 4 rfl
   refine run (fieldAddr st51 rfl rfl rfl ?_)
   (refine RunVC.store o120 3 rfl ty45 rfl (by simp) (And.intro ⟨rfl, rfl⟩ ?_); intro m122 o122)
   have e1 : (acc ++ [(⟨na, ta⟩ : Vr)]).flatMap vrC = acc.flatMap vrC ++ vrC (⟨na, ta⟩ : Vr) := by rw [List.flatMap_append, List.flatMap_cons, List.flatMap_nil, List.append_nil]
   have e2 : (acc ++ [(⟨na, ta⟩ : Vr)]).length = acc.length + 1 := by simp
   have hm0 := lenM_of oh 3 rfl (off := 14) rfl
   refine (rhas_spec [44]).callL ‹_› rfl hR hl hj26 (fun b s27 v h27 hm hv hi27 hj27 oq => ?_)
   subst hv
   have o27 := oq
   simp only [RSt, pick, lcA, lnA, lgS, lgZ, lgN] at o27
   clear oq
   cases b with
   | true =>
    have hlt := hasR_lt hm
    rw [listAR_yes hm] at hT
    refine ⟨rfl, ?_⟩
    refine ⟨⟨true, acc ++ [(⟨na, ta⟩ : Vr)], s27, ua, uc, rfl, by omega, by omega, ?_, .inr ⟨rfl, by omega, _, hT, fun a s3 h3 h4 => ⟨_, rfl, by omega⟩⟩⟩, ?_⟩
    ·rw [e1, e2]
     exact Own.sel o27 [0, 1, 2, 3, 4] rfl
    ·have hm1 := lenM_of o27 3 rfl (off := 14) rfl
     rw [hm0, hm1]
     omega
   | false =>
    obtain rfl := hasR_same hm
    rw [listAR_no hm] at hT
    refine ⟨rfl, ?_⟩
    refine ⟨⟨false, acc ++ [(⟨na, ta⟩ : Vr)], _, ua, uc, rfl, by omega, by omega, ?_, .inl ⟨rfl, by omega, hT.symm⟩⟩, ?_⟩
    ·rw [e1, e2]
     exact Own.sel o27 [0, 1, 2, 3, 4] rfl
    ·have hm1 := lenM_of o27 3 rfl (off := 14) rfl
     rw [hm0, hm1]
     omega

end Go.Proofs.YtnmfanjhepepbaaGreatDoor

/- The reference's reader: items, query. -/
namespace Go.Proofs.YtnmfanjhepepbaaGreatDoor
open Go StillVC

set_option maxHeartbeats 100000000 in
set_option maxRecDepth 100000 in
theorem ritem_query (B : Base) (bp z : Nat) (tk : Item) (w : Value) (L : List Tok) (s : RS) (h : Heap) (o : Own B (RSt bp z w tk s) h) (hR : TokR tk w L) (hl : L.length ≤ 5000) (hlt : s.i < L.length) (hk : (oneR L z itWords 1 s).1 = 10) : SpecR Tryz.prog 19 [.pointer (some ⟨bp, 0, none⟩)] h fun v h' =>
   ∃ x s' I, ritemR L z s = (x, s') ∧ itV x v I ∧ s.i ≤ s'.i ∧ s'.i ≤ L.length ∧ Own B [box bp [w, .int .i64 s'.i, .int .i64 s'.e, .int .i64 s'.a, .int .i64 z] 73, tk, I] h' := by
 unfold RSt at o
 obtain ⟨hRd, hK⟩ := hR
 have hR : TokR tk w L := ⟨hRd, hK⟩
 obtain ⟨t, hx⟩ := getx hlt
 have hi := Nat.le_of_lt hlt
 have hE := ritemR_eq (z := z) hx
 refine Spec.enter Tryz.func19 rfl Tryz.ntmps19 (by kernel_rfl) ?_
 refine RunVC.alloc o ty51 ?_
 intro b10 m10 o10
 refine DrawVC.intro [0, 1, 2, 4, 5, 6, 8, 9, 11] [3, 7, 10] [13] [0, 1, 2, 3, 4, 5, 6, 7, 8, 9, 10, 11, 12, 13] mixed (by kernel_rfl) rfl (fun _ _ _ _ h => h) ?_
 refine nilCheck rfl ?_
 refine fieldAddr st73 rfl rfl rfl ?_
 refine loadO o10 0 rfl ty31 rfl rfl ?_
 refine nilCheck rfl ?_
 refine fieldAddr st73 rfl rfl rfl ?_
 refine loadO o10 0 rfl ty3 rfl rfl ?_
 refine idxN sl31 ty38 (o10.reads 1 hRd rfl) rfl (by omega) (by omega) ?_
 refine fieldAdr (o10.reads 1 hRd rfl) (by omega) st38 rfl rfl rfl ?_
 refine loadFF (o10.reads 1 hRd rfl) ty3 (fun _ => rfl) rfl ‹_› rfl ?_
 refine buildK st51 ?_
 refine And.intro rfl ?_
 refine RunVC.alloc (Own.refl m10) ty51 ?_
 intro b21 m21 oZ
 refine And.intro (Own.ext oZ) ?_
 have o21 := Own.call o10 oZ
 simp only [lcA, lnA] at o21
 clear oZ
 (refine RunVC.storeL o21 3 rfl ty51 rfl (by decide) (And.intro ⟨rfl, rfl⟩ ?_); intro m10 o10)
 refine CallVC.ret (rwords_spec _) ?_
 rintro _ h2 ⟨bw, rfl, oc⟩
 have o2 := Own.call ‹_› oc
 simp only [lcA, lnA] at o2
 clear oc
 refine rone_call (ss := itWords) ‹_› rfl ⟨4, by decide, rfl⟩ hR hl hi (by decide) (fun kk s1 v h1 hm hv hi1 hj1 oq => ?_)
 subst hv
 rw [RM.bind_of hm] at hE
 rw [hm] at hk
 dsimp only at hk
 subst hk
 have o1 := oq.sel [0, 1, 2, 3] rfl
 simp only [RSt, pick, lcA, lnA, lgS, lgZ, lgN] at o1
 clear oq o2 o21 hm
 rw [show (if (10 : Int) = 4 then ([125] : List UInt8) else [59]) = [59] from rfl] at hE
 rw [ifR_yes (show ((10 : Int) != 5) = true from rfl)] at hE
 refine run (fieldAddr st51 rfl rfl rfl ?_)
 (refine RunVC.store o1 3 rfl ty3 rfl (by simp) (And.intro ⟨rfl, rfl⟩ ?_); intro m31 o31)
 refine run (fieldAddr st51 rfl rfl rfl ?_)
 refine run (loadO o31 3 rfl ty3 rfl rfl ?_)
 refine Br.tt ?_
 refine rname_spec.callL ‹_› rfl hR hl hj1 (fun nm s21 v h21 hm hv hi21 hj21 oq => ?_)
 subst hv
 rw [RM.bind_of hm] at hE
 have o21 := oq
 simp only [RSt, pick, lcA, lnA, lgS, lgZ, lgN] at o21
 clear oq
 refine run (fieldAddr st51 rfl rfl rfl ?_)
 (refine RunVC.store o21 3 rfl ty9 rfl (by simp) (And.intro ⟨rfl, rfl⟩ ?_); intro m41 o41)
 refine run (fieldAddr st51 rfl rfl rfl ?_)
 refine run (loadO o41 3 rfl ty3 rfl rfl ?_)
 refine Br.ff ?_
 refine Br.ff ?_
 refine Br.ff ?_
 refine Br.ff ?_
 refine Br.ff ?_
 refine Br.ff ?_
 refine Br.ff ?_
 refine Br.ff ?_
 refine Br.ff ?_
 refine Br.tt ?_
 rw [show partR L z 10 (x0 10 nm t.off) = queryR L z (x0 10 nm t.off) from rfl] at hE
 simp only [queryR, RM.assoc, RM.pure_bind] at hE
 refine (rmust_spec [61]).callL ‹_› rfl hR hl hj21 (fun a22 s22 v h22 hm hv hi22 hj22 oq => ?_)
 subst hv
 rw [RM.bind_of hm] at hE
 have o22 := oq
 simp only [RSt, pick, lcA, lnA, lgS, lgZ, lgN] at o22
 clear oq
 refine RSpecI.callL (rexpr_spec 12 (by decide) 1 (by decide)) ‹_› rfl hR hl hj22 (fun x1 s23 v I1 h23 hm hv hi23 hj23 oq => ?_)
 obtain ⟨⟨c1, hlc1⟩, rfl, hx1⟩ := hv
 rw [RM.bind_of hm] at hE
 have o23 := oq
 simp only [RSt, pick, lcA, lnA, lgS, lgZ, lgN] at o23
 clear oq
 dsimp only at hx1
 obtain ⟨c1k, c1t, c1a1, c1n1, c1b1, c1a2, c1n2, c1b2, c1a3, c1n3, c1b3, c1a, c1s, c1g, c1o, rfl⟩ := exR_nine hx1 (Own.satK o23 2 rfl)
 refine run (fieldAddr st51 rfl rfl rfl ?_)
 (refine RunVC.store o23 4 rfl ty49 rfl (by simp) (And.intro ⟨rfl, rfl⟩ ?_); intro m61 o61)
 refine (rmust_spec [59]).callL ‹_› rfl hR hl hj23 (fun a24 s24 v h24 hm hv hi24 hj24 oq => ?_)
 subst hv
 rw [RM.bind_of hm] at hE
 have o24 := oq
 simp only [RSt, pick, lcA, lnA, lgS, lgZ, lgN] at o24
 clear oq
 refine run (loadON o24 4 rfl ty51 rfl rfl rfl ?_)
 (refine RunVC.storeL o24 3 rfl ty51 rfl (by decide) (And.intro ⟨rfl, rfl⟩ ?_); intro m71 o71)
 first | refine RetVC.cell2 rfl o71 3 rfl ty51 rfl rfl ?_ | refine RetVC.cell1 rfl o71 3 rfl ty51 rfl rfl ?_ | refine RetVC.cellTT rfl o71 3 rfl ty51 rfl rfl ?_
 obtain ⟨W, oW, hs⟩ := Own.allM (M := [_, _]) ‹_› [2, 4] [0, 1] rfl rfl
 exact ⟨_, _, W, hE, ⟨_, rfl, ⟨_, _, _, _, _, _, _, _, _, _, _, _, _, _, _, rfl, nil_reads, nil_reads, nil_reads, nil_reads, nil_reads, nil_reads, exR.mono (hs 0 _ rfl) _ _ hx1⟩⟩, by omega, by omega, oW.sel [1, 2, 0] rfl⟩

end Go.Proofs.YtnmfanjhepepbaaGreatDoor

/- The reference's reader: items of every kind; what the lexer's tokens are to it. -/
namespace Go.Proofs.YtnmfanjhepepbaaGreatDoor
open Go StillVC

theorem oneR_range {L : List Tok} {z : Nat} : ∀ (ss : List (List UInt8)) (i : Int) (s : RS), (oneR L z ss i s).1 = 0 ∨ (i ≤ (oneR L z ss i s).1 ∧ (oneR L z ss i s).1 < i + ss.length)
 | [], i, s => .inl rfl
 | w :: r, i, s => by
  cases hb : hasR L w s with
  | mk b s1 =>
   have e : oneR L z (w :: r) i s = (if b = true then pure i else oneR L z r (i + 1)) s1 := RM.bind_of hb
   rw [e]
   cases b with
   | true => exact .inr ⟨Int.le_refl _, by simp only [List.length_cons]; show i < _; omega⟩
   | false =>
    rcases oneR_range r (i + 1) s1 with h | ⟨h1, h2⟩
    ·exact .inl h
    ·refine .inr ⟨?_, ?_⟩
     ·show i ≤ (oneR L z r (i + 1) s1).1
      omega
     ·show (oneR L z r (i + 1) s1).1 < _
      simp only [List.length_cons]
      omega

theorem ritem_spec (B : Base) (bp z : Nat) (tk : Item) (w : Value) (L : List Tok) (s : RS) (h : Heap) (o : Own B (RSt bp z w tk s) h) (hR : TokR tk w L) (hl : L.length ≤ 5000) (hlt : s.i < L.length) : SpecR Tryz.prog 19 [.pointer (some ⟨bp, 0, none⟩)] h fun v h' =>
   ∃ x s' I, ritemR L z s = (x, s') ∧ itV x v I ∧ s.i ≤ s'.i ∧ s'.i ≤ L.length ∧ Own B [box bp [w, .int .i64 s'.i, .int .i64 s'.e, .int .i64 s'.a, .int .i64 z] 73, tk, I] h' := by
 have hr := oneR_range (L := L) (z := z) itWords 1 s
 have h10 : itWords.length = 10 := rfl
 rw [h10] at hr
 generalize hk : (oneR L z itWords 1 s).1 = k at hr
 have hc : k = 0 ∨ k = 1 ∨ k = 2 ∨ k = 3 ∨ k = 4 ∨ k = 5 ∨ k = 6 ∨ k = 7 ∨ k = 8 ∨ k = 9 ∨ k = 10 := by omega
 rcases hc with rfl | rfl | rfl | rfl | rfl | rfl | rfl | rfl | rfl | rfl | rfl
 ·exact ritem_none B bp z tk w L s h o hR hl hlt hk
 ·exact ritem_table B bp z tk w L s h o hR hl hlt hk
 ·exact ritem_source B bp z tk w L s h o hR hl hlt hk
 ·exact ritem_block B bp z tk w L s h o hR hl hlt hk
 ·exact ritem_match B bp z tk w L s h o hR hl hlt hk
 ·exact ritem_keep B bp z tk w L s h o hR hl hlt hk
 ·exact ritem_unique B bp z tk w L s h o hR hl hlt hk
 ·exact ritem_depend B bp z tk w L s h o hR hl hlt hk
 ·exact ritem_include B bp z tk w L s h o hR hl hlt hk
 ·exact ritem_deny B bp z tk w L s h o hR hl hlt hk
 ·exact ritem_query B bp z tk w L s h o hR hl hlt hk

theorem ritem_call {sl : List Value} {h : Heap} {K : KK} {Q : QQ} {B : Base} {Lo : List Item} {bp z : Nat} {tk : Item} {w : Value} {L : List Tok} {s : RS}
  (o : Own B Lo h) (e : pick Lo [0, 1] = RSt bp z w tk s) (hR : TokR tk w L) (hl : L.length ≤ 5000) (hlt : s.i < L.length)
  (hret : ∀ a s' v I h', ritemR L z s = (a, s') → itV a v I → s.i ≤ s'.i → s'.i ≤ L.length → Own B ([box bp [w, .int .i64 s'.i, .int .i64 s'.e, .int .i64 s'.a, .int .i64 z] 73, tk, I] ++ rest8 Lo) h' → K v false h') : CallVC Tryz.prog 19 [.pointer (some ⟨bp, 0, none⟩)] sl h K Q := by
 have ol := o.lend [0, 1] [2, 3, 4, 5, 6, 7, 8, 9] rfl
 rw [e] at ol
 refine CallVC.ret (ritem_spec _ bp z tk w L s h ol hR hl hlt) ?_
 rintro v h' ⟨a, s', I, h1, h2, h3, h4, h5⟩
 exact hret a s' v I h' h1 h2 h3 h4 h5.back

theorem readR_tn {l : List UInt8} {n : Int} {x : List UInt8} {len : Nat} (h : readR l = .tok 1 x n len) : ∀ c, x[0]? = some c → letterB c = true := by
 cases l with
 | nil => cases h
 | cons c r =>
  intro d hd
  cases hl : letterB c with
  | true =>
   rw [readR_letter hl] at h
   split at h
   ·cases h
   ·injection h with _ hx _ _
    subst hx
    cases hs : spanN innerB (c :: r) with
    | zero => rw [hs] at hd; simp at hd
    | succ m => rw [hs] at hd; simp at hd; subst hd; exact hl
  | false =>
   cases hdg : digitB c with
   | true =>
    rw [readR_digit hl hdg] at h
    split at h
    ·cases h
    ·cases h
   | false =>
    by_cases hq : c.toNat = 34
    ·rw [readR_quote hl hdg hq] at h
     have := (quoF_tok _ _ _ h).1
     cases this
    ·rw [readR_symbol hl hdg hq] at h
     split at h
     ·cases h
     ·cases h

theorem LexG.names : ∀ (n : Nat) (l : List UInt8) (i : Nat) (ts : List Tok), l.length ≤ n → LexG l i (.ok ts) → ∀ t ∈ ts, t.kind = 1 → ∀ c, t.text[0]? = some c → letterB c = true := by
 intro n
 induction n with
 | zero =>
  intro l i ts hn h
  obtain rfl : l = [] := List.eq_nil_of_length_eq_zero (by omega)
  rcases h.inv_ok with ⟨rfl, _⟩ | ⟨_, _, _, _, _, _, hlt, _⟩
  ·exact fun _ h => by cases h
  ·simp at hlt
 | succ n ih =>
  intro l i ts hn h
  rcases h.inv_ok with ⟨rfl, _⟩ | ⟨k, x, m, len, us, hR, hlt, rfl, hrest⟩
  ·exact fun _ h => by cases h
  ·obtain ⟨h1, h2⟩ := readR_len hR
   rw [List.length_drop] at h2
   have ih := ih (l.drop (gapF false l + len)) (i + gapF false l + len) us (by rw [List.length_drop]; omega) hrest
   intro y hy
   rcases List.mem_cons.1 hy with rfl | hy
   ·intro hk
    simp only at hk
    subst hk
    exact readR_tn hR
   ·exact ih y hy

theorem opT_of {t : List UInt8} {ts : List Tok} (h : lexM t = .ok ts) : OpT ts := by
 have g := lexM_okG h
 have w1 := (LexG.wf _ _ _ _ (Nat.le_refl _) g).1.1
 have w2 := LexG.names _ _ _ _ (Nat.le_refl _) g
 intro x hx
 refine ⟨fun hk i hi e => ?_, fun hk e => ?_⟩
 ·have h1 := w1 x hx hk
  have hall : ∀ i < 7, ∃ c, (opNames.getD i [])[0]? = some c ∧ letterB c = true := by decide
  obtain ⟨c, h2, h3⟩ := hall i hi
  rw [← e] at h2
  rw [h1 c h2] at h3
  cases h3
 ·have := w2 x hx hk 40 (by rw [e]; rfl)
  exact absurd this (by decide)

end Go.Proofs.YtnmfanjhepepbaaGreatDoor
