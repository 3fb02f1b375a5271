/-
  Certificates: whether one may be (turned from the rolls' text).
-/
import Derived.Test.YtpchdmndbocedaaGreatAcI
set_option linter.unusedSimpArgs false
set_option linter.unusedVariables false
namespace Go.Ab.Sha
open Go Go.Proofs Go.Ab Go.Ab.Cn Go.Ab.Ak
set_option maxRecDepth 100000
set_option maxHeartbeats 4000000
theorem clsH (h : H32) : (hD h).map clsD = List.replicate 32 1:=by
 rw [hD,List.map_map]
 exact List.eq_replicate_iff.2 ⟨by simp [h.hb],by intro b hb; simp at hb; obtain ⟨_,_,rfl⟩:=hb; rfl⟩
theorem eqRowH (a b : H32) : eqRow (hD a) (hD b) = some (decide (a = b)):=by
 simp only [hD]
 rw [eqRow_u8 (by rw [a.hb,b.hb])]
 congr 1
 obtain ⟨a,ha⟩:=a; obtain ⟨b,hb⟩:=b
 simp
theorem eqH (a b : H32) : eqD Tryz.prog 24 (.agg (hD a)) (.agg (hD b)) = some (decide (a = b)):=by
 simp only [eqD]
 rw [if_pos ⟨by rw [clsH]; kernel_rfl,by kernel_rfl,by kernel_rfl⟩,eqRowH]
theorem eqRow1 (k : IntKind) (a b : Int) : eqRow [D.int k a] [D.int k b] = some (decide (a = b)):=by simp [eqRow,eqOne]
theorem eqRowN (k : IntKind) (x y : Nat) : eqRow [D.int k x] [D.int k y] = some (decide (x = y)):=by
 rw [eqRow1]; congr 1; rw [Bool.eq_iff_iff]; simp; omega
theorem row_app {a b c d : List D} {p q : Bool} (hl : a.length = c.length) (h1 : eqRow a c = some p) (h2 : eqRow b d = some q) : eqRow (a ++ b) (c ++ d) = some (p && q):=eqRow_app hl h1 h2
theorem row_cons {x y : D} {b d : List D} {p q : Bool} (h1 : eqRow [x] [y] = some p) (h2 : eqRow b d = some q) : eqRow (x :: b) (y :: d) = some (p && q):=eqRow_app (a:=[x]) (c:=[y]) rfl h1 h2
theorem splice_mid {a m b m' : List D} {o : Nat} (ha : a.length = o) (hm : m.length = m'.length) : splice (a ++ (m ++ b)) o m' = a ++ (m' ++ b):=by
 subst ha
 unfold splice
 rw [List.take_left,List.drop_length_add_append,← hm,List.drop_left,List.append_assoc]
theorem ptHH (x : H32) : partD Tryz.prog 24 (hD x) 0 = some (.agg (hD x)):=part_agg (by kernel_rfl) (by kernel_rfl) [] (hD x) [] (by simp) rfl (hD_length _)
theorem bdZH : buildD Tryz.prog 24 [] = some (.agg (hD zH)):=by kernel_rfl
theorem tsH : tySize Tryz.prog 24 = some 32:=by kernel_rfl
theorem ts40 : tySize Tryz.prog 22 = some 1:=by kernel_rfl
theorem tsC : tySize Tryz.prog 201 = some 68:=by kernel_rfl
theorem faC0 (cs : List D) : fieldAddrD Tryz.prog 201 (.box 0 cs) 0 = some (.box 0 cs):=by kernel_rfl
theorem frC0 (b : Nat) : fieldAddrD Tryz.prog 201 (.ref b 0) 0 = some (.ref b 0):=by kernel_rfl
theorem faC1 (cs : List D) : fieldAddrD Tryz.prog 201 (.box 0 cs) 1 = some (.box 1 cs):=by kernel_rfl
theorem frC1 (b : Nat) : fieldAddrD Tryz.prog 201 (.ref b 0) 1 = some (.ref b 1):=by kernel_rfl
theorem faC2 (cs : List D) : fieldAddrD Tryz.prog 201 (.box 0 cs) 2 = some (.box 33 cs):=by kernel_rfl
theorem frC2 (b : Nat) : fieldAddrD Tryz.prog 201 (.ref b 0) 2 = some (.ref b 33):=by kernel_rfl
theorem faC3 (cs : List D) : fieldAddrD Tryz.prog 201 (.box 0 cs) 3 = some (.box 65 cs):=by kernel_rfl
theorem frC3 (b : Nat) : fieldAddrD Tryz.prog 201 (.ref b 0) 3 = some (.ref b 65):=by kernel_rfl
theorem faC4 (cs : List D) : fieldAddrD Tryz.prog 201 (.box 0 cs) 4 = some (.box 66 cs):=by kernel_rfl
theorem frC4 (b : Nat) : fieldAddrD Tryz.prog 201 (.ref b 0) 4 = some (.ref b 66):=by kernel_rfl
theorem faC5 (cs : List D) : fieldAddrD Tryz.prog 201 (.box 0 cs) 5 = some (.box 67 cs):=by kernel_rfl
theorem frC5 (b : Nat) : fieldAddrD Tryz.prog 201 (.ref b 0) 5 = some (.ref b 67):=by kernel_rfl
theorem frCx0 (b n : Nat) : fieldAddrD Tryz.prog 201 (.ref (b + n) 0) 0 = some (.ref (b + n) 0):=by kernel_rfl
theorem frCx1 (b n : Nat) : fieldAddrD Tryz.prog 201 (.ref (b + n) 0) 1 = some (.ref (b + n) 1):=by kernel_rfl
theorem frCx2 (b n : Nat) : fieldAddrD Tryz.prog 201 (.ref (b + n) 0) 2 = some (.ref (b + n) 33):=by kernel_rfl
theorem frCx3 (b n : Nat) : fieldAddrD Tryz.prog 201 (.ref (b + n) 0) 3 = some (.ref (b + n) 65):=by kernel_rfl
theorem frCx4 (b n : Nat) : fieldAddrD Tryz.prog 201 (.ref (b + n) 0) 4 = some (.ref (b + n) 66):=by kernel_rfl
theorem frCx5 (b n : Nat) : fieldAddrD Tryz.prog 201 (.ref (b + n) 0) 5 = some (.ref (b + n) 67):=by kernel_rfl
def _root_.Go.Ab.Ak.CertM.base (x : CertM) : CertM:=⟨x.kind,zH,zH,0,0,0,x.hk,by decide,by decide,by decide⟩
def zCert : CertM:=⟨0,zH,zH,0,0,0,by decide,by decide,by decide,by decide⟩
theorem pcKind (x : CertM) : partD Tryz.prog 5 (certD x) 0 = some (.int .u8 x.kind):=part_one (n:=1) (by kernel_rfl) (by kernel_rfl) [] _ _ rfl rfl
theorem pcKey (x : CertM) : partD Tryz.prog 24 (certD x) 1 = some (.agg (hD x.key)):=part_agg (by kernel_rfl) (by kernel_rfl) [.int .u8 x.kind] (hD x.key) (hD x.pool ++ [.int .u64 x.a,.int .u64 x.b,.int .u64 x.c]) rfl rfl (hD_length _)
theorem pcPool (x : CertM) : partD Tryz.prog 24 (certD x) 33 = some (.agg (hD x.pool)):=part_agg (by kernel_rfl) (by kernel_rfl) (.int .u8 x.kind :: hD x.key) (hD x.pool) [.int .u64 x.a,.int .u64 x.b,.int .u64 x.c] (by simp [certD]) (by simp [hD_length]) (hD_length _)
theorem pcA (x : CertM) : partD Tryz.prog 22 (certD x) 65 = some (.int .u64 x.a):=part_one (n:=1) (by kernel_rfl) (by kernel_rfl) (.int .u8 x.kind :: (hD x.key ++ hD x.pool)) _ [.int .u64 x.b,.int .u64 x.c] (by simp [certD]) (by simp [hD_length])
theorem pcB (x : CertM) : partD Tryz.prog 22 (certD x) 66 = some (.int .u64 x.b):=part_one (n:=1) (by kernel_rfl) (by kernel_rfl) (.int .u8 x.kind :: (hD x.key ++ (hD x.pool ++ [.int .u64 x.a]))) _ [.int .u64 x.c] (by simp [certD]) (by simp [hD_length])
theorem pcC (x : CertM) : partD Tryz.prog 22 (certD x) 67 = some (.int .u64 x.c):=part_one (n:=1) (by kernel_rfl) (by kernel_rfl) (.int .u8 x.kind :: (hD x.key ++ (hD x.pool ++ [.int .u64 x.a,.int .u64 x.b]))) _ [] (by simp [certD]) (by simp [hD_length])
theorem pcAll (x : CertM) : partD Tryz.prog 201 (certD x) 0 = some (.agg (certD x)):=part_agg (by kernel_rfl) (by kernel_rfl) [] (certD x) [] (by simp) rfl (certD_length _)
theorem scKey (x : CertM) (h : H32) : splice (certD x) 1 (hD h) = certD { x with key:=h }:=by
 have:=splice_mid (a:=[.int .u8 x.kind]) (m:=hD x.key) (b:=hD x.pool ++ [.int .u64 x.a,.int .u64 x.b,.int .u64 x.c]) (m':=hD h) (o:=1) rfl (by rw [hD_length,hD_length])
 simpa [certD] using this
theorem scPool (x : CertM) (h : H32) : splice (certD x) 33 (hD h) = certD { x with pool:=h }:=by
 have:=splice_mid (a:=.int .u8 x.kind :: hD x.key) (m:=hD x.pool) (b:=[.int .u64 x.a,.int .u64 x.b,.int .u64 x.c]) (m':=hD h) (o:=33) (by simp [hD_length]) (by rw [hD_length,hD_length])
 simpa [certD] using this
theorem scA (x : CertM) (n : Nat) (h : n < 18446744073709551616) : splice (certD x) 65 [.int .u64 n] = certD { x with a:=n,ha:=h }:=by
 have:=splice_mid (a:=.int .u8 x.kind :: (hD x.key ++ hD x.pool)) (m:=[.int .u64 x.a]) (b:=[.int .u64 x.b,.int .u64 x.c]) (m':=[.int .u64 n]) (o:=65) (by simp [hD_length]) rfl
 simpa [certD] using this
theorem scB (x : CertM) (n : Nat) (h : n < 18446744073709551616) : splice (certD x) 66 [.int .u64 n] = certD { x with b:=n,hb:=h }:=by
 have:=splice_mid (a:=.int .u8 x.kind :: (hD x.key ++ (hD x.pool ++ [.int .u64 x.a]))) (m:=[.int .u64 x.b]) (b:=[.int .u64 x.c]) (m':=[.int .u64 n]) (o:=66) (by simp [hD_length]) rfl
 simpa [certD] using this
theorem bdCert (x : CertM) : buildD Tryz.prog 201 [(0,.int .u8 x.kind)] = some (.agg (certD x.base)):=by
 rw [bd_201_0 _ rfl]; rfl
theorem splCC (x y : CertM) : splice (certD x) 0 (certD y) = certD y:=splice_all (by rw [certD_length,certD_length])
theorem tzCert : tyZero Tryz.prog 201 = some (certD zCert):=by kernel_rfl
theorem eqRowCert (x y : CertM) : eqRow (certD x) (certD y) = some (decide (x = y)):=by
 rw [certD,certD,row_cons (eqRowN _ _ _) (row_app (by rw [hD_length,hD_length]) (eqRowH _ _) (row_app (by rw [hD_length,hD_length]) (eqRowH _ _) (row_cons (eqRowN _ _ _) (row_cons (eqRowN _ _ _) (eqRowN _ _ _)))))]
 congr 1
 obtain ⟨a,b,c,d,e,f,_,_,_,_⟩:=x; obtain ⟨a',b',c',d',e',f',_,_,_,_⟩:=y
 rw [Bool.eq_iff_iff]
 simp
theorem clsCert (x : CertM) : (certD x).map clsD = List.replicate 68 1:=by rw [certD,List.map_cons,List.map_append,List.map_append,clsH,clsH]; rfl
theorem eqCert (x y : CertM) : eqD Tryz.prog 201 (.agg (certD x)) (.agg (certD y)) = some (decide (x = y)):=by
 simp only [eqD]
 rw [if_pos ⟨by rw [clsCert]; kernel_rfl,by kernel_rfl,by kernel_rfl⟩,eqRowCert]
set_option maxHeartbeats 16000000 in
theorem r_cert (fl : Fl) (x : CertM) (st : St) : run Tryz.prog nlH fl 170 [.agg (certD x)] st = some (.bool (certB x), st) := by
  refine run_sime (fi := ⟨true, [1, 18, 20, 29, 31, 37, 39, 41], []⟩) (rs := [.tmp 2]) rfl rfl rfl Tryz.func170 rfl rfl ?_
  simp only [argsFr]
  have pZ := pcAll x
  by_cases h1 : x.kind = 1
  · skip
    have e1 : decide ((x.kind : Int) = 1) = true := decide_eq_true (by omega)
    have e2 : decide ((x.kind : Int) = 2) = false := decide_eq_false (by omega)
    have e3 : decide ((x.kind : Int) = 3) = false := decide_eq_false (by omega)
    have e4 : decide ((x.kind : Int) = 4) = false := decide_eq_false (by omega)
    have e5 : decide ((x.kind : Int) = 5) = false := decide_eq_false (by omega)
    have e6 : decide ((x.kind : Int) = 6) = false := decide_eq_false (by omega)
    have sc0 := scKey x.base x.key
    have e7 : decide ((x.kind : Int) ≠ 4) = true := decide_eq_true (by omega)
    have q : eqD Tryz.prog 201 (.agg (certD x)) (.agg (certD { x.base with key := x.key })) = some (certB x) := by
      rw [eqCert]
      congr 1
      unfold certB
      rw [if_pos h1]
      rw [Bool.eq_iff_iff]
      simp only [decide_eq_true_eq]
      obtain ⟨kd, ky, po, a, b, c, _, _, _, _⟩ := x
      simp only [CertM.base, CertM.mk.injEq]
      constructor
      · rintro h; simp_all
      · rintro h; simp_all
    cases hb : certB x with
    | true =>
      rw [hb] at q
      refine zw (nx @tzCert <| nx @bdCert <| nx @splCC <| nx @certD_length <| nx @hD_length <| nx @tsC <| nx @tsH <| nx @ts40 <| nx @faC0 <| nx @faC1 <| nx @faC2 <| nx @faC3 <| nx @faC4 <| nx @faC5 <| nx @frC0 <| nx @frC1 <| nx @frC2 <| nx @frC3 <| nx @frC4 <| nx @frC5 <| nx @ld_box <| nx @pcKind <| nx @pcKey <| nx @pcPool <| nx @pcA <| nx @pcB <| nx @pcC <| nx @pcAll <| nx @e1 <| nx @e2 <| nx @e3 <| nx @e4 <| nx @e5 <| nx @e6 <| nx @sc0 <| nx @e7 <| @q) ?_
      exact ⟨trivial, _, rfl, rfl⟩
    | false =>
      rw [hb] at q
      refine zw (nx @tzCert <| nx @bdCert <| nx @splCC <| nx @certD_length <| nx @hD_length <| nx @tsC <| nx @tsH <| nx @ts40 <| nx @faC0 <| nx @faC1 <| nx @faC2 <| nx @faC3 <| nx @faC4 <| nx @faC5 <| nx @frC0 <| nx @frC1 <| nx @frC2 <| nx @frC3 <| nx @frC4 <| nx @frC5 <| nx @ld_box <| nx @pcKind <| nx @pcKey <| nx @pcPool <| nx @pcA <| nx @pcB <| nx @pcC <| nx @pcAll <| nx @e1 <| nx @e2 <| nx @e3 <| nx @e4 <| nx @e5 <| nx @e6 <| nx @sc0 <| nx @e7 <| @q) ?_
      exact ⟨trivial, _, rfl, rfl⟩
  by_cases h2 : x.kind = 2
  · skip
    have e1 : decide ((x.kind : Int) = 1) = false := decide_eq_false (by omega)
    have e2 : decide ((x.kind : Int) = 2) = true := decide_eq_true (by omega)
    have e3 : decide ((x.kind : Int) = 3) = false := decide_eq_false (by omega)
    have e4 : decide ((x.kind : Int) = 4) = false := decide_eq_false (by omega)
    have e5 : decide ((x.kind : Int) = 5) = false := decide_eq_false (by omega)
    have e6 : decide ((x.kind : Int) = 6) = false := decide_eq_false (by omega)
    have sc0 := scKey x.base x.key
    have e7 : decide ((x.kind : Int) ≠ 4) = true := decide_eq_true (by omega)
    have q : eqD Tryz.prog 201 (.agg (certD x)) (.agg (certD { x.base with key := x.key })) = some (certB x) := by
      rw [eqCert]
      congr 1
      unfold certB
      rw [if_neg (by omega), if_pos h2]
      rw [Bool.eq_iff_iff]
      simp only [decide_eq_true_eq]
      obtain ⟨kd, ky, po, a, b, c, _, _, _, _⟩ := x
      simp only [CertM.base, CertM.mk.injEq]
      constructor
      · rintro h; simp_all
      · rintro h; simp_all
    cases hb : certB x with
    | true =>
      rw [hb] at q
      refine zw (nx @tzCert <| nx @bdCert <| nx @splCC <| nx @certD_length <| nx @hD_length <| nx @tsC <| nx @tsH <| nx @ts40 <| nx @faC0 <| nx @faC1 <| nx @faC2 <| nx @faC3 <| nx @faC4 <| nx @faC5 <| nx @frC0 <| nx @frC1 <| nx @frC2 <| nx @frC3 <| nx @frC4 <| nx @frC5 <| nx @ld_box <| nx @pcKind <| nx @pcKey <| nx @pcPool <| nx @pcA <| nx @pcB <| nx @pcC <| nx @pcAll <| nx @e1 <| nx @e2 <| nx @e3 <| nx @e4 <| nx @e5 <| nx @e6 <| nx @sc0 <| nx @e7 <| @q) ?_
      exact ⟨trivial, _, rfl, rfl⟩
    | false =>
      rw [hb] at q
      refine zw (nx @tzCert <| nx @bdCert <| nx @splCC <| nx @certD_length <| nx @hD_length <| nx @tsC <| nx @tsH <| nx @ts40 <| nx @faC0 <| nx @faC1 <| nx @faC2 <| nx @faC3 <| nx @faC4 <| nx @faC5 <| nx @frC0 <| nx @frC1 <| nx @frC2 <| nx @frC3 <| nx @frC4 <| nx @frC5 <| nx @ld_box <| nx @pcKind <| nx @pcKey <| nx @pcPool <| nx @pcA <| nx @pcB <| nx @pcC <| nx @pcAll <| nx @e1 <| nx @e2 <| nx @e3 <| nx @e4 <| nx @e5 <| nx @e6 <| nx @sc0 <| nx @e7 <| @q) ?_
      exact ⟨trivial, _, rfl, rfl⟩
  by_cases h3 : x.kind = 3
  · skip
    have e1 : decide ((x.kind : Int) = 1) = false := decide_eq_false (by omega)
    have e2 : decide ((x.kind : Int) = 2) = false := decide_eq_false (by omega)
    have e3 : decide ((x.kind : Int) = 3) = true := decide_eq_true (by omega)
    have e4 : decide ((x.kind : Int) = 4) = false := decide_eq_false (by omega)
    have e5 : decide ((x.kind : Int) = 5) = false := decide_eq_false (by omega)
    have e6 : decide ((x.kind : Int) = 6) = false := decide_eq_false (by omega)
    have sc0 := scKey x.base x.key
    have sc1 := scPool { x.base with key := x.key } x.pool
    have e7 : decide ((x.kind : Int) ≠ 4) = true := decide_eq_true (by omega)
    have q : eqD Tryz.prog 201 (.agg (certD x)) (.agg (certD { x.base with key := x.key, pool := x.pool })) = some (certB x) := by
      rw [eqCert]
      congr 1
      unfold certB
      rw [if_neg (by omega), if_neg (by omega), if_pos h3]
      rw [Bool.eq_iff_iff]
      simp only [decide_eq_true_eq]
      obtain ⟨kd, ky, po, a, b, c, _, _, _, _⟩ := x
      simp only [CertM.base, CertM.mk.injEq]
      constructor
      · rintro h; simp_all
      · rintro h; simp_all
    cases hb : certB x with
    | true =>
      rw [hb] at q
      refine zw (nx @tzCert <| nx @bdCert <| nx @splCC <| nx @certD_length <| nx @hD_length <| nx @tsC <| nx @tsH <| nx @ts40 <| nx @faC0 <| nx @faC1 <| nx @faC2 <| nx @faC3 <| nx @faC4 <| nx @faC5 <| nx @frC0 <| nx @frC1 <| nx @frC2 <| nx @frC3 <| nx @frC4 <| nx @frC5 <| nx @ld_box <| nx @pcKind <| nx @pcKey <| nx @pcPool <| nx @pcA <| nx @pcB <| nx @pcC <| nx @pcAll <| nx @e1 <| nx @e2 <| nx @e3 <| nx @e4 <| nx @e5 <| nx @e6 <| nx @sc0 <| nx @sc1 <| nx @e7 <| @q) ?_
      exact ⟨trivial, _, rfl, rfl⟩
    | false =>
      rw [hb] at q
      refine zw (nx @tzCert <| nx @bdCert <| nx @splCC <| nx @certD_length <| nx @hD_length <| nx @tsC <| nx @tsH <| nx @ts40 <| nx @faC0 <| nx @faC1 <| nx @faC2 <| nx @faC3 <| nx @faC4 <| nx @faC5 <| nx @frC0 <| nx @frC1 <| nx @frC2 <| nx @frC3 <| nx @frC4 <| nx @frC5 <| nx @ld_box <| nx @pcKind <| nx @pcKey <| nx @pcPool <| nx @pcA <| nx @pcB <| nx @pcC <| nx @pcAll <| nx @e1 <| nx @e2 <| nx @e3 <| nx @e4 <| nx @e5 <| nx @e6 <| nx @sc0 <| nx @sc1 <| nx @e7 <| @q) ?_
      exact ⟨trivial, _, rfl, rfl⟩
  by_cases h5 : x.kind = 5
  · skip
    have e1 : decide ((x.kind : Int) = 1) = false := decide_eq_false (by omega)
    have e2 : decide ((x.kind : Int) = 2) = false := decide_eq_false (by omega)
    have e3 : decide ((x.kind : Int) = 3) = false := decide_eq_false (by omega)
    have e4 : decide ((x.kind : Int) = 4) = false := decide_eq_false (by omega)
    have e5 : decide ((x.kind : Int) = 5) = true := decide_eq_true (by omega)
    have e6 : decide ((x.kind : Int) = 6) = false := decide_eq_false (by omega)
    have sc0 := scPool x.base x.pool
    have sc1 := scA { x.base with pool := x.pool } x.a x.ha
    have e7 : decide ((x.kind : Int) ≠ 4) = true := decide_eq_true (by omega)
    have q : eqD Tryz.prog 201 (.agg (certD x)) (.agg (certD { x.base with pool := x.pool, a := x.a, ha := x.ha })) = some (certB x) := by
      rw [eqCert]
      congr 1
      unfold certB
      rw [if_neg (by omega), if_neg (by omega), if_neg (by omega), if_neg (by omega), if_pos h5]
      rw [Bool.eq_iff_iff]
      simp only [decide_eq_true_eq]
      obtain ⟨kd, ky, po, a, b, c, _, _, _, _⟩ := x
      simp only [CertM.base, CertM.mk.injEq]
      constructor
      · rintro h; simp_all
      · rintro h; simp_all
    cases hb : certB x with
    | true =>
      rw [hb] at q
      refine zw (nx @tzCert <| nx @bdCert <| nx @splCC <| nx @certD_length <| nx @hD_length <| nx @tsC <| nx @tsH <| nx @ts40 <| nx @faC0 <| nx @faC1 <| nx @faC2 <| nx @faC3 <| nx @faC4 <| nx @faC5 <| nx @frC0 <| nx @frC1 <| nx @frC2 <| nx @frC3 <| nx @frC4 <| nx @frC5 <| nx @ld_box <| nx @pcKind <| nx @pcKey <| nx @pcPool <| nx @pcA <| nx @pcB <| nx @pcC <| nx @pcAll <| nx @e1 <| nx @e2 <| nx @e3 <| nx @e4 <| nx @e5 <| nx @e6 <| nx @sc0 <| nx @sc1 <| nx @e7 <| @q) ?_
      exact ⟨trivial, _, rfl, rfl⟩
    | false =>
      rw [hb] at q
      refine zw (nx @tzCert <| nx @bdCert <| nx @splCC <| nx @certD_length <| nx @hD_length <| nx @tsC <| nx @tsH <| nx @ts40 <| nx @faC0 <| nx @faC1 <| nx @faC2 <| nx @faC3 <| nx @faC4 <| nx @faC5 <| nx @frC0 <| nx @frC1 <| nx @frC2 <| nx @frC3 <| nx @frC4 <| nx @frC5 <| nx @ld_box <| nx @pcKind <| nx @pcKey <| nx @pcPool <| nx @pcA <| nx @pcB <| nx @pcC <| nx @pcAll <| nx @e1 <| nx @e2 <| nx @e3 <| nx @e4 <| nx @e5 <| nx @e6 <| nx @sc0 <| nx @sc1 <| nx @e7 <| @q) ?_
      exact ⟨trivial, _, rfl, rfl⟩
  by_cases h6 : x.kind = 6
  · skip
    have e1 : decide ((x.kind : Int) = 1) = false := decide_eq_false (by omega)
    have e2 : decide ((x.kind : Int) = 2) = false := decide_eq_false (by omega)
    have e3 : decide ((x.kind : Int) = 3) = false := decide_eq_false (by omega)
    have e4 : decide ((x.kind : Int) = 4) = false := decide_eq_false (by omega)
    have e5 : decide ((x.kind : Int) = 5) = false := decide_eq_false (by omega)
    have e6 : decide ((x.kind : Int) = 6) = true := decide_eq_true (by omega)
    have sc0 := scPool x.base x.pool
    have sc1 := scA { x.base with pool := x.pool } x.a x.ha
    have sc2 := scB { x.base with pool := x.pool, a := x.a, ha := x.ha } x.b x.hb
    have e7 : decide ((x.kind : Int) ≠ 4) = true := decide_eq_true (by omega)
    have q : eqD Tryz.prog 201 (.agg (certD x)) (.agg (certD { x.base with pool := x.pool, a := x.a, ha := x.ha, b := x.b, hb := x.hb })) = some (certB x) := by
      rw [eqCert]
      congr 1
      unfold certB
      rw [if_neg (by omega), if_neg (by omega), if_neg (by omega), if_neg (by omega), if_neg (by omega), if_pos h6]
      rw [Bool.eq_iff_iff]
      simp only [decide_eq_true_eq]
      obtain ⟨kd, ky, po, a, b, c, _, _, _, _⟩ := x
      simp only [CertM.base, CertM.mk.injEq]
      constructor
      · rintro h; simp_all
      · rintro h; simp_all
    cases hb : certB x with
    | true =>
      rw [hb] at q
      refine zw (nx @tzCert <| nx @bdCert <| nx @splCC <| nx @certD_length <| nx @hD_length <| nx @tsC <| nx @tsH <| nx @ts40 <| nx @faC0 <| nx @faC1 <| nx @faC2 <| nx @faC3 <| nx @faC4 <| nx @faC5 <| nx @frC0 <| nx @frC1 <| nx @frC2 <| nx @frC3 <| nx @frC4 <| nx @frC5 <| nx @ld_box <| nx @pcKind <| nx @pcKey <| nx @pcPool <| nx @pcA <| nx @pcB <| nx @pcC <| nx @pcAll <| nx @e1 <| nx @e2 <| nx @e3 <| nx @e4 <| nx @e5 <| nx @e6 <| nx @sc0 <| nx @sc1 <| nx @sc2 <| nx @e7 <| @q) ?_
      exact ⟨trivial, _, rfl, rfl⟩
    | false =>
      rw [hb] at q
      refine zw (nx @tzCert <| nx @bdCert <| nx @splCC <| nx @certD_length <| nx @hD_length <| nx @tsC <| nx @tsH <| nx @ts40 <| nx @faC0 <| nx @faC1 <| nx @faC2 <| nx @faC3 <| nx @faC4 <| nx @faC5 <| nx @frC0 <| nx @frC1 <| nx @frC2 <| nx @frC3 <| nx @frC4 <| nx @frC5 <| nx @ld_box <| nx @pcKind <| nx @pcKey <| nx @pcPool <| nx @pcA <| nx @pcB <| nx @pcC <| nx @pcAll <| nx @e1 <| nx @e2 <| nx @e3 <| nx @e4 <| nx @e5 <| nx @e6 <| nx @sc0 <| nx @sc1 <| nx @sc2 <| nx @e7 <| @q) ?_
      exact ⟨trivial, _, rfl, rfl⟩
  by_cases h4 : x.kind = 4
  · skip
    have e1 : decide ((x.kind : Int) = 1) = false := decide_eq_false (by omega)
    have e2 : decide ((x.kind : Int) = 2) = false := decide_eq_false (by omega)
    have e3 : decide ((x.kind : Int) = 3) = false := decide_eq_false (by omega)
    have e4 : decide ((x.kind : Int) = 4) = true := decide_eq_true (by omega)
    have e5 : decide ((x.kind : Int) = 5) = false := decide_eq_false (by omega)
    have e6 : decide ((x.kind : Int) = 6) = false := decide_eq_false (by omega)
    have e7 : decide ((x.kind : Int) ≠ 4) = false := decide_eq_false (by omega)
    have q : eqD Tryz.prog 201 (.agg (certD x)) (.agg (certD x)) = some true := by rw [eqCert, decide_eq_true rfl]
    have hB : certB x = decide (x.a < 9223372036854775808 ∧ x.b < 9223372036854775808 ∧ x.c ≤ 1000) := by
      unfold certB; rw [if_neg (by omega), if_neg (by omega), if_neg (by omega), if_pos h4]
    rw [hB]
    by_cases ha : x.a < 9223372036854775808
    · have da : decide ((x.a : Int) < 9223372036854775808) = true := decide_eq_true (by omega)
      by_cases hb : x.b < 9223372036854775808
      · have db : decide ((x.b : Int) < 9223372036854775808) = true := decide_eq_true (by omega)
        by_cases hc : x.c ≤ 1000
        · have dc : decide ((x.c : Int) ≤ 1000) = true := decide_eq_true (by omega)
          rw [decide_eq_true ⟨ha, hb, hc⟩]
          refine zw (nx @tzCert <| nx @bdCert <| nx @splCC <| nx @certD_length <| nx @hD_length <| nx @tsC <| nx @tsH <| nx @ts40 <| nx @faC0 <| nx @faC1 <| nx @faC2 <| nx @faC3 <| nx @faC4 <| nx @faC5 <| nx @frC0 <| nx @frC1 <| nx @frC2 <| nx @frC3 <| nx @frC4 <| nx @frC5 <| nx @ld_box <| nx @pcKind <| nx @pcKey <| nx @pcPool <| nx @pcA <| nx @pcB <| nx @pcC <| nx @pcAll <| nx @e1 <| nx @e2 <| nx @e3 <| nx @e4 <| nx @e5 <| nx @e6 <| nx @e7 <| nx @q <| nx @da <| nx @db <| @dc) ?_
          exact ⟨trivial, _, rfl, rfl⟩
        · have dc : decide ((x.c : Int) ≤ 1000) = false := decide_eq_false (by omega)
          rw [decide_eq_false (by rintro ⟨_, _, z⟩; exact hc z)]
          refine zw (nx @tzCert <| nx @bdCert <| nx @splCC <| nx @certD_length <| nx @hD_length <| nx @tsC <| nx @tsH <| nx @ts40 <| nx @faC0 <| nx @faC1 <| nx @faC2 <| nx @faC3 <| nx @faC4 <| nx @faC5 <| nx @frC0 <| nx @frC1 <| nx @frC2 <| nx @frC3 <| nx @frC4 <| nx @frC5 <| nx @ld_box <| nx @pcKind <| nx @pcKey <| nx @pcPool <| nx @pcA <| nx @pcB <| nx @pcC <| nx @pcAll <| nx @e1 <| nx @e2 <| nx @e3 <| nx @e4 <| nx @e5 <| nx @e6 <| nx @e7 <| nx @q <| nx @da <| nx @db <| @dc) ?_
          exact ⟨trivial, _, rfl, rfl⟩
      · have db : decide ((x.b : Int) < 9223372036854775808) = false := decide_eq_false (by omega)
        rw [decide_eq_false (by rintro ⟨_, z, _⟩; exact hb z)]
        refine zw (nx @tzCert <| nx @bdCert <| nx @splCC <| nx @certD_length <| nx @hD_length <| nx @tsC <| nx @tsH <| nx @ts40 <| nx @faC0 <| nx @faC1 <| nx @faC2 <| nx @faC3 <| nx @faC4 <| nx @faC5 <| nx @frC0 <| nx @frC1 <| nx @frC2 <| nx @frC3 <| nx @frC4 <| nx @frC5 <| nx @ld_box <| nx @pcKind <| nx @pcKey <| nx @pcPool <| nx @pcA <| nx @pcB <| nx @pcC <| nx @pcAll <| nx @e1 <| nx @e2 <| nx @e3 <| nx @e4 <| nx @e5 <| nx @e6 <| nx @e7 <| nx @q <| nx @da <| @db) ?_
        exact ⟨trivial, _, rfl, rfl⟩
    · have da : decide ((x.a : Int) < 9223372036854775808) = false := decide_eq_false (by omega)
      rw [decide_eq_false (by rintro ⟨z, _⟩; exact ha z)]
      refine zw (nx @tzCert <| nx @bdCert <| nx @splCC <| nx @certD_length <| nx @hD_length <| nx @tsC <| nx @tsH <| nx @ts40 <| nx @faC0 <| nx @faC1 <| nx @faC2 <| nx @faC3 <| nx @faC4 <| nx @faC5 <| nx @frC0 <| nx @frC1 <| nx @frC2 <| nx @frC3 <| nx @frC4 <| nx @frC5 <| nx @ld_box <| nx @pcKind <| nx @pcKey <| nx @pcPool <| nx @pcA <| nx @pcB <| nx @pcC <| nx @pcAll <| nx @e1 <| nx @e2 <| nx @e3 <| nx @e4 <| nx @e5 <| nx @e6 <| nx @e7 <| nx @q <| @da) ?_
      exact ⟨trivial, _, rfl, rfl⟩
  have e1 : decide ((x.kind : Int) = 1) = false := decide_eq_false (by omega)
  have e2 : decide ((x.kind : Int) = 2) = false := decide_eq_false (by omega)
  have e3 : decide ((x.kind : Int) = 3) = false := decide_eq_false (by omega)
  have e4 : decide ((x.kind : Int) = 4) = false := decide_eq_false (by omega)
  have e5 : decide ((x.kind : Int) = 5) = false := decide_eq_false (by omega)
  have e6 : decide ((x.kind : Int) = 6) = false := decide_eq_false (by omega)
  rw [show certB x = false by unfold certB; simp [h1, h2, h3, h4, h5, h6]]
  refine zw (nx @tzCert <| nx @bdCert <| nx @splCC <| nx @certD_length <| nx @hD_length <| nx @tsC <| nx @tsH <| nx @ts40 <| nx @faC0 <| nx @faC1 <| nx @faC2 <| nx @faC3 <| nx @faC4 <| nx @faC5 <| nx @frC0 <| nx @frC1 <| nx @frC2 <| nx @frC3 <| nx @frC4 <| nx @frC5 <| nx @ld_box <| nx @pcKind <| nx @pcKey <| nx @pcPool <| nx @pcA <| nx @pcB <| nx @pcC <| nx @pcAll <| nx @e1 <| nx @e2 <| nx @e3 <| nx @e4 <| nx @e5 <| @e6) ?_
  exact ⟨trivial, _, rfl, rfl⟩
theorem splHH (x y : H32) : splice (hD x) 0 (hD y) = hD y:=splice_all (by rw [hD_length,hD_length])
theorem tzHH : tyZero Tryz.prog 24 = some (hD zH):=by kernel_rfl
set_option maxHeartbeats 16000000 in
theorem r_refCert (fl : Fl) (x : CertM) (st : St) : run Tryz.prog nlH fl 190 [.agg (certD x)] st = some (.bool (certB x),st):=by
 refine run_sime (fi:=⟨true,[1],[]⟩) (rs:=[.tmp 2]) rfl rfl rfl Tryz.func190 rfl rfl ?_
 simp only [argsFr]
 have kk:=eqH x.key zH
 have kp:=eqH x.pool zH
 by_cases h1 : x.kind = 1
 ·skip
  have e1 : decide ((x.kind : Int) = 1) = true:=decide_eq_true (by omega)
  have e2 : decide ((x.kind : Int) = 2) = false:=decide_eq_false (by omega)
  have e3 : decide ((x.kind : Int) = 3) = false:=decide_eq_false (by omega)
  have e4 : decide ((x.kind : Int) = 4) = false:=decide_eq_false (by omega)
  have e5 : decide ((x.kind : Int) = 5) = false:=decide_eq_false (by omega)
  have e6 : decide ((x.kind : Int) = 6) = false:=decide_eq_false (by omega)
  have hB : certB x = decide (x.pool = zH ∧ x.a = 0 ∧ x.b = 0 ∧ x.c = 0):=by unfold certB; rw [if_pos h1]
  by_cases g4 : x.pool = zH
  ·have q4:=kp
   rw [decide_eq_true g4] at q4
   by_cases g3 : x.a = 0
   ·have q3 : decide ((x.a : Int) = 0) = true:=decide_eq_true (by omega)
    by_cases g2 : x.b = 0
    ·have q2 : decide ((x.b : Int) = 0) = true:=decide_eq_true (by omega)
     by_cases g1 : x.c = 0
     ·have q1 : decide ((x.c : Int) = 0) = true:=decide_eq_true (by omega)
      rw [show certB x = true by rw [hB]; exact decide_eq_true ⟨g4,g3,g2,g1⟩]
      refine zw (nx @tzHH <| nx @bdZH <| nx @hD_length <| nx @tsH <| nx @splHH <| nx @ptHH <| nx @tsC <| nx @faC0 <| nx @faC1 <| nx @faC2 <| nx @faC3 <| nx @faC4 <| nx @faC5 <| nx @ld_box <| nx @pcKind <| nx @pcKey <| nx @pcPool <| nx @pcA <| nx @pcB <| nx @pcC <| nx @e1 <| nx @e2 <| nx @e3 <| nx @e4 <| nx @e5 <| nx @e6 <| nx @kk <| nx @q4 <| nx @q3 <| nx @q2 <| @q1) ?_
      exact ⟨trivial,_,rfl,rfl⟩
     ·have q1 : decide ((x.c : Int) = 0) = false:=decide_eq_false (by omega)
      rw [show certB x = false by rw [hB]; exact decide_eq_false (by rintro z; simp_all)]
      refine zw (nx @tzHH <| nx @bdZH <| nx @hD_length <| nx @tsH <| nx @splHH <| nx @ptHH <| nx @tsC <| nx @faC0 <| nx @faC1 <| nx @faC2 <| nx @faC3 <| nx @faC4 <| nx @faC5 <| nx @ld_box <| nx @pcKind <| nx @pcKey <| nx @pcPool <| nx @pcA <| nx @pcB <| nx @pcC <| nx @e1 <| nx @e2 <| nx @e3 <| nx @e4 <| nx @e5 <| nx @e6 <| nx @kk <| nx @q4 <| nx @q3 <| nx @q2 <| @q1) ?_
      exact ⟨trivial,_,rfl,rfl⟩
    ·have q2 : decide ((x.b : Int) = 0) = false:=decide_eq_false (by omega)
     rw [show certB x = false by rw [hB]; exact decide_eq_false (by rintro z; simp_all)]
     refine zw (nx @tzHH <| nx @bdZH <| nx @hD_length <| nx @tsH <| nx @splHH <| nx @ptHH <| nx @tsC <| nx @faC0 <| nx @faC1 <| nx @faC2 <| nx @faC3 <| nx @faC4 <| nx @faC5 <| nx @ld_box <| nx @pcKind <| nx @pcKey <| nx @pcPool <| nx @pcA <| nx @pcB <| nx @pcC <| nx @e1 <| nx @e2 <| nx @e3 <| nx @e4 <| nx @e5 <| nx @e6 <| nx @kk <| nx @q4 <| nx @q3 <| @q2) ?_
     exact ⟨trivial,_,rfl,rfl⟩
   ·have q3 : decide ((x.a : Int) = 0) = false:=decide_eq_false (by omega)
    rw [show certB x = false by rw [hB]; exact decide_eq_false (by rintro z; simp_all)]
    refine zw (nx @tzHH <| nx @bdZH <| nx @hD_length <| nx @tsH <| nx @splHH <| nx @ptHH <| nx @tsC <| nx @faC0 <| nx @faC1 <| nx @faC2 <| nx @faC3 <| nx @faC4 <| nx @faC5 <| nx @ld_box <| nx @pcKind <| nx @pcKey <| nx @pcPool <| nx @pcA <| nx @pcB <| nx @pcC <| nx @e1 <| nx @e2 <| nx @e3 <| nx @e4 <| nx @e5 <| nx @e6 <| nx @kk <| nx @q4 <| @q3) ?_
    exact ⟨trivial,_,rfl,rfl⟩
  ·have q4:=kp
   rw [decide_eq_false g4] at q4
   rw [show certB x = false by rw [hB]; exact decide_eq_false (by rintro z; simp_all)]
   refine zw (nx @tzHH <| nx @bdZH <| nx @hD_length <| nx @tsH <| nx @splHH <| nx @ptHH <| nx @tsC <| nx @faC0 <| nx @faC1 <| nx @faC2 <| nx @faC3 <| nx @faC4 <| nx @faC5 <| nx @ld_box <| nx @pcKind <| nx @pcKey <| nx @pcPool <| nx @pcA <| nx @pcB <| nx @pcC <| nx @e1 <| nx @e2 <| nx @e3 <| nx @e4 <| nx @e5 <| nx @e6 <| nx @kk <| @q4) ?_
   exact ⟨trivial,_,rfl,rfl⟩
 by_cases h2 : x.kind = 2
 ·skip
  have e1 : decide ((x.kind : Int) = 1) = false:=decide_eq_false (by omega)
  have e2 : decide ((x.kind : Int) = 2) = true:=decide_eq_true (by omega)
  have e3 : decide ((x.kind : Int) = 3) = false:=decide_eq_false (by omega)
  have e4 : decide ((x.kind : Int) = 4) = false:=decide_eq_false (by omega)
  have e5 : decide ((x.kind : Int) = 5) = false:=decide_eq_false (by omega)
  have e6 : decide ((x.kind : Int) = 6) = false:=decide_eq_false (by omega)
  have hB : certB x = decide (x.pool = zH ∧ x.a = 0 ∧ x.b = 0 ∧ x.c = 0):=by unfold certB; rw [if_neg (by omega),if_pos h2]
  by_cases g4 : x.pool = zH
  ·have q4:=kp
   rw [decide_eq_true g4] at q4
   by_cases g3 : x.a = 0
   ·have q3 : decide ((x.a : Int) = 0) = true:=decide_eq_true (by omega)
    by_cases g2 : x.b = 0
    ·have q2 : decide ((x.b : Int) = 0) = true:=decide_eq_true (by omega)
     by_cases g1 : x.c = 0
     ·have q1 : decide ((x.c : Int) = 0) = true:=decide_eq_true (by omega)
      rw [show certB x = true by rw [hB]; exact decide_eq_true ⟨g4,g3,g2,g1⟩]
      refine zw (nx @tzHH <| nx @bdZH <| nx @hD_length <| nx @tsH <| nx @splHH <| nx @ptHH <| nx @tsC <| nx @faC0 <| nx @faC1 <| nx @faC2 <| nx @faC3 <| nx @faC4 <| nx @faC5 <| nx @ld_box <| nx @pcKind <| nx @pcKey <| nx @pcPool <| nx @pcA <| nx @pcB <| nx @pcC <| nx @e1 <| nx @e2 <| nx @e3 <| nx @e4 <| nx @e5 <| nx @e6 <| nx @kk <| nx @q4 <| nx @q3 <| nx @q2 <| @q1) ?_
      exact ⟨trivial,_,rfl,rfl⟩
     ·have q1 : decide ((x.c : Int) = 0) = false:=decide_eq_false (by omega)
      rw [show certB x = false by rw [hB]; exact decide_eq_false (by rintro z; simp_all)]
      refine zw (nx @tzHH <| nx @bdZH <| nx @hD_length <| nx @tsH <| nx @splHH <| nx @ptHH <| nx @tsC <| nx @faC0 <| nx @faC1 <| nx @faC2 <| nx @faC3 <| nx @faC4 <| nx @faC5 <| nx @ld_box <| nx @pcKind <| nx @pcKey <| nx @pcPool <| nx @pcA <| nx @pcB <| nx @pcC <| nx @e1 <| nx @e2 <| nx @e3 <| nx @e4 <| nx @e5 <| nx @e6 <| nx @kk <| nx @q4 <| nx @q3 <| nx @q2 <| @q1) ?_
      exact ⟨trivial,_,rfl,rfl⟩
    ·have q2 : decide ((x.b : Int) = 0) = false:=decide_eq_false (by omega)
     rw [show certB x = false by rw [hB]; exact decide_eq_false (by rintro z; simp_all)]
     refine zw (nx @tzHH <| nx @bdZH <| nx @hD_length <| nx @tsH <| nx @splHH <| nx @ptHH <| nx @tsC <| nx @faC0 <| nx @faC1 <| nx @faC2 <| nx @faC3 <| nx @faC4 <| nx @faC5 <| nx @ld_box <| nx @pcKind <| nx @pcKey <| nx @pcPool <| nx @pcA <| nx @pcB <| nx @pcC <| nx @e1 <| nx @e2 <| nx @e3 <| nx @e4 <| nx @e5 <| nx @e6 <| nx @kk <| nx @q4 <| nx @q3 <| @q2) ?_
     exact ⟨trivial,_,rfl,rfl⟩
   ·have q3 : decide ((x.a : Int) = 0) = false:=decide_eq_false (by omega)
    rw [show certB x = false by rw [hB]; exact decide_eq_false (by rintro z; simp_all)]
    refine zw (nx @tzHH <| nx @bdZH <| nx @hD_length <| nx @tsH <| nx @splHH <| nx @ptHH <| nx @tsC <| nx @faC0 <| nx @faC1 <| nx @faC2 <| nx @faC3 <| nx @faC4 <| nx @faC5 <| nx @ld_box <| nx @pcKind <| nx @pcKey <| nx @pcPool <| nx @pcA <| nx @pcB <| nx @pcC <| nx @e1 <| nx @e2 <| nx @e3 <| nx @e4 <| nx @e5 <| nx @e6 <| nx @kk <| nx @q4 <| @q3) ?_
    exact ⟨trivial,_,rfl,rfl⟩
  ·have q4:=kp
   rw [decide_eq_false g4] at q4
   rw [show certB x = false by rw [hB]; exact decide_eq_false (by rintro z; simp_all)]
   refine zw (nx @tzHH <| nx @bdZH <| nx @hD_length <| nx @tsH <| nx @splHH <| nx @ptHH <| nx @tsC <| nx @faC0 <| nx @faC1 <| nx @faC2 <| nx @faC3 <| nx @faC4 <| nx @faC5 <| nx @ld_box <| nx @pcKind <| nx @pcKey <| nx @pcPool <| nx @pcA <| nx @pcB <| nx @pcC <| nx @e1 <| nx @e2 <| nx @e3 <| nx @e4 <| nx @e5 <| nx @e6 <| nx @kk <| @q4) ?_
   exact ⟨trivial,_,rfl,rfl⟩
 by_cases h3 : x.kind = 3
 ·skip
  have e1 : decide ((x.kind : Int) = 1) = false:=decide_eq_false (by omega)
  have e2 : decide ((x.kind : Int) = 2) = false:=decide_eq_false (by omega)
  have e3 : decide ((x.kind : Int) = 3) = true:=decide_eq_true (by omega)
  have e4 : decide ((x.kind : Int) = 4) = false:=decide_eq_false (by omega)
  have e5 : decide ((x.kind : Int) = 5) = false:=decide_eq_false (by omega)
  have e6 : decide ((x.kind : Int) = 6) = false:=decide_eq_false (by omega)
  have hB : certB x = decide (x.a = 0 ∧ x.b = 0 ∧ x.c = 0):=by unfold certB; rw [if_neg (by omega),if_neg (by omega),if_pos h3]
  by_cases g3 : x.a = 0
  ·have q3 : decide ((x.a : Int) = 0) = true:=decide_eq_true (by omega)
   by_cases g2 : x.b = 0
   ·have q2 : decide ((x.b : Int) = 0) = true:=decide_eq_true (by omega)
    by_cases g1 : x.c = 0
    ·have q1 : decide ((x.c : Int) = 0) = true:=decide_eq_true (by omega)
     rw [show certB x = true by rw [hB]; exact decide_eq_true ⟨g3,g2,g1⟩]
     refine zw (nx @tzHH <| nx @bdZH <| nx @hD_length <| nx @tsH <| nx @splHH <| nx @ptHH <| nx @tsC <| nx @faC0 <| nx @faC1 <| nx @faC2 <| nx @faC3 <| nx @faC4 <| nx @faC5 <| nx @ld_box <| nx @pcKind <| nx @pcKey <| nx @pcPool <| nx @pcA <| nx @pcB <| nx @pcC <| nx @e1 <| nx @e2 <| nx @e3 <| nx @e4 <| nx @e5 <| nx @e6 <| nx @kk <| nx @kp <| nx @q3 <| nx @q2 <| @q1) ?_
     exact ⟨trivial,_,rfl,rfl⟩
    ·have q1 : decide ((x.c : Int) = 0) = false:=decide_eq_false (by omega)
     rw [show certB x = false by rw [hB]; exact decide_eq_false (by rintro z; simp_all)]
     refine zw (nx @tzHH <| nx @bdZH <| nx @hD_length <| nx @tsH <| nx @splHH <| nx @ptHH <| nx @tsC <| nx @faC0 <| nx @faC1 <| nx @faC2 <| nx @faC3 <| nx @faC4 <| nx @faC5 <| nx @ld_box <| nx @pcKind <| nx @pcKey <| nx @pcPool <| nx @pcA <| nx @pcB <| nx @pcC <| nx @e1 <| nx @e2 <| nx @e3 <| nx @e4 <| nx @e5 <| nx @e6 <| nx @kk <| nx @kp <| nx @q3 <| nx @q2 <| @q1) ?_
     exact ⟨trivial,_,rfl,rfl⟩
   ·have q2 : decide ((x.b : Int) = 0) = false:=decide_eq_false (by omega)
    rw [show certB x = false by rw [hB]; exact decide_eq_false (by rintro z; simp_all)]
    refine zw (nx @tzHH <| nx @bdZH <| nx @hD_length <| nx @tsH <| nx @splHH <| nx @ptHH <| nx @tsC <| nx @faC0 <| nx @faC1 <| nx @faC2 <| nx @faC3 <| nx @faC4 <| nx @faC5 <| nx @ld_box <| nx @pcKind <| nx @pcKey <| nx @pcPool <| nx @pcA <| nx @pcB <| nx @pcC <| nx @e1 <| nx @e2 <| nx @e3 <| nx @e4 <| nx @e5 <| nx @e6 <| nx @kk <| nx @kp <| nx @q3 <| @q2) ?_
    exact ⟨trivial,_,rfl,rfl⟩
  ·have q3 : decide ((x.a : Int) = 0) = false:=decide_eq_false (by omega)
   rw [show certB x = false by rw [hB]; exact decide_eq_false (by rintro z; simp_all)]
   refine zw (nx @tzHH <| nx @bdZH <| nx @hD_length <| nx @tsH <| nx @splHH <| nx @ptHH <| nx @tsC <| nx @faC0 <| nx @faC1 <| nx @faC2 <| nx @faC3 <| nx @faC4 <| nx @faC5 <| nx @ld_box <| nx @pcKind <| nx @pcKey <| nx @pcPool <| nx @pcA <| nx @pcB <| nx @pcC <| nx @e1 <| nx @e2 <| nx @e3 <| nx @e4 <| nx @e5 <| nx @e6 <| nx @kk <| nx @kp <| @q3) ?_
   exact ⟨trivial,_,rfl,rfl⟩
 by_cases h4 : x.kind = 4
 ·skip
  have e1 : decide ((x.kind : Int) = 1) = false:=decide_eq_false (by omega)
  have e2 : decide ((x.kind : Int) = 2) = false:=decide_eq_false (by omega)
  have e3 : decide ((x.kind : Int) = 3) = false:=decide_eq_false (by omega)
  have e4 : decide ((x.kind : Int) = 4) = true:=decide_eq_true (by omega)
  have e5 : decide ((x.kind : Int) = 5) = false:=decide_eq_false (by omega)
  have e6 : decide ((x.kind : Int) = 6) = false:=decide_eq_false (by omega)
  have hB : certB x = decide (x.a < 9223372036854775808 ∧ x.b < 9223372036854775808 ∧ x.c ≤ 1000):=by unfold certB; rw [if_neg (by omega),if_neg (by omega),if_neg (by omega),if_pos h4]
  by_cases g3 : x.a < 9223372036854775808
  ·have q3 : decide ((x.a : Int) ≤ 9223372036854775807) = true:=decide_eq_true (by omega)
   by_cases g2 : x.b < 9223372036854775808
   ·have q2 : decide ((x.b : Int) ≤ 9223372036854775807) = true:=decide_eq_true (by omega)
    by_cases g1 : x.c ≤ 1000
    ·have q1 : decide ((x.c : Int) ≤ 1000) = true:=decide_eq_true (by omega)
     rw [show certB x = true by rw [hB]; exact decide_eq_true ⟨g3,g2,g1⟩]
     refine zw (nx @tzHH <| nx @bdZH <| nx @hD_length <| nx @tsH <| nx @splHH <| nx @ptHH <| nx @tsC <| nx @faC0 <| nx @faC1 <| nx @faC2 <| nx @faC3 <| nx @faC4 <| nx @faC5 <| nx @ld_box <| nx @pcKind <| nx @pcKey <| nx @pcPool <| nx @pcA <| nx @pcB <| nx @pcC <| nx @e1 <| nx @e2 <| nx @e3 <| nx @e4 <| nx @e5 <| nx @e6 <| nx @kk <| nx @kp <| nx @q3 <| nx @q2 <| @q1) ?_
     exact ⟨trivial,_,rfl,rfl⟩
    ·have q1 : decide ((x.c : Int) ≤ 1000) = false:=decide_eq_false (by omega)
     rw [show certB x = false by rw [hB]; exact decide_eq_false (by rintro z; simp_all)]
     refine zw (nx @tzHH <| nx @bdZH <| nx @hD_length <| nx @tsH <| nx @splHH <| nx @ptHH <| nx @tsC <| nx @faC0 <| nx @faC1 <| nx @faC2 <| nx @faC3 <| nx @faC4 <| nx @faC5 <| nx @ld_box <| nx @pcKind <| nx @pcKey <| nx @pcPool <| nx @pcA <| nx @pcB <| nx @pcC <| nx @e1 <| nx @e2 <| nx @e3 <| nx @e4 <| nx @e5 <| nx @e6 <| nx @kk <| nx @kp <| nx @q3 <| nx @q2 <| @q1) ?_
     exact ⟨trivial,_,rfl,rfl⟩
   ·have q2 : decide ((x.b : Int) ≤ 9223372036854775807) = false:=decide_eq_false (by omega)
    rw [show certB x = false by rw [hB]; exact decide_eq_false (by rintro z; simp_all)]
    refine zw (nx @tzHH <| nx @bdZH <| nx @hD_length <| nx @tsH <| nx @splHH <| nx @ptHH <| nx @tsC <| nx @faC0 <| nx @faC1 <| nx @faC2 <| nx @faC3 <| nx @faC4 <| nx @faC5 <| nx @ld_box <| nx @pcKind <| nx @pcKey <| nx @pcPool <| nx @pcA <| nx @pcB <| nx @pcC <| nx @e1 <| nx @e2 <| nx @e3 <| nx @e4 <| nx @e5 <| nx @e6 <| nx @kk <| nx @kp <| nx @q3 <| @q2) ?_
    exact ⟨trivial,_,rfl,rfl⟩
  ·have q3 : decide ((x.a : Int) ≤ 9223372036854775807) = false:=decide_eq_false (by omega)
   rw [show certB x = false by rw [hB]; exact decide_eq_false (by rintro z; simp_all)]
   refine zw (nx @tzHH <| nx @bdZH <| nx @hD_length <| nx @tsH <| nx @splHH <| nx @ptHH <| nx @tsC <| nx @faC0 <| nx @faC1 <| nx @faC2 <| nx @faC3 <| nx @faC4 <| nx @faC5 <| nx @ld_box <| nx @pcKind <| nx @pcKey <| nx @pcPool <| nx @pcA <| nx @pcB <| nx @pcC <| nx @e1 <| nx @e2 <| nx @e3 <| nx @e4 <| nx @e5 <| nx @e6 <| nx @kk <| nx @kp <| @q3) ?_
   exact ⟨trivial,_,rfl,rfl⟩
 by_cases h5 : x.kind = 5
 ·skip
  have e1 : decide ((x.kind : Int) = 1) = false:=decide_eq_false (by omega)
  have e2 : decide ((x.kind : Int) = 2) = false:=decide_eq_false (by omega)
  have e3 : decide ((x.kind : Int) = 3) = false:=decide_eq_false (by omega)
  have e4 : decide ((x.kind : Int) = 4) = false:=decide_eq_false (by omega)
  have e5 : decide ((x.kind : Int) = 5) = true:=decide_eq_true (by omega)
  have e6 : decide ((x.kind : Int) = 6) = false:=decide_eq_false (by omega)
  have hB : certB x = decide (x.key = zH ∧ x.b = 0 ∧ x.c = 0):=by unfold certB; rw [if_neg (by omega),if_neg (by omega),if_neg (by omega),if_neg (by omega),if_pos h5]
  by_cases g3 : x.key = zH
  ·have q3:=kk
   rw [decide_eq_true g3] at q3
   by_cases g2 : x.b = 0
   ·have q2 : decide ((x.b : Int) = 0) = true:=decide_eq_true (by omega)
    by_cases g1 : x.c = 0
    ·have q1 : decide ((x.c : Int) = 0) = true:=decide_eq_true (by omega)
     rw [show certB x = true by rw [hB]; exact decide_eq_true ⟨g3,g2,g1⟩]
     refine zw (nx @tzHH <| nx @bdZH <| nx @hD_length <| nx @tsH <| nx @splHH <| nx @ptHH <| nx @tsC <| nx @faC0 <| nx @faC1 <| nx @faC2 <| nx @faC3 <| nx @faC4 <| nx @faC5 <| nx @ld_box <| nx @pcKind <| nx @pcKey <| nx @pcPool <| nx @pcA <| nx @pcB <| nx @pcC <| nx @e1 <| nx @e2 <| nx @e3 <| nx @e4 <| nx @e5 <| nx @e6 <| nx @kp <| nx @q3 <| nx @q2 <| @q1) ?_
     exact ⟨trivial,_,rfl,rfl⟩
    ·have q1 : decide ((x.c : Int) = 0) = false:=decide_eq_false (by omega)
     rw [show certB x = false by rw [hB]; exact decide_eq_false (by rintro z; simp_all)]
     refine zw (nx @tzHH <| nx @bdZH <| nx @hD_length <| nx @tsH <| nx @splHH <| nx @ptHH <| nx @tsC <| nx @faC0 <| nx @faC1 <| nx @faC2 <| nx @faC3 <| nx @faC4 <| nx @faC5 <| nx @ld_box <| nx @pcKind <| nx @pcKey <| nx @pcPool <| nx @pcA <| nx @pcB <| nx @pcC <| nx @e1 <| nx @e2 <| nx @e3 <| nx @e4 <| nx @e5 <| nx @e6 <| nx @kp <| nx @q3 <| nx @q2 <| @q1) ?_
     exact ⟨trivial,_,rfl,rfl⟩
   ·have q2 : decide ((x.b : Int) = 0) = false:=decide_eq_false (by omega)
    rw [show certB x = false by rw [hB]; exact decide_eq_false (by rintro z; simp_all)]
    refine zw (nx @tzHH <| nx @bdZH <| nx @hD_length <| nx @tsH <| nx @splHH <| nx @ptHH <| nx @tsC <| nx @faC0 <| nx @faC1 <| nx @faC2 <| nx @faC3 <| nx @faC4 <| nx @faC5 <| nx @ld_box <| nx @pcKind <| nx @pcKey <| nx @pcPool <| nx @pcA <| nx @pcB <| nx @pcC <| nx @e1 <| nx @e2 <| nx @e3 <| nx @e4 <| nx @e5 <| nx @e6 <| nx @kp <| nx @q3 <| @q2) ?_
    exact ⟨trivial,_,rfl,rfl⟩
  ·have q3:=kk
   rw [decide_eq_false g3] at q3
   rw [show certB x = false by rw [hB]; exact decide_eq_false (by rintro z; simp_all)]
   refine zw (nx @tzHH <| nx @bdZH <| nx @hD_length <| nx @tsH <| nx @splHH <| nx @ptHH <| nx @tsC <| nx @faC0 <| nx @faC1 <| nx @faC2 <| nx @faC3 <| nx @faC4 <| nx @faC5 <| nx @ld_box <| nx @pcKind <| nx @pcKey <| nx @pcPool <| nx @pcA <| nx @pcB <| nx @pcC <| nx @e1 <| nx @e2 <| nx @e3 <| nx @e4 <| nx @e5 <| nx @e6 <| nx @kp <| @q3) ?_
   exact ⟨trivial,_,rfl,rfl⟩
 by_cases h6 : x.kind = 6
 ·skip
  have e1 : decide ((x.kind : Int) = 1) = false:=decide_eq_false (by omega)
  have e2 : decide ((x.kind : Int) = 2) = false:=decide_eq_false (by omega)
  have e3 : decide ((x.kind : Int) = 3) = false:=decide_eq_false (by omega)
  have e4 : decide ((x.kind : Int) = 4) = false:=decide_eq_false (by omega)
  have e5 : decide ((x.kind : Int) = 5) = false:=decide_eq_false (by omega)
  have e6 : decide ((x.kind : Int) = 6) = true:=decide_eq_true (by omega)
  have hB : certB x = decide (x.key = zH ∧ x.c = 0):=by unfold certB; rw [if_neg (by omega),if_neg (by omega),if_neg (by omega),if_neg (by omega),if_neg (by omega),if_pos h6]
  by_cases g2 : x.key = zH
  ·have q2:=kk
   rw [decide_eq_true g2] at q2
   by_cases g1 : x.c = 0
   ·have q1 : decide ((x.c : Int) = 0) = true:=decide_eq_true (by omega)
    rw [show certB x = true by rw [hB]; exact decide_eq_true ⟨g2,g1⟩]
    refine zw (nx @tzHH <| nx @bdZH <| nx @hD_length <| nx @tsH <| nx @splHH <| nx @ptHH <| nx @tsC <| nx @faC0 <| nx @faC1 <| nx @faC2 <| nx @faC3 <| nx @faC4 <| nx @faC5 <| nx @ld_box <| nx @pcKind <| nx @pcKey <| nx @pcPool <| nx @pcA <| nx @pcB <| nx @pcC <| nx @e1 <| nx @e2 <| nx @e3 <| nx @e4 <| nx @e5 <| nx @e6 <| nx @kp <| nx @q2 <| @q1) ?_
    exact ⟨trivial,_,rfl,rfl⟩
   ·have q1 : decide ((x.c : Int) = 0) = false:=decide_eq_false (by omega)
    rw [show certB x = false by rw [hB]; exact decide_eq_false (by rintro z; simp_all)]
    refine zw (nx @tzHH <| nx @bdZH <| nx @hD_length <| nx @tsH <| nx @splHH <| nx @ptHH <| nx @tsC <| nx @faC0 <| nx @faC1 <| nx @faC2 <| nx @faC3 <| nx @faC4 <| nx @faC5 <| nx @ld_box <| nx @pcKind <| nx @pcKey <| nx @pcPool <| nx @pcA <| nx @pcB <| nx @pcC <| nx @e1 <| nx @e2 <| nx @e3 <| nx @e4 <| nx @e5 <| nx @e6 <| nx @kp <| nx @q2 <| @q1) ?_
    exact ⟨trivial,_,rfl,rfl⟩
  ·have q2:=kk
   rw [decide_eq_false g2] at q2
   rw [show certB x = false by rw [hB]; exact decide_eq_false (by rintro z; simp_all)]
   refine zw (nx @tzHH <| nx @bdZH <| nx @hD_length <| nx @tsH <| nx @splHH <| nx @ptHH <| nx @tsC <| nx @faC0 <| nx @faC1 <| nx @faC2 <| nx @faC3 <| nx @faC4 <| nx @faC5 <| nx @ld_box <| nx @pcKind <| nx @pcKey <| nx @pcPool <| nx @pcA <| nx @pcB <| nx @pcC <| nx @e1 <| nx @e2 <| nx @e3 <| nx @e4 <| nx @e5 <| nx @e6 <| nx @kp <| @q2) ?_
   exact ⟨trivial,_,rfl,rfl⟩
 have e1 : decide ((x.kind : Int) = 1) = false:=decide_eq_false (by omega)
 have e2 : decide ((x.kind : Int) = 2) = false:=decide_eq_false (by omega)
 have e3 : decide ((x.kind : Int) = 3) = false:=decide_eq_false (by omega)
 have e4 : decide ((x.kind : Int) = 4) = false:=decide_eq_false (by omega)
 have e5 : decide ((x.kind : Int) = 5) = false:=decide_eq_false (by omega)
 have e6 : decide ((x.kind : Int) = 6) = false:=decide_eq_false (by omega)
 rw [show certB x = false by unfold certB; simp [h1,h2,h3,h4,h5,h6]]
 refine zw (nx @tzHH <| nx @bdZH <| nx @hD_length <| nx @tsH <| nx @splHH <| nx @ptHH <| nx @tsC <| nx @faC0 <| nx @faC1 <| nx @faC2 <| nx @faC3 <| nx @faC4 <| nx @faC5 <| nx @ld_box <| nx @pcKind <| nx @pcKey <| nx @pcPool <| nx @pcA <| nx @pcB <| nx @pcC <| nx @e1 <| nx @e2 <| nx @e3 <| nx @e4 <| nx @e5 <| nx @e6 <| nx @kk <| @kp) ?_
 exact ⟨trivial,_,rfl,rfl⟩
end Go.Ab.Sha
