/-
  Own work: part 9 of the texts that the proof of the given statement leans on.
-/
import Derived.Test.YtemlaciidfaceaaGreatZFactorP01
noncomputable section
namespace Go.Di
end Go.Di
namespace Go.Di
theorem zLE {n lo hi:Int}:inB n lo hi=true↔lo≤n∧n≤hi:=by
  unfold inB; simp only[Bool.and_eq_true,decide_eq_true_iff]
structure MxQ (m:Mx) (r c:Nat) (q:List Rat):Prop where
  r24:r≤24
  c24:c≤24
  len:q.length=r * c
  fits:Fits q
  eq:m=⟨r,c,q.map rq⟩
theorem zqo {r c:Nat} (hr:r≤24) (hc:c≤24):r * c≤576:=by
  calc r * c≤24 * 24:=Nat.mul_le_mul hr hc
    _=576:=rfl
theorem zvx {m:Mx} (h:mxB m=true):∃ r c q,MxQ m r c q:=by
  unfold mxB at h
  simp only[Bool.and_eq_true,zLE] at h
  obtain ⟨⟨h1,h2⟩,⟨h3,h4⟩,h5,h6⟩:=h
  obtain ⟨q,hq,he⟩:=zC2 h6
  obtain ⟨rows,cols,cells⟩:=m
  simp only at *
  obtain ⟨r,rfl⟩:=Int.eq_ofNat_of_zero_le h1
  obtain ⟨c,rfl⟩:=Int.eq_ofNat_of_zero_le h3
  have hp:=zqo (show r≤24 by omega) (show c≤24 by omega)
  have e1:((r:Int) * (c:Int))=((r * c:Nat):Int):=by simp
  rw[e1,wrap_i64 (by omega) (by omega),beq_iff_eq] at h5
  subst he
  exact ⟨r,c,q,by omega,by omega,by rw[List.length_map] at h5; omega,hq,rfl⟩
theorem zr1 {i c k:Nat} (hi:i < 1000) (hc:c≤1000) (hk:k < 1000):IntKind.i64.wrap (IntKind.i64.wrap ((i:Int) * (c:Int))+(k:Int))=((i * c+k:Nat):Int):=by
  have hp:i * c≤1000 * 1000:=Nat.mul_le_mul (by omega) hc
  have e1:((i:Int) * (c:Int))=((i * c:Nat):Int):=by simp
  rw[e1,wrap_i64 (n:=((i * c:Nat):Int)) (by omega) (by omega),wrap_i64 (by omega) (by omega)]
  simp
theorem zp3 {i r c k:Nat} (hi:i < r) (hk:k < c):i * c+k < r * c:=by
  have:(i+1) * c≤r * c:=Nat.mul_le_mul_right _ (by omega)
  rw[Nat.add_mul,Nat.one_mul] at this
  omega
theorem zCW {r c:Nat} {q:List Rat} {i k:Nat} {x:Int} (hl:q.length=r * c) (hr:r≤24) (hc:c≤24) (hi:i < r) (hk:k < c):zbp ⟨x,c,q.map rq⟩ i k=some (ro q[i * c+k]?):=by
  unfold zbp
  simp only[]
  rw[zr1 (by omega) (by omega) (by omega),zo6 (by rw[hl]; exact zp3 hi hk)]; rfl
theorem zKl {r c:Nat} {q:List Rat} {i k:Nat} {x:Int} (hl:q.length=r * c) (hr:r≤24) (hc:c≤24) (hi:i < r) (hk:k < c):zec ⟨x,c,q.map rq⟩ i k=some (ro q[i * c+k]?) :=
  zCW hl hr hc hi hk
/-! ### Matrices of integers -/
/-! ### Elements,rows,diagonals -/
theorem zuC {o:Option Rat} (h:Oks o):zbd (ro o)=some (ro o):=zlQ (zAQ h)
theorem zvX {o:Option Rat} (h:Oks o):zbz (ro o)=some (ro o):=zqe (zAQ h)
/-! ### Products with vectors -/
end Go.Di
namespace Go.Di
/-! ### Grids -/
def grid {α:Type} (r c:Nat) (g:Nat→Nat→α):List α:=(List.range r).flatMap fun i=>(List.range c).map (g i)
theorem zmX {α:Type} (r c:Nat) (g:Nat→Nat→α):grid (r+1) c g=grid r c g++(List.range c).map (g r):=by
  unfold grid; rw[List.range_succ,List.flatMap_append]; simp
theorem zdK {α:Type} (r c:Nat) (g:Nat→Nat→α):(grid r c g).length=r * c:=by
  induction r with
  | zero=>simp[grid]
  | succ r ih=>rw[zmX,List.length_append,ih,List.length_map,List.length_range,Nat.add_mul,Nat.one_mul]
theorem zmZ {α:Type} {r c:Nat} (g:Nat→Nat→α) {j:Nat} (h:j < r * c):(grid r c g)[j]? = some (g (j / c) (j % c)):=by
  induction r with
  | zero=>omega
  | succ r ih =>
    rw[zmX]
    by_cases hj:j < r * c
    · rw[List.getElem?_append_left (by rw[zdK]; exact hj)]; exact ih hj
    · rw [List.getElem?_append_right (by rw[zdK]; omega),zdK]
      rw[Nat.add_mul,Nat.one_mul] at h
      have hk:j - r * c < c:=by omega
      rw[List.getElem?_map,List.getElem?_range hk]
      have e:j=c * r+(j - r * c):=by rw[Nat.mul_comm c r]; omega
      have h1:j / c=r:=by
        rw[e,Nat.mul_add_div (by omega),Nat.div_eq_of_lt hk]; omega
      have h2:j % c=j - r * c:=by
        conv=>lhs; rw[e]
        rw[Nat.mul_add_mod,Nat.mod_eq_of_lt hk]
      rw[h1,h2]; rfl
theorem zkH {i c k:Nat} (hk:k < c):(i * c+k) / c=i∧(i * c+k) % c=k:=by
  constructor
  · rw[Nat.mul_comm,Nat.mul_add_div (by omega),Nat.div_eq_of_lt hk]; omega
  · rw[Nat.mul_comm,Nat.mul_add_mod,Nat.mod_eq_of_lt hk]
theorem zo9 {α β:Type} (f:α→β) (r c:Nat) (g:Nat→Nat→α):(grid r c g).map f=grid r c fun i k=>f (g i k):=by
  unfold grid
  rw[List.map_flatMap]
  congr 1
  funext i
  rw[List.map_map]; rfl
theorem zvK {α:Type} {r c:Nat} {g:Nat→Nat→α} {x:α} (h:x∈grid r c g):∃ i k,i < r∧k < c∧x=g i k:=by
  obtain ⟨i,hi,hx⟩:=List.mem_flatMap.1 h
  obtain ⟨k,hk,rfl⟩:=List.mem_map.1 hx
  exact ⟨i,k,List.mem_range.1 hi,List.mem_range.1 hk,rfl⟩
theorem znf {r c j:Nat} (h:j < r * c):j / c < r∧j % c < c∧j / c * c+j % c=j:=by
  have hc:0 < c:=by
    rcases Nat.eq_zero_or_pos c with h0 | h0
    · subst h0; simp at h
    · exact h0
  refine ⟨Nat.div_lt_of_lt_mul (by rw[Nat.mul_comm]; exact h),Nat.mod_lt _ hc,?_⟩
  rw[Nat.mul_comm]; exact Nat.div_add_mod j c
theorem ziD {α:Type} {r c:Nat} {g h:Nat→Nat→α} (e:∀ i k,i < r→k < c→g i k=h i k):grid r c g=grid r c h:=by
  apply List.ext_getElem?
  intro j
  by_cases hj:j < r * c
  · obtain ⟨h1,h2,_⟩:=znf hj
    rw[zmZ g hj,zmZ h hj,e _ _ h1 h2]
  · rw[List.getElem?_eq_none (by rw[zdK]; omega),List.getElem?_eq_none (by rw[zdK]; omega)]
theorem zFF {α:Type} (r c:Nat) (f:Nat→α):grid r c (fun i k=>f (i * c+k))=(List.range (r * c)).map f:=by
  apply List.ext_getElem?
  intro j
  by_cases hj:j < r * c
  · rw[zmZ _ hj,(znf hj).2.2,List.getElem?_map,List.getElem?_range hj]; rfl
  · rw[List.getElem?_eq_none (by rw[zdK]; omega),List.getElem?_eq_none (by simp; omega)]
theorem zFE {α:Type} {r c i k:Nat} (g:Nat→Nat→α) (x:α) (hi:i < r) (hk:k < c):(grid r c g).set (i * c+k) x=grid r c fun a b=>if a=i∧b=k then x else g a b:=by
  apply List.ext_getElem?
  intro j
  rw[List.getElem?_set]
  by_cases hj:j < r * c
  · obtain ⟨h1,h2,h3⟩:=znf hj
    rw[zmZ (fun a b=>if a=i∧b=k then x else g a b) hj]
    split
    · rename_i e
      rw[if_pos (by rw[zdK]; omega)]
      subst e
      rw[(zkH hk).1,(zkH hk).2,if_pos ⟨rfl,rfl⟩]
    · rename_i e
      rw[zmZ g hj,if_neg (by rintro ⟨e1,e2⟩; rw[e1,e2] at h3; exact e h3)]
  · rw[List.getElem?_eq_none (l:=grid r c _) (by rw[zdK]; omega),if_neg (by have:=zp3 hi hk; omega),List.getElem?_eq_none (by rw[zdK]; omega)]
/-! ### Loops -/
theorem zp4 {β σ ρ:Type} {S:σ→Option (σ ⊕ ρ)} (x0:List β) (st:Int→List β→σ) (g:Nat→β) (n:Nat) {r:List β→ρ}
    (hS:∀ (i:Nat) out,i < n→out.length=x0.length+i→S (st (i:Int) out)=some (.inl (st ((i+1:Nat):Int) (out++[g i])))) (hE:∀ out,out.length=x0.length+n→S (st (n:Int) out)=some (.inr (r out))) :
    whileO S (st 0 x0)=some (r (x0++(List.range n).map g)):=by
  have key:=za7 S (fun i=>st (i:Int) (x0++(List.range i).map g)) n (r (x0++(List.range n).map g)) (fun i hi=>by
    rw[hS i _ hi (by simp),List.range_succ,List.map_append,List.append_assoc]; rfl) (hE _ (by simp))
  simpa using key
theorem zmY {β σ ρ:Type} {S:σ→Option (σ ⊕ ρ)} (st:Int→List β→σ) (g:Nat→Nat→β) (n c:Nat) {r:List β→ρ}
    (hS:∀ (i:Nat) out,i < n→out.length=i * c→S (st (i:Int) out)=some (.inl (st ((i+1:Nat):Int) (out++(List.range c).map (g i))))) (hE:∀ out,out.length=n * c→S (st (n:Int) out)=some (.inr (r out))) :
    whileO S (st 0 [])=some (r (grid n c g)):=by
  have key:=za7 S (fun i=>st (i:Int) (grid i c g)) n (r (grid n c g)) (fun i hi=>by
    rw[hS i _ hi (zdK ..),zmX]) (hE _ (zdK ..))
  simpa [grid] using key
theorem zoR {i n c k r m:Nat} (hi:i < n) (hk:k < c) (hn:n≤24) (hc:c≤24) (hr:r=i * c) (hm:m=r+k):zal (Nat.ble (m+1) zar)=some ():=by
  have:=zp3 hi hk
  have:=zqo hn hc
  exact zER (by omega)
/-! ### Identities -/
def idO (i k:Nat):Option Rat:=if i=k then some 1 else some 0
theorem zLK:Fit 1:=by
  have:=zC8 (n:=1) (by omega) (by omega)
  simpa using this
theorem zKx (i k:Nat):Oks (idO i k):=by
  unfold idO; split
  · exact zLK.ok
  · exact zvO.ok
theorem zzV:zcy 1=some (ro (some 1)):=by
  have:=zoc (n:=1) (by omega) (by omega)
  simpa using this
theorem zEI:zb8 1=some (ro (some 1)):=by
  have:=zmo (n:=1) (by omega) (by omega)
  simpa using this
theorem zFB (i k:Nat):zcZ (i:Int) (k:Int)=some (ro (idO i k)):=by
  unfold zcZ idO
  have:((i:Int)==(k:Int))=decide (i=k):=by rw[Bool.eq_iff_iff]; simp; omega
  rw[this,zzV,zxL]
  by_cases h:i=k
  · rw[decide_eq_true h,if_pos h]; rfl
  · rw[decide_eq_false h,if_neg h]; rfl
theorem zCT {n:Nat} (hn:n≤24):za4 n n=some ⟨n,n,(grid n n idO).map ro⟩:=by
  unfold za4 zbK
  rw [zmY (S:=zaK) (fun i out=>((n:Int),(n:Int),i,0,0,[],(n:Int),(n:Int),out,())) (fun i k=>ro (idO i k)) n n (r:=fun out=>(0,0,[],(n:Int),(n:Int),out,())) (fun i out hi ho=>by
    unfold zaK zbJ
    simp only[dlt hi,cond_true]
    rw [zp4 (S:=zaJ) out (fun k out=>((n:Int),(i:Int),(n:Int),(i:Int),(n:Int),k,0,0,[],(n:Int),(n:Int),out,())) (fun k=>ro (idO i k)) n (r:=fun out=>((n:Int),(n:Int),(i:Int),0,0,[],(n:Int),(n:Int),out,())) (fun k xs hk hx=>by
      simp only[zaJ,dlt hk,cond_true,zFB,Option.bind_some,zoR hi hk hn hn ho hx,zaB hk (show n≤1048576 by omega)]) (fun out _=>by simp[zaJ])]
    simp only[Option.bind_some,zaB hi (show n≤1048576 by omega)]) (fun out _=>by simp[zaK])]
  rw[zo9]; rfl
theorem zxP {n:Nat} (hn:n≤20000):zdw (n:Int)=some ((List.range n).map fun _=>ro (some 0)):=by
  unfold zdw zgV
  rw [zHI (S:=zbY) (fun _ out=>((n:Int),out,())) (fun _=>ro (some 0)) n (r:=fun out=>(out,())) (fun i out hi ho=>by
    have hlt:decide ((out.length:Int) < (n:Int))=true:=dlt (by omega)
    simp only[zbY,hlt,cond_true,zz7,Option.bind_some,zER (show out.length≤2000000 by omega)]) (fun out ho=>by
    have:decide ((out.length:Int) < (n:Int))=false:=decide_eq_false (by omega)
    simp only[zbY,this,cond_false])]
  rfl
/-! ### Transposed matrices -/
def trans (q:List Rat) (r c:Nat):List Rat:=grid c r fun i k=>(q[k * c+i]?).getD 0
theorem zu8 {q:List Rat} {r c:Nat} (hl:q.length=r * c):(trans q r c).map rq=grid c r fun i k=>ro q[k * c+i]? := by
  unfold trans
  rw[zo9]
  refine ziD fun i k hi hk=>?_
  have:k * c+i < q.length:=by rw[hl]; exact zp3 hk hi
  rw[List.getElem?_eq_getElem this]; rfl
theorem zuo {q:List Rat} {r c:Nat} (hr:r≤24) (hc:c≤24) (hl:q.length=r * c) (hf:Fits q):zeF ⟨r,c,q.map rq⟩=some ⟨c,r,(trans q r c).map rq⟩:=by
  unfold zeF zbU zc4
  simp only[]
  rw [zmY (S:=zaF) (fun i out=>((r:Int),(r:Int),(c:Int),q.map rq,(c:Int),i,0,0,[],(c:Int),(r:Int),out,())) (fun i k=>ro q[k * c+i]?) c r (r:=fun out=>(0,0,[],(c:Int),(r:Int),out,())) (fun i out hi ho=>by
    unfold zaF zc3
    simp only[dlt hi,cond_true]
    rw [zp4 (S:=zaE) out (fun k out=>((r:Int),(r:Int),(c:Int),q.map rq,(i:Int),(c:Int),(i:Int),(r:Int),k,0,0,[],(c:Int),(r:Int),out,())) (fun k=>ro q[k * c+i]?) r (r:=fun out=>((r:Int),(r:Int),(c:Int),q.map rq,(c:Int),(i:Int),0,0,[],(c:Int),(r:Int),out,())) (fun k xs hk hx=>by
      simp only[zaE,zfo,dlt hk,cond_true,zCW hl hr hc hk hi,Option.bind_some,zuC (hf.get _),zoR hi hk hc hr ho hx,zaB hk (show r≤1048576 by omega)]) (fun out _=>by simp[zaE])]
    simp only[Option.bind_some,zaB hi (show c≤1048576 by omega)]) (fun out _=>by simp[zaF])]
  rw[zu8 hl]; rfl
theorem zs4 {q:List Rat} {r c:Nat} (hr:r≤24) (hc:c≤24) (hl:q.length=r * c) (hf:Fits q):zcd ⟨r,c,q.map rq⟩=some ⟨c,r,(trans q r c).map rq⟩:=by
  unfold zcd zfj
  simp only[]
  rw [zmY (S:=zba) (fun i out=>(i,(r:Int),(c:Int),q.map rq,0,0,[],(c:Int),(r:Int),out,())) (fun i k=>ro q[k * c+i]?) c r (r:=fun out=>(0,0,[],(c:Int),(r:Int),out,())) (fun i out hi ho=>by
    unfold zba zfi
    simp only[dlt hi,cond_true]
    rw [zp4 (S:=za9) out (fun k out=>((i:Int),k,(r:Int),(c:Int),q.map rq,0,0,[],(c:Int),(r:Int),out,())) (fun k=>ro q[k * c+i]?) r (r:=fun out=>((i:Int),(r:Int),(c:Int),q.map rq,0,0,[],(c:Int),(r:Int),out,())) (fun k xs hk hx=>by
      simp only[za9,dlt hk,cond_true,zKl hl hr hc hk hi,Option.bind_some,zvX (hf.get _),zoR hi hk hc hr ho hx,zaB hk (show r≤1048576 by omega)]) (fun out _=>by simp[za9])]
    simp only[Option.bind_some,zaB hi (show c≤1048576 by omega)]) (fun out _=>by simp[zba])]
  rw[zu8 hl]; rfl
theorem znE {m:Mx} (hm:znB Rt.fit m.cells):∃ b,zaH m=some b∧zaT m=some b:=by
  cases hb:mxB m with
  | false=>exact ⟨false,by unfold zaH; rw[zj6 hm,hb]; rfl,by unfold zaT; rw[zqX hm,hb]; rfl⟩
  | true =>
    obtain ⟨r,c,q,hq⟩:=zvx hb
    obtain ⟨hr,hc,hl,hf,hmq⟩:=hq
    have hi:zaT m=some (eqB m ⟨c,r,(trans q r c).map rq⟩):=by
      unfold zaT
      rw[zqX hm,hb]
      simp only[Option.bind_some,cond_true]
      rw[show zeF m=some ⟨c,r,(trans q r c).map rq⟩ by rw[hmq,zuo hr hc hl hf],Option.bind_some,zCR hm]; rfl
    have hs:zaH m=some (cond (m.rows==m.cols) (eqB m ⟨c,r,(trans q r c).map rq⟩) false):=by
      unfold zaH
      rw[zj6 hm,hb]
      simp only[Option.bind_some,cond_true]
      rw[show zcd m=some ⟨c,r,(trans q r c).map rq⟩ by rw[hmq,zs4 hr hc hl hf],Option.bind_some,zz9 hm]
      cases (m.rows==m.cols)<;>rfl
    refine ⟨_,hs,hi.trans ?_⟩
    cases hrc:(m.rows==m.cols) with
    | true=>rfl
    | false =>
      congr 1
      rw[cond_false,zhW]
      intro e
      rw[hmq] at e hrc
      injection e with e1 _ _
      rw[e1] at hrc
      simp at hrc
/-! ### Sums,products -/
/-! ### Parts -/
end Go.Di
namespace Go.Di
end Go.Di
namespace Go.Di
theorem zz8 {o:Option Rat} (ho:Oks o):zfy (ro o)=some (ro (zOT o)):=by
  unfold zfy
  cases o with
  | none =>
    have h0:zau (!(ro none).neg) (ro none).mag=some (bg 0):=by
      rw[zeQ]
      show zau true (dg 0)=_
      rw[zdn true (by rw[zay]; simp),zoN]
    rw[h0,Option.bind_some,room (by simp[ro]),Option.bind_some,zp0]; rfl
  | some q =>
    have fq:=ho q rfl
    show ((zau (!decide (q.num < 0)) (dg q.num.natAbs)).bind fun r1=>(zal (Nat.ble (dg q.den).length zar)).bind fun _=>some (⟨r1.neg,r1.mag,dg q.den⟩:Rt))=_
    rw[zdn _ (by have:=fq.1; omega),Option.bind_some,room (by have:=fq.2; omega),Option.bind_some]
    have e:sg (!decide (q.num < 0)) q.num.natAbs = -q.num:=by
      by_cases h:q.num < 0
      · rw[decide_eq_true h]; simp only[sg,Bool.not_true,cond_false]; omega
      · rw[decide_eq_false h]; simp only[sg,Bool.not_false,cond_true]; omega
    rw[e]; rfl
theorem zqc {o p:Option Rat} (ho:Oks o) (hp:Oks p):zc8 (ro o) (ro p)=some (ro (zKe o p)):=by
  unfold zc8
  rw[zz8 hp,Option.bind_some,spec_addO ho (zvt hp)]; rfl
/-! ### Half tangents -/
/-! ### Lists of observations -/
end Go.Di
namespace Go.Di
end Go.Di
namespace Go.Di
theorem stop_loop {σ ρ:Type} {S:σ→Option (σ ⊕ ρ)} (st:Nat→σ) (n:Nat) (ok:Nat→Bool) (bad fin:ρ)
    (h:∀ i,i < n→(∀ j,j < i→ok j=true)→S (st i)=some (cond (ok i) (.inl (st (i+1))) (.inr bad)))
    (he:(∀ j,j < n→ok j=true)→S (st n)=some (.inr fin)):whileO S (st 0)=some (cond ((List.range n).all ok) fin bad):=by
  have key : ∀ s i,i+s=n→(∀ j,j < i→ok j=true)→whileO S (st i)=some (cond ((List.range n).all ok) fin bad):=by
    intro s
    induction s with
    | zero =>
      intro i hi hj
      have:i=n:=by omega
      subst this
      have ha:(List.range i).all ok=true:=by rw[List.all_eq_true]; intro x hx; exact hj x (List.mem_range.1 hx)
      rw[ha,cond_true]; exact zaR (he hj)
    | succ s ih =>
      intro i hi hj
      have hn:i < n:=by omega
      have hs:=h i hn hj
      cases hb:ok i with
      | true =>
        rw[hb,cond_true] at hs
        rw[zcI hs]
        exact ih (i+1) (by omega) fun j hji=>by
          by_cases e:j=i
          · rw[e]; exact hb
          · exact hj j (by omega)
      | false =>
        rw[hb,cond_false] at hs
        have ha:(List.range n).all ok=false:=by
          rw[← Bool.not_eq_true,List.all_eq_true]
          intro hall
          have:=hall i (List.mem_range.2 hn)
          rw[hb] at this; cases this
        rw[ha,cond_false]; exact zaR hs
  exact key n 0 (by omega) fun j hj=>by omega
def zdW (lo:List (Option Rat)) (p:Nat):Option Rat:=(lo[p]?).getD none
theorem zee {lo:List (Option Rat)} (h:∀ o∈lo,Oks o) (p:Nat):Oks (zdW lo p):=by
  unfold zdW
  cases e:lo[p]? with
  | none=>exact zoV
  | some o=>exact h o (List.mem_of_getElem? e)
theorem zmf {lo:List (Option Rat)} {p:Nat} (h:p < lo.length):idx (lo.map ro) (p:Int)=some (ro (zdW lo p)):=by
  rw[zNE h]; unfold zdW; rw[List.getElem?_eq_getElem h]; rfl
theorem zC4 {lo:List (Option Rat)} {p:Nat} (h:p < lo.length):(lo.map ro)[p]? = some (ro (zdW lo p)):=by
  rw[← zhh,zmf h]
theorem zKs (q:List Rat):q.map rq=(q.map some).map ro:=by rw[List.map_map]; rfl
theorem zEZ {q:List Rat} (h:Fits q):∀ o∈q.map some,Oks o:=fun o ho=>by
  obtain ⟨x,hx,rfl⟩:=List.mem_map.1 ho
  exact (h x hx).ok
theorem ziC {lo:List (Option Rat)} {n c i k:Nat} {x:Int} (hl:lo.length=n * c) (hn:n≤1000) (hc:c≤1000) (hi:i < n) (hk:k < c) :
    zax ⟨x,c,lo.map ro⟩ i k=some (ro (zdW lo (i * c+k)),lo.map ro):=by
  have hp:i * c+k < lo.length:=by rw[hl]; exact zp3 hi hk
  unfold zax
  simp only[zr1 (show i < 1000 by omega) hc (show k < 1000 by omega),zmf hp,Option.bind_some,Int.toNat_natCast,zC4 hp]
theorem zj8 {lo:List (Option Rat)} {n c i k:Nat} {x:Int} (hl:lo.length=n * c) (hn:n≤1000) (hc:c≤1000) (hi:i < n) (hk:k < c) :
    zaQ ⟨x,c,lo.map ro⟩ i k=some (ro (zdW lo (i * c+k)),lo.map ro):=ziC hl hn hc hi hk
def zdM (q lo:List (Option Rat)) (d:List Rat) (n i k:Nat):Nat→Option Rat
  | 0=>zdW q (i * n+k)
  | j+1=>zKe (zdM q lo d n i k j) (zvy (zvy (zdW lo (i * n+j)) (zdW lo (k * n+j))) d[j]?)
theorem zfw {q lo:List (Option Rat)} (hq:∀ o∈q,Oks o) (d:List Rat) (n i k j:Nat):Oks (zdM q lo d n i k j):=by
  cases j with
  | zero=>exact zee hq _
  | succ j=>exact zEY
section
variable {q lo:List (Option Rat)} {d:List Rat} {n k:Nat}
theorem zCV (hq:∀ o∈q,Oks o) (hlo:∀ o∈lo,Oks o) (hd:Fits d) (hll:lo.length=n * n) (hdl:k≤d.length) (hn:n≤24) (hk:k < n) (a t t1 v v1 v2 v3 x:Int) (v4 mc:List Rt) :
    L_impl_Factor_m_1 a k t t1 k 0 v v1 v2 v3 v4 mc x n (ro (zdM q lo d n k k 0)).neg (lo.map ro) (ro (zdM q lo d n k k 0)).mag (ro (zdM q lo d n k k 0)).den (d.map rq) =
      some (a,(k:Int),t,t1,v,v1,v2,v3,v4,mc,x,(n:Int),(ro (zdM q lo d n k k k)).neg,lo.map ro,(ro (zdM q lo d n k k k)).mag,(ro (zdM q lo d n k k k)).den,d.map rq,()):=by
  unfold L_impl_Factor_m_1
  exact za7 zb6 (fun j=>(a,(k:Int),t,t1,(k:Int),(j:Int),v,v1,v2,v3,v4,mc,x,(n:Int),(ro (zdM q lo d n k k j)).neg,lo.map ro,(ro (zdM q lo d n k k j)).mag,(ro (zdM q lo d n k k j)).den,d.map rq,())) k
    (a, (k:Int),t,t1,v,v1,v2,v3,v4,mc,x,(n:Int),(ro (zdM q lo d n k k k)).neg,lo.map ro,(ro (zdM q lo d n k k k)).mag,(ro (zdM q lo d n k k k)).den,d.map rq,()) (fun j hj=>by
      have hjd:j < d.length:=by omega
      have gd:(d.map rq)[j]? = some (ro d[j]?):=by rw[← zhh,zo6 hjd]
      simp only[zb6,dlt hj,cond_true,zo6 hjd,Option.bind_some,Int.toNat_natCast,gd,ziC hll (show n≤1000 by omega) (show n≤1000 by omega) hk (show j < n by omega),
        zko (zee hlo (k * n+j)) (zee hlo (k * n+j)),zko (zgc (o:=zdW lo (k * n+j)) (p:=zdW lo (k * n+j))) (hd.get j),zqV (zfw hq d n k k j) (zgc (o:=zvy (zdW lo (k * n+j)) (zdW lo (k * n+j))) (p:=d[j]?)),zaB hj (show k≤1048576 by omega)]
      rfl) (by simp[zb6])
theorem zAd (hq:∀ o∈q,Oks o) (hlo:∀ o∈lo,Oks o) (hd:Fits d) (hll:lo.length=n * n) (hdl:k≤d.length) (hn:n≤24) (hk:k < n) (a v v1 v2 v3 x:Int) (v4 mc:List Rt) :
    L_spec_l08Factor_m_1 a k 0 v v1 v2 v3 v4 mc x n (ro (zdM q lo d n k k 0)).neg (ro (zdM q lo d n k k 0)).mag (ro (zdM q lo d n k k 0)).den (lo.map ro) (d.map rq) =
      some (a,(k:Int),v,v1,v2,v3,v4,mc,x,(n:Int),(ro (zdM q lo d n k k k)).neg,(ro (zdM q lo d n k k k)).mag,(ro (zdM q lo d n k k k)).den,lo.map ro,d.map rq,()):=by
  unfold L_spec_l08Factor_m_1
  exact za7 zbk (fun j=>(a,(k:Int),(j:Int),v,v1,v2,v3,v4,mc,x,(n:Int),(ro (zdM q lo d n k k j)).neg,(ro (zdM q lo d n k k j)).mag,(ro (zdM q lo d n k k j)).den,lo.map ro,d.map rq,())) k
    (a, (k:Int),v,v1,v2,v3,v4,mc,x,(n:Int),(ro (zdM q lo d n k k k)).neg,(ro (zdM q lo d n k k k)).mag,(ro (zdM q lo d n k k k)).den,lo.map ro,d.map rq,()) (fun j hj=>by
      have hjd:j < d.length:=by omega
      have gd:(d.map rq)[j]? = some (ro d[j]?):=by rw[← zhh,zo6 hjd]
      simp only[zbk,dlt hj,cond_true,zo6 hjd,Option.bind_some,Int.toNat_natCast,gd,zj8 hll (show n≤1000 by omega) (show n≤1000 by omega) hk (show j < n by omega),
        zj7 (zee hlo (k * n+j)) (zee hlo (k * n+j)),zj7 (zgc (o:=zdW lo (k * n+j)) (p:=zdW lo (k * n+j))) (hd.get j),zqc (zfw hq d n k k j) (zgc (o:=zvy (zdW lo (k * n+j)) (zdW lo (k * n+j))) (p:=d[j]?)),zaB hj (show k≤1048576 by omega)]
      rfl) (by simp[zbk])
theorem zCU (hq:∀ o∈q,Oks o) (hlo:∀ o∈lo,Oks o) (hd:Fits d) (hll:lo.length=n * n) (hdl:k≤d.length) (hn:n≤24) (hk:k < n) {i:Nat} (hi:i < n) (a t t1 v v1 v2 v3 x:Int) (v4 mc:List Rt) (v7:Bool) (v8 v9:List Int) :
    L_impl_Factor_m_3 a k i t t1 k 0 v v1 v2 v3 v4 mc x n v7 v8 v9 (ro (zdM q lo d n i k 0)).neg (d.map rq) (lo.map ro) (ro (zdM q lo d n i k 0)).mag (ro (zdM q lo d n i k 0)).den =
      some (a,(k:Int),(i:Int),t,t1,v,v1,v2,v3,v4,mc,x,(n:Int),v7,v8,v9,(ro (zdM q lo d n i k k)).neg,d.map rq,lo.map ro,(ro (zdM q lo d n i k k)).mag,(ro (zdM q lo d n i k k)).den,()):=by
  unfold L_impl_Factor_m_3
  exact za7 zb4 (fun j=>(a,(k:Int),(i:Int),t,t1,(k:Int),(j:Int),v,v1,v2,v3,v4,mc,x,(n:Int),v7,v8,v9,(ro (zdM q lo d n i k j)).neg,d.map rq,lo.map ro,(ro (zdM q lo d n i k j)).mag,(ro (zdM q lo d n i k j)).den,())) k
    (a, (k:Int),(i:Int),t,t1,v,v1,v2,v3,v4,mc,x,(n:Int),v7,v8,v9,(ro (zdM q lo d n i k k)).neg,d.map rq,lo.map ro,(ro (zdM q lo d n i k k)).mag,(ro (zdM q lo d n i k k)).den,()) (fun j hj=>by
      have hjd:j < d.length:=by omega
      have gd:(d.map rq)[j]? = some (ro d[j]?):=by rw[← zhh,zo6 hjd]
      simp only[zb4,dlt hj,cond_true,zo6 hjd,Option.bind_some,Int.toNat_natCast,gd,ziC hll (show n≤1000 by omega) (show n≤1000 by omega) hk (show j < n by omega),ziC hll (show n≤1000 by omega) (show n≤1000 by omega) hi (show j < n by omega),
        zko (zee hlo (i * n+j)) (zee hlo (k * n+j)),zko (zgc (o:=zdW lo (i * n+j)) (p:=zdW lo (k * n+j))) (hd.get j),zqV (zfw hq d n i k j) (zgc (o:=zvy (zdW lo (i * n+j)) (zdW lo (k * n+j))) (p:=d[j]?)),zaB hj (show k≤1048576 by omega)]
      rfl) (by simp[zb4])
theorem zAc (hq:∀ o∈q,Oks o) (hlo:∀ o∈lo,Oks o) (hd:Fits d) (hll:lo.length=n * n) (hdl:k≤d.length) (hn:n≤24) (hk:k < n) {i:Nat} (hi:i < n) (a v v1 v2 v3 x:Int) (v4 mc:List Rt) (v7:Bool) (v8 v9:List Int) :
    L_spec_l08Factor_m_3 a k i 0 v v1 v2 v3 v4 mc x n v7 v8 v9 (ro (zdM q lo d n i k 0)).neg (ro (zdM q lo d n i k 0)).mag (ro (zdM q lo d n i k 0)).den (d.map rq) (lo.map ro) =
      some (a,(k:Int),(i:Int),v,v1,v2,v3,v4,mc,x,(n:Int),v7,v8,v9,(ro (zdM q lo d n i k k)).neg,(ro (zdM q lo d n i k k)).mag,(ro (zdM q lo d n i k k)).den,d.map rq,lo.map ro,()):=by
  unfold L_spec_l08Factor_m_3
  exact za7 zbi (fun j=>(a,(k:Int),(i:Int),(j:Int),v,v1,v2,v3,v4,mc,x,(n:Int),v7,v8,v9,(ro (zdM q lo d n i k j)).neg,(ro (zdM q lo d n i k j)).mag,(ro (zdM q lo d n i k j)).den,d.map rq,lo.map ro,())) k
    (a, (k:Int),(i:Int),v,v1,v2,v3,v4,mc,x,(n:Int),v7,v8,v9,(ro (zdM q lo d n i k k)).neg,(ro (zdM q lo d n i k k)).mag,(ro (zdM q lo d n i k k)).den,d.map rq,lo.map ro,()) (fun j hj=>by
      have hjd:j < d.length:=by omega
      have gd:(d.map rq)[j]? = some (ro d[j]?):=by rw[← zhh,zo6 hjd]
      simp only[zbi,dlt hj,cond_true,zo6 hjd,Option.bind_some,Int.toNat_natCast,gd,zj8 hll (show n≤1000 by omega) (show n≤1000 by omega) hk (show j < n by omega),zj8 hll (show n≤1000 by omega) (show n≤1000 by omega) hi (show j < n by omega),
        zj7 (zee hlo (i * n+j)) (zee hlo (k * n+j)),zj7 (zgc (o:=zdW lo (i * n+j)) (p:=zdW lo (k * n+j))) (hd.get j),zqc (zfw hq d n i k j) (zgc (o:=zvy (zdW lo (i * n+j)) (zdW lo (k * n+j))) (p:=d[j]?)),zaB hj (show k≤1048576 by omega)]
      rfl) (by simp[zbi])
end
/-! ### A column -/
def zti (q lo:List (Option Rat)) (d:List Rat) (n k:Nat) (x:Rat) (i:Nat):Option Rat:=divO (zdM q lo d n i k k) (some x)
theorem zE0 {q lo:List (Option Rat)} {d:List Rat} {n k:Nat} {x:Rat} {i:Nat}:Oks (zti q lo d n k x i):=zE1
def zmk (q lo:List (Option Rat)) (d:List Rat) (n k:Nat) (x:Rat):Nat→List (Option Rat)
  | 0=>lo
  | t+1=>(zmk q lo d n k x t).set ((k+1+t) * n+k) (zti q lo d n k x (k+1+t))
section
variable {q lo:List (Option Rat)} {d:List Rat} {n k:Nat} {x:Rat}
theorem zkm (t:Nat):(zmk q lo d n k x t).length=lo.length:=by
  induction t with
  | zero=>rfl
  | succ t ih=>show (List.set _ _ _).length=_; rw[List.length_set]; exact ih
theorem zoW (h:∀ o∈lo,Oks o) (t:Nat):∀ o∈zmk q lo d n k x t,Oks o:=by
  induction t with
  | zero=>exact h
  | succ t ih =>
    intro o ho
    rcases List.mem_or_eq_of_mem_set ho with ho | rfl
    · exact ih o ho
    · exact zE0
theorem zMY {a b j k n:Nat} (hj:j < n) (hk:k < n) (h:j≠k):a * n+j≠b * n+k:=by
  intro e
  have h1:=zkH (i:=a) hj
  have h2:=zkH (i:=b) hk
  rw[e] at h1
  omega
theorem zKw {a b k n:Nat} (hk:k < n) (h:a≠b):a * n+k≠b * n+k:=by
  intro e
  have h1:=zkH (i:=a) hk
  have h2:=zkH (i:=b) hk
  rw[e] at h1
  omega
theorem zyO {a j:Nat} (hj:j < n) (hk:k < n) (h:j≠k) (t:Nat):(zmk q lo d n k x t)[a * n+j]? = lo[a * n+j]? := by
  induction t with
  | zero=>rfl
  | succ t ih=>show (List.set _ _ _)[_]? = _; rw[List.getElem?_set_ne (zMY hk hj (Ne.symm h))]; exact ih
theorem zGH (hll:lo.length=n * n) (hk:k < n) {s t:Nat} (hs:s < t) (ht:k+1+s < n):(zmk q lo d n k x t)[(k+1+s) * n+k]? = some (zti q lo d n k x (k+1+s)):=by
  induction t with
  | zero=>omega
  | succ t ih =>
    show (List.set _ _ _)[_]? = _
    by_cases e:s=t
    · subst e
      rw[List.getElem?_set_self (by rw[zkm,hll]; exact zp3 ht hk)]
    · rw[List.getElem?_set_ne (zKw hk (by omega))]
      exact ih (by omega)
theorem zrq (hll:lo.length=n * n) (hk:k < n) (hs:∀ o∈lo,o.isSome=true) {t:Nat} (ht:k+1+t≤n) :
    (zmk q lo d n k x t).all Option.isSome=(List.range t).all fun s=>(zti q lo d n k x (k+1+s)).isSome:=by
  rw[Bool.eq_iff_iff,List.all_eq_true,List.all_eq_true]
  constructor
  · intro h s hst
    have hst:=List.mem_range.1 hst
    exact h _ (List.mem_of_getElem? (zGH hll hk hst (by omega)))
  · intro h
    have : ∀ r,r≤t→∀ o∈zmk q lo d n k x r,o.isSome=true:=by
      intro r
      induction r with
      | zero=>intro _; exact hs
      | succ r ih =>
        intro hr o ho
        rcases List.mem_or_eq_of_mem_set ho with ho | rfl
        · exact ih (by omega) o ho
        · exact h r (List.mem_range.2 (by omega))
    exact this t (Nat.le_refl t)
theorem zrL {a j:Nat} (hj:j < n) (hk:k < n) (h:j≠k) (t:Nat):zdW (zmk q lo d n k x t) (a * n+j)=zdW lo (a * n+j):=by
  unfold zdW; rw[zyO hj hk h]
theorem zvS (hk:k < n) (hdl:d.length=k) (y:Rat) (t i:Nat) {j:Nat} (hj:j≤k):zdM q (zmk q lo d n k x t) (d++[y]) n i k j=zdM q lo d n i k j:=by
  induction j with
  | zero=>rfl
  | succ j ih =>
    show zKe _ (zvy (zvy _ _) _)=zKe _ (zvy (zvy _ _) _)
    rw[ih (by omega),zrL (by omega) hk (by omega),zrL (by omega) hk (by omega),List.getElem?_append_left (by omega)]
theorem zFC (hq:∀ o∈q,Oks o) (hql:q.length=n * n) (hlo:∀ o∈lo,Oks o) (hd:Fits d) (hll:lo.length=n * n) (hdl:d.length=k) (hn:n≤24) (hk:k < n) (hx:Fit x) (t t1 v2 v3:Int) (v4:List Rt) :
    L_impl_Factor_m_2 n k ((k+1:Nat):Int) t t1 n n v2 v3 v4 (q.map ro) n n (rq x).neg (rq x).mag (rq x).den ((d++[x]).map rq) (lo.map ro) =
      some (cond ((List.range (n - (k+1))).all fun s=>(zti q lo d n k x (k+1+s)).isSome)
        (.inr ((n:Int),t,t1,(n:Int),(n:Int),v2,v3,v4,q.map ro,(n:Int),(n:Int),(d++[x]).map rq,(zmk q lo d n k x (n - (k+1))).map ro,()))
        (.inl ([],false,0,0,[],q.map ro,()))):=by
  unfold L_impl_Factor_m_2
  have hd2:Fits (d++[x]):=fun y hy=>by
    rcases List.mem_append.1 hy with hy | hy
    · exact hd y hy
    · rw[List.mem_singleton.1 hy]; exact hx
  have hdl2:k≤(d++[x]).length:=by simp; omega
  have e0:∀ s:Nat,((k+1+s:Nat):Int)=((k+1:Nat):Int)+(s:Int):=fun s=>by omega
  have key:=stop_loop (S:=zb5) (fun s=>((n:Int),(k:Int),((k+1+s:Nat):Int),t,t1,(n:Int),(n:Int),v2,v3,v4,q.map ro,(n:Int),(n:Int),(rq x).neg,(rq x).mag,(rq x).den,(d++[x]).map rq,(zmk q lo d n k x s).map ro,())) (n - (k+1)) (fun s=>(zti q lo d n k x (k+1+s)).isSome)
    (.inl ([],false,0,0,[],q.map ro,())) (.inr ((n:Int),t,t1,(n:Int),(n:Int),v2,v3,v4,q.map ro,(n:Int),(n:Int),(d++[x]).map rq,(zmk q lo d n k x (n - (k+1))).map ro,())) (fun s hs _=>by
      have hi:k+1+s < n:=by omega
      have hlc:(zmk q lo d n k x s).length=n * n:=by rw[zkm,hll]
      have h3:=zCU (q:=q) (d:=d++[x]) (k:=k) hq (zoW (q:=q) (d:=d) (n:=n) (k:=k) (x:=x) hlo s) hd2 hlc hdl2 hn hk hi n t t1 n n v2 v3 n v4 (q.map ro) (rq x).neg (rq x).mag (rq x).den
      have hf:=zvS (q:=q) (lo:=lo) (x:=x) hk hdl x s (k+1+s) (Nat.le_refl k)
      have h0:ro (zdM q (zmk q lo d n k x s) (d++[x]) n (k+1+s) k 0)=ro (zdW q ((k+1+s) * n+k)):=rfl
      rw[h0] at h3
      rw[hf] at h3
      have hdv:=impl_divO (o:=zdM q lo d n (k+1+s) k k) (p:=some x) (zfw hq d n (k+1+s) k k) hx.ok
      have hpos:IntKind.i64.wrap (IntKind.i64.wrap (((k+1+s:Nat):Int) * (n:Int))+(k:Int))=(((k+1+s) * n+k:Nat):Int):=zr1 (by omega) (by omega) (by omega)
      have hlt:(k+1+s) * n+k < (zmk q lo d n k x s).length:=by rw[hlc]; exact zp3 hi hk
      simp only[zb5,decide_eq_true (show ((k+1+s:Nat):Int) < (n:Int) by omega),cond_true,ziC hql (show n≤1000 by omega) (show n≤1000 by omega) hi hk,Option.bind_some,zuC (zee hq _),h3]
      show ((zfN (ro (zdM q lo d n (k+1+s) k k)) (ro (some x))).bind _)=_
      rw[hdv]
      simp only[Option.bind_some,zdZ,hpos,zmf hlt,Int.toNat_natCast]
      rw[show divO (zdM q lo d n (k+1+s) k k) (some x)=zti q lo d n k x (k+1+s) from rfl]
      cases hb:(zti q lo d n k x (k+1+s)).isSome with
      | false =>
        have:(zti q lo d n k x (k+1+s)).isNone=true:=by rw[← Option.not_isSome,hb]; rfl
        rw[this]; rfl
      | true =>
        have:(zti q lo d n k x (k+1+s)).isNone=false:=by rw[← Option.not_isSome,hb]; rfl
        rw[this]
        simp only[cond_false,cond_true,← List.map_set]
        rw[zaB hi (show n≤1048576 by omega)]
        rfl) (fun _=>by
      simp only[zb5,decide_eq_false (show ¬ ((k+1+(n - (k+1)):Nat):Int) < (n:Int) by omega),cond_false])
  exact key
theorem zEJ (hq:∀ o∈q,Oks o) (hql:q.length=n * n) (hlo:∀ o∈lo,Oks o) (hd:Fits d) (hll:lo.length=n * n) (hdl:d.length=k) (hn:n≤24) (hk:k < n) (hx:Fit x) (v2 v3:Int) (v4:List Rt) :
    L_spec_l08Factor_m_2 n k ((k+1:Nat):Int) n n v2 v3 v4 (q.map ro) n n (rq x).neg (rq x).mag (rq x).den ((d++[x]).map rq) (lo.map ro) =
      some ((n:Int),(k:Int),(n:Int),(n:Int),v2,v3,v4,q.map ro,(n:Int),(n:Int),(d++[x]).map rq,(zmk q lo d n k x (n - (k+1))).map ro,()):=by
  unfold L_spec_l08Factor_m_2
  have hd2:Fits (d++[x]):=fun y hy=>by
    rcases List.mem_append.1 hy with hy | hy
    · exact hd y hy
    · rw[List.mem_singleton.1 hy]; exact hx
  have hdl2:k≤(d++[x]).length:=by simp; omega
  exact za7 zbj (fun s=>((n:Int),(k:Int),((k+1+s:Nat):Int),(n:Int),(n:Int),v2,v3,v4,q.map ro,(n:Int),(n:Int),(rq x).neg,(rq x).mag,(rq x).den,(d++[x]).map rq,(zmk q lo d n k x s).map ro,())) (n - (k+1))
    ((n:Int),(k:Int),(n:Int),(n:Int),v2,v3,v4,q.map ro,(n:Int),(n:Int),(d++[x]).map rq,(zmk q lo d n k x (n - (k+1))).map ro,()) (fun s hs=>by
      have hi:k+1+s < n:=by omega
      have hlc:(zmk q lo d n k x s).length=n * n:=by rw[zkm,hll]
      have h3:=zAc (q:=q) (d:=d++[x]) (k:=k) hq (zoW (q:=q) (d:=d) (n:=n) (k:=k) (x:=x) hlo s) hd2 hlc hdl2 hn hk hi n n n v2 v3 n v4 (q.map ro) (rq x).neg (rq x).mag (rq x).den
      have hf:=zvS (q:=q) (lo:=lo) (x:=x) hk hdl x s (k+1+s) (Nat.le_refl k)
      have h0:ro (zdM q (zmk q lo d n k x s) (d++[x]) n (k+1+s) k 0)=ro (zdW q ((k+1+s) * n+k)):=rfl
      rw[h0] at h3
      rw[hf] at h3
      have hdv:=zAe (o:=zdM q lo d n (k+1+s) k k) (p:=some x) (zfw hq d n (k+1+s) k k) hx.ok
      have hpos:IntKind.i64.wrap (IntKind.i64.wrap (((k+1+s:Nat):Int) * (n:Int))+(k:Int))=(((k+1+s) * n+k:Nat):Int):=zr1 (by omega) (by omega) (by omega)
      have hlt:(k+1+s) * n+k < (zmk q lo d n k x s).length:=by rw[hlc]; exact zp3 hi hk
      simp only[zbj,decide_eq_true (show ((k+1+s:Nat):Int) < (n:Int) by omega),cond_true,zj8 hql (show n≤1000 by omega) (show n≤1000 by omega) hi hk,Option.bind_some,h3]
      show ((zdO (ro (zdM q lo d n (k+1+s) k k)) (ro (some x))).bind _)=_
      rw[hdv]
      simp only[Option.bind_some,hpos,zmf hlt,Int.toNat_natCast,← List.map_set]
      rw[zaB hi (show n≤1048576 by omega)]
      rfl) (by
      simp only[zbj,decide_eq_false (show ¬ ((k+1+(n - (k+1)):Nat):Int) < (n:Int) by omega),cond_false])
end
/-! ### All columns -/
def facSt (q:List (Option Rat)) (n:Nat):Nat→Option (List (Option Rat) × List Rat)
  | 0=>some (grid n n idO,[])
  | k+1=>(facSt q n k).bind fun p=>(zdM q p.1 p.2 n k k k).bind fun x =>
    if x≤0 then none else cond ((List.range (n - (k+1))).all fun s=>(zti q p.1 p.2 n k x (k+1+s)).isSome) (some (zmk q p.1 p.2 n k x (n - (k+1)),p.2++[x])) none
structure FacOk (n k:Nat) (lo:List (Option Rat)) (d:List Rat):Prop where
  len:lo.length=n * n
  oks:∀ o∈lo,Oks o
  all:∀ o∈lo,o.isSome=true
  fits:Fits d
  dlen:d.length=k
  pos:∀ y∈d,0 < y
theorem facSt_ok {q:List (Option Rat)} (hq:∀ o∈q,Oks o) {n:Nat}:∀ {k:Nat},k≤n→∀ {lo d},facSt q n k=some (lo,d)→FacOk n k lo d:=by
  intro k
  induction k with
  | zero =>
    intro _ lo d h
    injection h with h; injection h with h1 h2
    subst h1; subst h2
    refine ⟨zdK ..,fun o ho=>?_,fun o ho=>?_,fun y hy=>(by cases hy),rfl,fun y hy=>(by cases hy)⟩
    · obtain ⟨i,k,_,_,rfl⟩:=zvK ho; exact zKx i k
    · obtain ⟨i,k,_,_,rfl⟩:=zvK ho; unfold idO; split<;>rfl
  | succ k ih =>
    intro hk lo d h
    cases h0:facSt q n k with
    | none=>unfold facSt at h; rw[h0] at h; cases h
    | some p =>
      obtain ⟨lo0,d0⟩:=p
      have ok:=ih (by omega) h0
      unfold facSt at h
      rw[h0,Option.bind_some] at h
      simp only at h
      cases hx:zdM q lo0 d0 n k k k with
      | none=>rw[hx] at h; cases h
      | some x =>
        rw[hx,Option.bind_some] at h
        have fx:Fit x:=zfw hq d0 n k k k x hx
        split at h
        · cases h
        · rename_i hpos
          cases ha:(List.range (n - (k+1))).all fun s=>(zti q lo0 d0 n k x (k+1+s)).isSome with
          | false=>rw[ha] at h; cases h
          | true =>
            rw[ha] at h
            injection h with h; injection h with h1 h2
            subst h1; subst h2
            refine ⟨by rw[zkm,ok.len],zoW ok.oks _,?_,fun y hy=>?_,by simp[ok.dlen],fun y hy=>?_⟩
            · have:=zrq (q:=q) (d:=d0) (x:=x) ok.len (show k < n by omega) ok.all (t:=n - (k+1)) (by omega)
              rw[ha] at this
              exact List.all_eq_true.1 this
            · rcases List.mem_append.1 hy with hy | hy
              · exact ok.fits y hy
              · rw[List.mem_singleton.1 hy]; exact fx
            · rcases List.mem_append.1 hy with hy | hy
              · exact ok.pos y hy
              · rw[List.mem_singleton.1 hy]; exact Rat.not_le.1 hpos
theorem zyJ {q:List (Option Rat)} {n k:Nat} (h:(facSt q n (k+1)).isSome=true):(facSt q n k).isSome=true:=by
  unfold facSt at h
  cases e:facSt q n k with
  | none=>rw[e] at h; cases h
  | some p=>rfl
theorem zhU {q:List (Option Rat)} {n:Nat}:∀ k,((List.range k).all fun j=>(facSt q n (j+1)).isSome)=(facSt q n k).isSome
  | 0=>rfl
  | k+1=>by
    rw[List.range_succ,List.all_append,zhU k]
    simp only[List.all_cons,List.all_nil,Bool.and_true]
    cases h:(facSt q n (k+1)).isSome with
    | false=>simp
    | true=>rw[zyJ h]; rfl
def zj2 (q:List (Option Rat)) (n k:Nat):List (Option Rat) × List Rat:=(facSt q n k).getD ([],[])
theorem zkq {q:List (Option Rat)} {n k:Nat} (h:(facSt q n k).isSome=true):facSt q n k=some ((zj2 q n k).1,(zj2 q n k).2):=by
  unfold zj2
  cases e:facSt q n k with
  | none=>rw[e] at h; cases h
  | some p=>rfl
theorem zm8 {q:List (Option Rat)} {n k:Nat} (h:(facSt q n k).isSome=true) :
    facSt q n (k+1)=(zdM q (zj2 q n k).1 (zj2 q n k).2 n k k k).bind fun x =>
      if x≤0 then none else cond ((List.range (n - (k+1))).all fun s=>(zti q (zj2 q n k).1 (zj2 q n k).2 n k x (k+1+s)).isSome) (some (zmk q (zj2 q n k).1 (zj2 q n k).2 n k x (n - (k+1)),(zj2 q n k).2++[x])) none:=by
  show (facSt q n k).bind _=_
  rw[zkq h]; rfl
theorem zvu {q:Rat}:q.num≤0↔q≤0:=by
  rw[Rat.le_iff]; simp
theorem zKn {q:Rat} (h:q≤0):∃ s:Int,zdB (rq q)=some s∧decide (s≤0)=true:=by
  refine ⟨_,zoe q,?_⟩
  have h1:q.num≤0:=zvu.2 h
  by_cases h2:q.num < 0
  · rw[decide_eq_true h2]; rfl
  · rw[decide_eq_false h2,decide_eq_false (show ¬ q.num≠0 by omega)]; rfl
theorem zKo {q:Rat} (h:¬ q≤0):∃ s:Int,zdB (rq q)=some s∧decide (s≤0)=false:=by
  refine ⟨_,zoe q,?_⟩
  have h1:¬ q.num≤0:=fun h'=>h (zvu.1 h')
  rw[decide_eq_false (show ¬ q.num < 0 by omega),decide_eq_true (show q.num≠0 by omega)]; rfl
theorem zmT {n:Nat} (hn:n≤24):zf6 n=some ⟨n,n,(grid n n idO).map ro⟩:=by
  have:=zCT hn
  unfold zf6
  rw[show zcj=za4 from rfl,this]; rfl
theorem zs3 {n:Nat} (hn:n≤20000):zdw (n:Int)=some ((List.range n).map fun _=>ro (some 0)):=zxP hn
theorem znO {n:Nat} (hn:n≤24):zbn n=some ⟨n,n,(grid n n idO).map ro⟩:=by
  have hp:=zqo hn hn
  unfold zbn zeN 
  have e1:((n:Int) * (n:Int))=((n * n:Nat):Int):=by simp
  have hz:ze5 (n:Int) n=some ⟨n,n,(List.range (n * n)).map fun _=>ro (some 0)⟩:=by
    unfold ze5
    rw[e1,wrap_i64 (by omega) (by omega),zs3 (by omega),Option.bind_some]
  rw[hz,Option.bind_some]
  let zs:Nat→List Rt:=fun i=>grid n n fun a b=>if a=b∧a < i then ro (some 1) else ro (some 0)
  have key:=za7 za1 (fun i=>((n:Int),(i:Int),0,0,([]:List Rt),(n:Int),(n:Int),zs i,())) n (0,0,[],(n:Int),(n:Int),zs n,()) (fun i hi=>by
    have hj:i * n+i < (zs i).length:=by simp only[zs]; rw[zdK]; exact zp3 hi hi
    have hg:(zs i)[i * n+i]? = some (zs i)[i * n+i]:=List.getElem?_eq_getElem hj
    simp only[za1,dlt hi,cond_true,zEI,Option.bind_some,zr1 (show i < 1000 by omega) (show n≤1000 by omega) (show i < 1000 by omega),zaG hj,Int.toNat_natCast,zaB hi (show n≤1048576 by omega)]
    congr 10
    simp only[zs]
    rw[zFE _ _ hi hi]
    refine ziD fun a b ha hb=>?_
    by_cases h:a=i∧b=i
    · rw[if_pos h,if_pos ⟨h.1.trans h.2.symm,by omega⟩]
    · rw[if_neg h]
      by_cases h2:a=b∧a < i
      · rw[if_pos h2,if_pos ⟨h2.1,by omega⟩]
      · rw[if_neg h2,if_neg (by rintro ⟨e1,e2⟩; exact h2 ⟨e1,by omega⟩)]) (by simp[za1])
  have h0:zs 0=(List.range (n * n)).map fun _=>ro (some 0):=by
    simp only[zs]
    rw[← zFF n n fun _=>ro (some 0)]
    exact ziD fun a b _ _=>by simp
  have hn':zs n=(grid n n idO).map ro:=by
    simp only[zs]
    rw[zo9]
    refine ziD fun a b ha hb=>?_
    unfold idO
    by_cases h:a=b
    · rw[if_pos ⟨h,ha⟩,if_pos h]
    · rw[if_neg (fun e=>h e.1),if_neg h]
  rw[h0] at key
  refine (congrArg (fun x=>Option.bind x _) key).trans ?_
  show some (⟨(n:Int),(n:Int),zs n⟩:Mx)=_
  rw[hn']
theorem impl_factor {q:List (Option Rat)} {n:Nat} (hq:∀ o∈q,Oks o) (hql:q.length=n * n) (hn:n≤24) :
    L_impl_Factor_m_0 n n 0 n n 0 0 [] (q.map ro) n n ((grid n n idO).map ro) [] =
      some (cond (facSt q n n).isSome (.inr ((0:Int),(0:Int),[],q.map ro,(n:Int),(n:Int),(zj2 q n n).1.map ro,(zj2 q n n).2.map rq,())) (.inl ([],false,0,0,[],q.map ro,()))):=by
  unfold L_impl_Factor_m_0
  rw[← zhU n]
  exact stop_loop (S:=zb7) (fun k=>((n:Int),(n:Int),(k:Int),(n:Int),(n:Int),(0:Int),(0:Int),([]:List Rt),q.map ro,(n:Int),(n:Int),(zj2 q n k).1.map ro,(zj2 q n k).2.map rq,())) n (fun k=>(facSt q n (k+1)).isSome)
    (.inl ([],false,0,0,[],q.map ro,())) (.inr ((0:Int),(0:Int),[],q.map ro,(n:Int),(n:Int),(zj2 q n n).1.map ro,(zj2 q n n).2.map rq,())) (fun k hk hj=>by
      have hs:(facSt q n k).isSome=true:=by
        rw[← zhU,List.all_eq_true]; intro j h; exact hj j (List.mem_range.1 h)
      have hr:=zm8 hs
      have ok:=facSt_ok hq (Nat.le_of_lt hk) (zkq hs)
      have hP:zj2 q n (k+1)=(facSt q n (k+1)).getD ([],[]):=rfl
      generalize (zj2 q n k).1=lo at *
      generalize (zj2 q n k).2=d at *
      have h1:=zCV (q:=q) (d:=d) hq ok.oks ok.fits ok.len (by rw[ok.dlen]; omega) hn hk n n k n n 0 0 n [] (q.map ro)
      rw[show zdM q lo d n k k 0=zdW q (k * n+k) from rfl] at h1
      simp only[zb7,dlt hk,cond_true,ziC hql (show n≤1000 by omega) (show n≤1000 by omega) hk hk,Option.bind_some,zuC (zee hq _),h1]
      show ((zaW (ro (zdM q lo d n k k k))).bind _)=_
      rw[zdZ,Option.bind_some]
      cases hx:zdM q lo d n k k k with
      | none =>
        rw[hx] at hr
        rw[hr]; rfl
      | some x =>
        rw[hx,Option.bind_some] at hr
        have fx:Fit x:=zfw hq d n k k k x hx
        show ((zdB (rq x)).bind _)=_
        by_cases hp:x≤0
        · obtain ⟨s,e1,e2⟩:=zKn hp
          rw[if_pos hp] at hr
          rw[e1,Option.bind_some,e2,hr]; rfl
        · obtain ⟨s,e1,e2⟩:=zKo hp
          rw[if_neg hp] at hr
          have hc:=zFC (q:=q) (d:=d) hq hql ok.oks ok.fits ok.len ok.dlen hn hk fx n k 0 0 []
          have hg:zal (Nat.ble ((d.map rq).length+1) zar)=some ():=by
            rw[List.length_map,ok.dlen]; exact zER (by omega)
          rw[e1,Option.bind_some,e2,cond_false]
          simp only[hg,Option.bind_some,zaB hk (show n≤1048576 by omega)]
          rw[List.map_append] at hc
          show ((L_impl_Factor_m_2 n k ((k+1:Nat):Int) n k n n 0 0 [] (q.map ro) n n (rq x).neg (rq x).mag (rq x).den (d.map rq++[x].map rq) (lo.map ro)).bind _)=_
          rw[hc]
          cases hb:(List.range (n - (k+1))).all fun s=>(zti q lo d n k x (k+1+s)).isSome with
          | false =>
            rw[hb,cond_false] at hr
            rw[hr]; rfl
          | true =>
            rw[hb,cond_true] at hr
            rw[hP,hr]
            simp only[cond_true,Option.bind_some,Option.isSome_some,Option.getD_some,List.map_append]
            rw[zaB hk (show n≤1048576 by omega)]) (fun _=>by
      simp[zb7])
theorem spec_factor {q:List (Option Rat)} {n:Nat} (hq:∀ o∈q,Oks o) (hql:q.length=n * n) (hn:n≤24) :
    L_spec_l08Factor_m_0 n 0 n n 0 0 [] (q.map ro) n n ((grid n n idO).map ro) [] =
      some (cond (facSt q n n).isSome (.inr ((0:Int),(0:Int),[],q.map ro,(n:Int),(n:Int),(zj2 q n n).1.map ro,(zj2 q n n).2.map rq,())) (.inl ([],false,0,0,[],q.map ro,()))):=by
  unfold L_spec_l08Factor_m_0
  rw[← zhU n]
  exact stop_loop (S:=zbl) (fun k=>((n:Int),(k:Int),(n:Int),(n:Int),(0:Int),(0:Int),([]:List Rt),q.map ro,(n:Int),(n:Int),(zj2 q n k).1.map ro,(zj2 q n k).2.map rq,())) n (fun k=>(facSt q n (k+1)).isSome)
    (.inl ([],false,0,0,[],q.map ro,())) (.inr ((0:Int),(0:Int),[],q.map ro,(n:Int),(n:Int),(zj2 q n n).1.map ro,(zj2 q n n).2.map rq,())) (fun k hk hj=>by
      have hs:(facSt q n k).isSome=true:=by
        rw[← zhU,List.all_eq_true]; intro j h; exact hj j (List.mem_range.1 h)
      have hr:=zm8 hs
      have ok:=facSt_ok hq (Nat.le_of_lt hk) (zkq hs)
      have hP:zj2 q n (k+1)=(facSt q n (k+1)).getD ([],[]):=rfl
      generalize (zj2 q n k).1=lo at *
      generalize (zj2 q n k).2=d at *
      have h1:=zAd (q:=q) (d:=d) hq ok.oks ok.fits ok.len (by rw[ok.dlen]; omega) hn hk n n n 0 0 n [] (q.map ro)
      rw[show zdM q lo d n k k 0=zdW q (k * n+k) from rfl] at h1
      simp only[zbl,dlt hk,cond_true,zj8 hql (show n≤1000 by omega) (show n≤1000 by omega) hk hk,Option.bind_some,h1]
      show ((zc9 (ro (zdM q lo d n k k k))).bind _)=_
      rw[zqf,Option.bind_some]
      cases hx:zdM q lo d n k k k with
      | none =>
        rw[hx] at hr
        rw[hr]; rfl
      | some x =>
        rw[hx,Option.bind_some] at hr
        have fx:Fit x:=zfw hq d n k k k x hx
        show (cond (rq x).neg _ ((zes (rq x)).bind _))=_
        rw[zM2,Option.bind_some]
        show (cond (decide (x.num < 0)) _ _)=_
        by_cases hp:x≤0
        · rw [if_pos hp] at hr
          rw[hr]
          by_cases h0:x=0
          · subst h0; rfl
          · have h1:x.num≤0:=zvu.2 hp
            have h2:x.num≠0:=fun e=>h0 (Rat.num_eq_zero.1 e)
            rw[decide_eq_true (show x.num < 0 by omega)]; rfl
        · have h1:¬ x.num≤0:=fun h'=>hp (zvu.1 h')
          have h0:x≠0:=fun e=>hp (by rw[e]; exact Rat.le_refl)
          rw[if_neg hp] at hr
          have hc:=zEJ (q:=q) (d:=d) hq hql ok.oks ok.fits ok.len ok.dlen hn hk fx 0 0 []
          have hg:zal (Nat.ble ((d.map rq).length+1) zar)=some ():=by
            rw[List.length_map,ok.dlen]; exact zER (by omega)
          have hcp:zbz (rq x)=some (rq x):=zvX (o:=some x) fx.ok
          rw[decide_eq_false (show ¬ x.num < 0 by omega),decide_eq_false h0,cond_false,cond_false]
          show ((zbz (rq x)).bind _)=_
          rw[hcp]
          simp only[hg,Option.bind_some,zaB hk (show n≤1048576 by omega)]
          rw[List.map_append] at hc
          show ((L_spec_l08Factor_m_2 n k ((k+1:Nat):Int) n n 0 0 [] (q.map ro) n n (rq x).neg (rq x).mag (rq x).den (d.map rq++[x].map rq) (lo.map ro)).bind _)=_
          rw[hc,Option.bind_some]
          have hfine:=zAb (l:=zmk q lo d n k x (n - (k+1))) (by rw[zkm,ok.len]; have:=zqo hn hn; omega)
          rw[zrq (q:=q) (d:=d) (x:=x) ok.len hk ok.all (by omega)] at hfine
          simp only[hfine,Option.bind_some]
          cases hb:(List.range (n - (k+1))).all fun s=>(zti q lo d n k x (k+1+s)).isSome with
          | false =>
            rw[hb,cond_false] at hr
            rw[hr]; rfl
          | true =>
            rw[hb,cond_true] at hr
            rw[hP,hr]
            simp only[cond_true,cond_false,Bool.not_true,Option.isSome_some,Option.getD_some,List.map_append]
            rw[zaB hk (show n≤1048576 by omega)]) (fun _=>by
      simp[zbl])
end Go.Di
namespace Go.Di
def zQd (r c:Nat) (g:Nat→Nat→Option Rat):Prop:=∀ i k,i < r→k < c→Oks (g i k)∧(g i k).isSome=true
def swp (g:Nat→Nat→Option Rat) (p u:Nat):Nat→Nat→Option Rat:=fun a b=>if a=p then g u b else if a=u then g p b else g a b
def dvd (g:Nat→Nat→Option Rat) (u k:Nat):Nat→Nat→Option Rat:=fun a b=>if a=u then divO (g u b) (g u k) else g a b
def clr (g:Nat→Nat→Option Rat) (u k:Nat):Nat→Nat→Option Rat:=fun a b=>if a=u then g u b else if g a k=some 0 then g a b else zKe (g a b) (zvy (g a k) (g u b))
def zQk (g:Nat→Nat→Option Rat) (k:Nat):Nat→Nat→Nat
  | 0,i=>i
  | s+1,i=>if g i k=some 0 then zQk g k s (i+1) else i
section
variable {r c:Nat} {g:Nat→Nat→Option Rat} {k u:Nat}
end
/-! ### Rounds -/
structure ES where
  g:Nat→Nat→Option Rat
  pv:List Int
  fs:List (Option Rat)
def zQq (r c:Nat) (g:Nat→Nat→Option Rat):Bool:=(grid r c g).all Option.isSome
def zPb (r c k:Nat) (s:ES):Option ES :=
  if s.pv.length < r then
    let p:=zQk s.g k (r - s.pv.length) s.pv.length
    if p=r then some s else
      let g1:=swp s.g p s.pv.length
      let g2:=dvd g1 s.pv.length k
      let g3:=clr g2 s.pv.length k
      cond (zQq r c g2 && zQq r c g3) (some ⟨g3,s.pv++[(k:Int)],(s.fs++if p≠s.pv.length then [some (-1)] else [])++[g1 s.pv.length k]⟩) none
  else some s
def elim (r c:Nat) (g:Nat→Nat→Option Rat):Nat→Option ES
  | 0=>some ⟨g,[],[]⟩
  | k+1=>(elim r c g k).bind (zPb r c k)
structure EInv (r c k:Nat) (s:ES):Prop where
  good:zQd r c s.g
  used:s.pv.length≤r
  few:s.pv.length≤k
  zero:∀ i j,s.pv.length≤i→i < r→j < k→j < c→s.g i j=some 0
  fsok:∀ o∈s.fs,Oks o
  fsall:∀ o∈s.fs,o.isSome=true
  fslen:s.fs.length≤2 * k
section
variable {r c:Nat} {g:Nat→Nat→Option Rat} {k u p:Nat}
end
end Go.Di
namespace Go.Di
section
variable {r c:Nat} {g:Nat→Nat→Option Rat} {k:Nat}
end
end Go.Di
namespace Go.Di
section
variable {r c:Nat} {g:Nat→Nat→Option Rat} {k u:Nat}
end
end Go.Di
namespace Go.Di
theorem zO9 {x:Option Int} {left:Int} {n:Nat} {k:Int→Option Bool} (h:SzR x left n) (hk:∀ r:Int,0≤r→r+n=left→k r=some true) :
    (x.bind fun r=>cond (decide (r < 0)) (some true) (k r))=some true:=by
  rcases h with rfl | ⟨r,h0,h1,rfl⟩
  · rfl
  · have:decide (r < 0)=false:=by simpa using h0
    simp only[Option.bind_some,this,cond_false,hk r h0 h1]
end Go.Di
namespace Go.Di
end Go.Di
namespace Go.Di
section
variable {r c:Nat} {g:Nat→Nat→Option Rat} {k:Nat}
end
end Go.Di
namespace Go.Di
end Go.Di
namespace Go.Di
/-! ### Determinants -/
end Go.Di
namespace Go.Di
/-! ### Loops that run alike,loops that keep something -/
theorem zmR {σ τ ρ θ:Type} {S:σ→Option (σ ⊕ ρ)} {T:τ→Option (τ ⊕ θ)} (E:τ→σ) (F:θ→ρ) (h:∀ t,S (E t)=(T t).map (Sum.map E F)):∀ (n:Nat) (t:τ),zhP S n (E t)=(zhP T n t).map F
  | 0,_=>rfl
  | n + 1,t=>by
    unfold zhP
    rw[h t]
    cases ht:T t with
    | none=>rfl
    | some r =>
      cases r with
      | inl t'=>exact zmR E F h n t'
      | inr y=>rfl
theorem whileO_map {σ τ ρ θ:Type} {S:σ→Option (σ ⊕ ρ)} {T:τ→Option (τ ⊕ θ)} (E:τ→σ) (F:θ→ρ) (h:∀ t,S (E t)=(T t).map (Sum.map E F)) (t:τ):whileO S (E t)=(whileO T t).map F:=by
  cases ht:whileO T t with
  | some y =>
    obtain ⟨n,hn⟩:=zdI.1 ht
    exact zdI.2 ⟨n,by rw[zmR E F h,hn]; rfl⟩
  | none =>
    cases hs:whileO S (E t) with
    | none=>rfl
    | some r =>
      obtain ⟨n,hn⟩:=zdI.1 hs
      rw[zmR E F h] at hn
      cases hy:zhP T n t with
      | none=>rw[hy] at hn; cases hn
      | some y=>rw[zdI.2 ⟨n,hy⟩] at ht; cases ht
theorem zsW {τ θ:Type} {T:τ→Option (τ ⊕ θ)} (I:τ→Prop) (Q:θ→Prop) (h1:∀ t t',I t→T t=some (.inl t')→I t') (h2:∀ t y,I t→T t=some (.inr y)→Q y) {t:τ} {y:θ} (hi:I t) (h:whileO T t=some y):Q y:=by
  obtain ⟨n,hn⟩:=zdI.1 h
  clear h
  induction n generalizing t with
  | zero=>cases hn
  | succ n ih =>
    unfold zhP at hn
    cases ht:T t with
    | none=>rw[ht] at hn; cases hn
    | some r =>
      rw[ht] at hn
      cases r with
      | inl t'=>exact ih (h1 t t' hi ht) hn
      | inr z=>cases hn; exact h2 t y hi ht
/-! ### Taking the numbers away -/
abbrev ers (l:List TRt):List Rt:=l.map TRt.er
theorem zP9 (r:Rt) (a b:Nat):TRt.er ⟨r.neg,⟨a,r.mag⟩,⟨b,r.den⟩⟩=r:=rfl
theorem zdY {α β γ:Type} (o:Option α) (f:α→β) (g:β→Option γ):(o.map f).bind g=o.bind fun a=>g (f a):=by cases o<;>rfl
theorem zem {α β γ:Type} (o:Option α) (g:α→Option β) (f:β→γ):(o.bind g).map f=o.bind fun a=>(g a).map f:=by cases o<;>rfl
theorem zfa {α β:Type} (b:Bool) (x y:Option α) (f:α→β):(cond b x y).map f=cond b (x.map f) (y.map f):=by cases b<;>rfl
theorem zme {α β:Type} (f:α→β) (l:List α) (i:Int):idx (l.map f) i=(idx l i).map f:=by
  unfold idx; split
  · rw[List.getElem?_map]
  · rfl
theorem zzX:∀ (n:Nat) (l:List Rt),(zp7 n l).map TRt.er=l
  | _,[]=>rfl
  | n,r :: l=>by simp only[zp7,List.map_cons,zzX (n+2) l]; rfl
theorem zE6 {α β:Type} (f:α→β) (l:List α) (i:Nat) (a:α):(l.set i a).map f=(l.map f).set i (f a):=List.map_set
theorem zuR {α β:Type} (f:α→β) (l m:List α):(l++m).map f=l.map f++m.map f:=List.map_append
theorem zNW (r c i k:Int) (l:List TRt):zax ⟨r,c,ers l⟩ i k=(zaY ⟨r,c,l⟩ i k).map fun e=>(TRt.er e,ers l):=by
  simp only[zax,zaY,zme,zdY,zem,Option.map_some]
  generalize IntKind.i64.wrap (IntKind.i64.wrap (i * c)+k)=j
  unfold idx
  split
  · rw[List.getElem?_map]
    cases l[j.toNat]? <;> rfl
  · rfl
/-! ### The loops of the reduction -/
end Go.Di
namespace Go.Di
theorem zl0 {α β:Type} {o:Option α} {f g:α→Option β} (h:∀ a,f a=g a):o.bind f=o.bind g:=by rw[funext h]
theorem zDF {α:Type} {b:Bool} {x x' y y':α} (h1:b=true→x=x') (h2:b=false→y=y'):cond b x y=cond b x' y':=by cases b with
  | true=>exact h1 rfl
  | false=>exact h2 rfl
/-! ### The numbers stay distinct -/
def Idn (n:Nat) (l:List TRt):Prop:=(zhj l).Nodup∧∀ i∈zhj l,i < n
theorem Idn.mono {n m:Nat} {l:List TRt} (h:Idn n l) (hm:n≤m):Idn m l:=⟨h.1,fun i hi=>Nat.lt_of_lt_of_le (h.2 i hi) hm⟩
theorem zhi:∀ l m:List TRt,zhj (l++m)=zhj l++zhj m
  | [],_=>rfl
  | r :: l,m=>by simp only[List.cons_append,zhj,zhi l m]
theorem zo7:∀ (l:List TRt) (i:Nat) (e:TRt) (x:Nat),x∈zhj (l.set i e)→x∈zhj l∨x=e.mag.id∨x=e.den.id
  | [],_,_,x,h => .inl h
  | r :: l,0,e,x,h=>by
    simp only[List.set_cons_zero,zhj,List.mem_cons] at h ⊢
    rcases h with h | h | h
    · exact .inr (.inl h)
    · exact .inr (.inr h)
    · exact .inl (.inr (.inr h))
  | r :: l,i+1,e,x,h=>by
    simp only[List.set_cons_succ,zhj,List.mem_cons] at h ⊢
    rcases h with h | h | h
    · exact .inl (.inl h)
    · exact .inl (.inr (.inl h))
    · rcases zo7 l i e x h with h | h
      · exact .inl (.inr (.inr h))
      · exact .inr h
theorem idn_set {n m:Nat} {l:List TRt} {e:TRt} (h:Idn n l) (i:Nat) (ha:n≤e.mag.id) (hb:n≤e.den.id) (hab:e.mag.id≠e.den.id) (ham:e.mag.id < m) (hbm:e.den.id < m) (hnm:n≤m):Idn m (l.set i e):=by
  refine ⟨?_,fun x hx=>?_⟩
  · obtain ⟨h1,h2⟩:=h
    induction l generalizing i with
    | nil=>exact List.nodup_nil
    | cons r l ih =>
      simp only[zhj,List.nodup_cons,List.mem_cons,not_or] at h1 h2
      cases i with
      | zero =>
        simp only[List.set_cons_zero,zhj,List.nodup_cons,List.mem_cons,not_or]
        have hl:∀ x∈zhj l,x < n:=fun x hx=>h2 x (.inr (.inr hx))
        exact ⟨⟨hab,fun hx=>by have:=hl _ hx; omega⟩,fun hx=>by have:=hl _ hx; omega,h1.2.2⟩
      | succ i =>
        simp only[List.set_cons_succ,zhj,List.nodup_cons,List.mem_cons,not_or]
        have k:=ih i h1.2.2 (fun x hx=>h2 x (.inr (.inr hx)))
        have out:∀ x,x < n→x ∉ zhj l→x ∉ zhj (l.set i e):=fun x hx hn hh=>by
          rcases zo7 l i e x hh with h | h | h
          · exact hn h
          · omega
          · omega
        exact ⟨⟨h1.1.1,out _ (h2 _ (.inl rfl)) h1.1.2⟩,out _ (h2 _ (.inr (.inl rfl))) h1.2.1,k⟩
  · rcases zo7 l i e x hx with h' | h' | h'
    · exact Nat.lt_of_lt_of_le (h.2 x h') hnm
    · omega
    · omega
theorem zo8:∀ (n:Nat) (l:List Rt),(zhj (zp7 n l)).Nodup∧∀ i∈zhj (zp7 n l),n≤i∧i < n+2 * l.length
  | _,[]=>⟨List.nodup_nil,fun i h=>by cases h⟩
  | n, r :: l=>by
    obtain ⟨h1,h2⟩:=zo8 (n+2) l
    simp only[zp7,zhj,List.nodup_cons,List.mem_cons,not_or,List.length_cons]
    refine ⟨⟨⟨by omega,fun h=>?_⟩,fun h=>?_,h1⟩,fun i hi=>?_⟩
    · have:=h2 _ h; omega
    · have:=h2 _ h; omega
    · rcases hi with rfl | rfl | hi
      · omega
      · omega
      · have:=h2 _ hi; omega
theorem zn1:∀ {l:List Nat},zdX l=true↔l.Nodup
  | []=>by simp[zdX]
  | a :: l=>by
    unfold zdX
    rw[List.nodup_cons]
    split
    · rename_i h
      constructor
      · intro e; cases e
      · intro e; exact absurd (zaA.1 h) e.1
    · rename_i h
      rw[zn1]
      constructor
      · intro e; exact ⟨(fun hm=>by rw[zaA.2 hm] at h; cases h),e⟩
      · intro e; exact e.2
end Go.Di
namespace Go.Di
theorem zd0 {α β:Type} {o:Option α} {f:α→Option β} {b:β} (h:o.bind f=some b):∃ a,o=some a∧f a=some b:=by
  cases o with
  | none=>cases h
  | some a=>exact ⟨a,rfl,h⟩
theorem zpn {α:Type} {b:Bool} {x y:Option α} {z:α} (h:cond b x y=some z):(b=true∧x=some z)∨(b=false∧y=some z):=by
  cases b with
  | true=>exact .inl ⟨rfl,h⟩
  | false=>exact .inr ⟨rfl,h⟩
theorem whileO_keeps {τ θ:Type} {T:τ→Option (τ ⊕ θ)} (I:τ→Prop) (Q:θ→Prop) (h:∀ t r,I t→T t=some r→Sum.elim I Q r) {t:τ} {y:θ} (hi:I t) (hy:whileO T t=some y):Q y :=
  zsW I Q (fun t t' hi ht=>h t (.inl t') hi ht) (fun t y hi ht=>h t (.inr y) hi ht) hi hy
end Go.Di
namespace Go.Di
theorem sym_cases {m:Mx} (hm:znB Rt.fit m.cells):(zaH m=some false∧zaT m=some false) ∨
    ∃ n q,MxQ m n n q∧zaH m=some true∧zaT m=some true:=by
  obtain ⟨b,hs,hi⟩:=znE hm
  cases b with
  | false=>exact .inl ⟨hs,hi⟩
  | true =>
    right
    cases hb:mxB m with
    | false =>
      unfold zaH at hs
      rw[zj6 hm,hb] at hs; cases hs
    | true =>
      obtain ⟨r,c,q,hq⟩:=zvx hb
      have hrc:r=c:=by
        cases e:(m.rows==m.cols) with
        | false =>
          unfold zaH at hs
          rw[zj6 hm,hb] at hs
          simp only[Option.bind_some,cond_true,e,cond_false] at hs
          cases hs
        | true =>
          rw[hq.eq,beq_iff_eq] at e
          simp only at e; omega
      subst hrc
      exact ⟨r,q,hq,hs,hi⟩
end Go.Di
namespace Go.Di
theorem whileO_mapG {σ τ ρ θ ω:Type} {S:σ→Option (σ ⊕ ρ)} {T:τ→Option (τ ⊕ θ)} (E:τ→σ) (G:ρ→ω) (F:θ→ω) (h:∀ t,(S (E t)).map (Sum.map id G)=(T t).map (Sum.map E F)) (t:τ):(whileO S (E t)).map G=(whileO T t).map F:=by
  have h1:=whileO_map (S:=fun s=>(S s).map (Sum.map id G)) (T:=S) id G (fun _=>rfl) (E t)
  have h2:=whileO_map (S:=fun s=>(S s).map (Sum.map id G)) (T:=T) E F h t
  rw[← h2]; exact h1.symm
theorem zHE {α β γ δ ω:Type} {o:Option α} {p:Option β} {G:α→γ} {F:β→γ} {f:α→Option δ} {g:β→Option ω} {H:δ→ω} {k:γ→Option ω} (h:o.map G=p.map F) (hf:∀ a,(f a).map H=k (G a)) (hg:∀ b,g b=k (F b)):(o.bind f).map H=p.bind g:=by
  have e1:(o.bind f).map H=(o.map G).bind k:=by cases o with
    | none=>rfl
    | some a=>exact hf a
  have e2:p.bind g=(p.map F).bind k:=by cases p with
    | none=>rfl
    | some b=>exact hg b
  rw[e1,e2,h]
theorem zp2 (r c i k:Int) (l:List Rt):zax ⟨r,c,l⟩ i k=(zbp ⟨r,c,l⟩ i k).map fun e=>(e,l):=by
  simp only[zax,zbp]
  generalize IntKind.i64.wrap (IntKind.i64.wrap (i * c)+k)=j
  unfold idx
  split
  · cases l[j.toNat]? <;> rfl
  · rfl
theorem zEh (r c i k:Int) (l:List Rt):zaQ ⟨r,c,l⟩ i k=(zec ⟨r,c,l⟩ i k).map fun e=>(e,l):=zp2 r c i k l
/-! ### The reference model -/
abbrev G3s:Int × Int × Int × Int × Int × (List Rt) × Int × Int × (List Rt) × Int × Int × Bool × (List Int) × (List Int) × Bool × (List Int) × (List Int) × (List Rt) × (List Rt) × Unit→Int × Int × Int × Int × Int × Int × Int × (List Rt) × (List Rt) × Int × Int × Bool × (List Int) × (List Int) × Bool × (List Int) × (List Int) × (List Rt) × (List Rt) × Unit :=
  fun (n,k,i,v,v1,v2,v3,v4,v5,v6,v7,v8,v9,v10,v11,v12,v13,d,xs,_)=>(n,k,i,v,v1,v3,v4,v5,v2,v6,v7,v8,v9,v10,v11,v12,v13,d,xs,())
theorem zNF (n k i j v v1:Int) (v2:List Rt) (v3 v4:Int) (v5:List Rt) (v6 v7:Int) (v8:Bool) (v9 v10:List Int) (v11:Bool) (v12 v13:List Int) (d xs:List Rt) :
    L_spec_l08Factor_m_3 n k i j v v1 v3 v4 v5 v2 v6 v7 v8 v9 v10 v11 v12 v13 d xs=(zgn n k i j v v1 v2 v3 v4 v5 v6 v7 v8 v9 v10 v11 v12 v13 d xs).map G3s :=
  whileO_map (S:=zbi) (T:=zcp) (fun (n,k,i,j,v,v1,v2,v3,v4,v5,v6,v7,v8,v9,v10,v11,v12,v13,d,xs,_)=>(n,k,i,j,v,v1,v3,v4,v5,v2,v6,v7,v8,v9,v10,v11,v12,v13,d,xs,())) G3s
    (fun (n,k,i,j,v,v1,v2,v3,v4,v5,v6,v7,v8,v9,v10,v11,v12,v13,d,xs,_)=>by
      simp only[zbi,zcp,zfa,zem,Option.map_some,Sum.map_inl,Sum.map_inr]) (n,k,i,j,v,v1,v2,v3,v4,v5,v6,v7,v8,v9,v10,v11,v12,v13,d,xs,())
abbrev G2s:Int × Int × Int × Int × (List Rt) × Int × Int × (List Rt) × Int × Int × (List Rt) × (List Rt) × Unit→Int × Int × Int × Int × Int × Int × (List Rt) × (List Rt) × Int × Int × (List Rt) × (List Rt) × Unit :=
  fun (n,k,v,v1,v2,v3,v4,v5,v6,v7,d,xs,_)=>(n,k,v,v1,v3,v4,v5,v2,v6,v7,d,xs,())
theorem zNG (n k i v v1:Int) (v2:List Rt) (v3 v4:Int) (v5:List Rt) (v6 v7:Int) (v8:Bool) (v9 v10:List Int) (d xs:List Rt) :
    L_spec_l08Factor_m_2 n k i v v1 v3 v4 v5 v2 v6 v7 v8 v9 v10 d xs=(zgo n k i v v1 v2 v3 v4 v5 v6 v7 v8 v9 v10 d xs).map G2s :=
  whileO_map (S:=zbj) (T:=zcq) (fun (n,k,i,v,v1,v2,v3,v4,v5,v6,v7,v8,v9,v10,d,xs,_)=>(n,k,i,v,v1,v3,v4,v5,v2,v6,v7,v8,v9,v10,d,xs,())) G2s
    (fun (n,k,i,v,v1,v2,v3,v4,v5,v6,v7,v8,v9,v10,d,xs,_)=>by
      simp only[zbj,zcq,zfa,zem,zdY,zEh,zNF,Option.map_some,Sum.map_inl,Sum.map_inr]) (n,k,i,v,v1,v2,v3,v4,v5,v6,v7,v8,v9,v10,d,xs,())
abbrev G1s:Int × Int × Int × Int × (List Rt) × Int × Int × (List Rt) × Int × Int × Bool × (List Int) × (List Int) × (List Rt) × (List Rt) × Unit→Int × Int × Int × Int × Int × Int × (List Rt) × (List Rt) × Int × Int × Bool × (List Int) × (List Int) × (List Rt) × (List Rt) × Unit :=
  fun (n,k,v,v1,v2,v3,v4,v5,v6,v7,v8,v9,v10,xs,d,_)=>(n,k,v,v1,v3,v4,v5,v2,v6,v7,v8,v9,v10,xs,d,())
theorem zNH (n k j v v1:Int) (v2:List Rt) (v3 v4:Int) (v5:List Rt) (v6 v7:Int) (v8:Bool) (v9 v10:List Int) (xs d:List Rt) :
    L_spec_l08Factor_m_1 n k j v v1 v3 v4 v5 v2 v6 v7 v8 v9 v10 xs d=(zgp n k j v v1 v2 v3 v4 v5 v6 v7 v8 v9 v10 xs d).map G1s :=
  whileO_map (S:=zbk) (T:=zcr) (fun (n,k,j,v,v1,v2,v3,v4,v5,v6,v7,v8,v9,v10,xs,d,_)=>(n,k,j,v,v1,v3,v4,v5,v2,v6,v7,v8,v9,v10,xs,d,())) G1s
    (fun (n,k,j,v,v1,v2,v3,v4,v5,v6,v7,v8,v9,v10,xs,d,_)=>by
      simp only[zbk,zcr,zfa,zem,Option.map_some,Sum.map_inl,Sum.map_inr]) (n,k,j,v,v1,v2,v3,v4,v5,v6,v7,v8,v9,v10,xs,d,())
abbrev D0m:((List Rt) × Bool × Int × Int × (List Rt) × (List Rt) × Unit) ⊕ (Int × Int × (List Rt) × (List Rt) × Int × Int × (List Rt) × (List Rt) × Unit)→(List Rt × Bool × Int × Int × List Rt) ⊕ (Int × Int × List Rt × List Rt) :=
  Sum.map (fun (a,b,c,d,e,_,_)=>(a,b,c,d,e)) fun (_,_,_,_,a,b,c,d,_)=>(a,b,c,d)
theorem zNI (n k v v1:Int) (v2:List Rt) (v3 v4:Int) (v5:List Rt) (v6 v7:Int) (xs d:List Rt) :
    (L_spec_l08Factor_m_0 n k v v1 v3 v4 v5 v2 v6 v7 xs d).map D0m=(zgq n k v v1 v2 v3 v4 v5 v6 v7 xs d).map (Sum.map (fun (a,b,c,d,e,_)=>(a,b,c,d,e)) fun (_,_,_,a,b,c,d,_)=>(a,b,c,d)) :=
  whileO_mapG (S:=zbl) (T:=zcs) (fun (n,k,v,v1,v2,v3,v4,v5,v6,v7,xs,d,_)=>(n,k,v,v1,v3,v4,v5,v2,v6,v7,xs,d,())) D0m _
    (fun (n,k,v,v1,v2,v3,v4,v5,v6,v7,xs,d,_)=>by
      simp only[zbl,zcs,zfa,zem,zdY,zEh,zNH,zNG,Option.map_some,Sum.map_inl,Sum.map_inr,id_eq]) (n,k,v,v1,v2,v3,v4,v5,v6,v7,xs,d,())
theorem zg9 {m:Mx} {L:Mx} {D x:List Rt} {b:Bool} (h:zdz m=some (L,D,b,x)):zez m=some (L,D,b):=by
  have key:zd4 m=(zct m).map fun (a,b,c,_)=>(a,b,c):=by
    unfold zd4 zct
    cases zbn m.rows with
    | none=>rfl
    | some r =>
      simp only[Option.bind_some]
      refine (zHE (k:=fun z=>match z with
        | .inl (t,t1,v,v1,v2)=>some ((⟨v,v1,v2⟩:Mx),t,t1)
        | .inr (v6,v7,xs,d)=>some ((⟨v6,v7,xs⟩:Mx),d,true)) (zNI m.rows 0 m.rows m.cols m.cells 0 0 [] r.rows r.cols r.cells []) (fun a=>?_) (fun a=>?_)).symm
      · cases a<;>rfl
      · cases a<;>rfl
  unfold zdz at h
  unfold zez
  obtain ⟨r,hr,h⟩:=zd0 h
  rw[hr,Option.bind_some]
  rcases zpn h with ⟨c,h⟩ | ⟨c,h⟩
  · rw[c,cond_true]; cases h; rfl
  · rw[c,cond_false,key]
    obtain ⟨⟨a1,a2,a3,a4⟩,h1,h⟩:=zd0 h
    rw[h1]
    cases h; rfl
end Go.Di
namespace Go.Di
theorem zHF {α β γ ω:Type} {o:Option α} {p:Option β} {G:α→γ} {F:β→γ} {f:α→Option ω} {g:β→Option ω} {k:γ→Option ω} (h:o.map G=p.map F) (hf:∀ a,f a=k (G a)) (hg:∀ b,g b=k (F b)):o.bind f=p.bind g:=by
  have e1:o.bind f=(o.map G).bind k:=by cases o with
    | none=>rfl
    | some a=>exact hf a
  have e2:p.bind g=(p.map F).bind k:=by cases p with
    | none=>rfl
    | some b=>exact hg b
  rw[e1,e2,h]
abbrev AF1:Int × Int × Int × Int × Int × Int × (List Rt) × Int × Int × Int × Int × Bool × Tk × Tk × (List TRt) × (List TRt) × (List TRt) × Nat × Unit→Int × Int × Int × Int × Int × Int × Int × Int × (List Rt) × (List Rt) × Int × Int × Bool × (List Rt) × (List Int) × (List Int) × (List Rt) × Unit :=
  fun (n,k,t,t1,v,v1,v2,v3,v4,v5,v6,v7,v8,v9,xs,d,xs1,_,_)=>(n,k,t,t1,v,v1,v3,v4,ers xs1,v2,v5,v6,v7,ers xs,v8.xs,v9.xs,ers d,())
theorem zLO (n k t t1 t2 t3 v v1:Int) (v2:List Rt) (v3 v4 v5 v6:Int) (v7:Bool) (v8 v9:Tk) (xs d xs1:List TRt) (np:Nat) :
    L_impl_Factor_m_1 n k t t1 t2 t3 v v1 v3 v4 (ers xs1) v2 v5 v6 v7 (ers xs) v8.xs v9.xs (ers d)=(ze2 n k t t1 t2 t3 v v1 v2 v3 v4 v5 v6 v7 v8 v9 xs d xs1 np).map AF1 :=
  whileO_map (S:=zb6) (T:=zbx) (fun (n,k,t,t1,t2,t3,v,v1,v2,v3,v4,v5,v6,v7,v8,v9,xs,d,xs1,_,_)=>(n,k,t,t1,t2,t3,v,v1,v3,v4,ers xs1,v2,v5,v6,v7,ers xs,v8.xs,v9.xs,ers d,())) AF1
    (fun (n,k,t,t1,t2,t3,v,v1,v2,v3,v4,v5,v6,v7,v8,v9,xs,d,xs1,np,_)=>by
      simp only[zb6,zbx,zfa,zem,zdY,zme,List.getElem?_map,zNW,Option.map_some,Sum.map_inl,Sum.map_inr]) (n,k,t,t1,t2,t3,v,v1,v2,v3,v4,v5,v6,v7,v8,v9,xs,d,xs1,np,())
abbrev AF3:Int × Int × Int × Int × Int × Int × Int × (List Rt) × Int × Int × Int × Int × Bool × Tk × Tk × Bool × Tk × Tk × (List TRt) × (List TRt) × (List TRt) × Nat × Unit→Int × Int × Int × Int × Int × Int × Int × Int × Int × (List Rt) × (List Rt) × Int × Int × Bool × (List Int) × (List Int) × Bool × (List Rt) × (List Rt) × (List Int) × (List Int) × Unit :=
  fun (n,k,i,t,t1,v,v1,v2,v3,v4,v5,v6,v7,v8,v9,v10,v11,v12,d,xs,xs1,_,_)=>(n,k,i,t,t1,v,v1,v3,v4,ers xs1,v2,v5,v6,v7,v8.xs,v9.xs,v10,ers d,ers xs,v11.xs,v12.xs,())
theorem zLM (n k i t t1 t2 t3 v v1:Int) (v2:List Rt) (v3 v4 v5 v6:Int) (v7:Bool) (v8 v9:Tk) (v10:Bool) (v11 v12:Tk) (d xs xs1:List TRt) (np:Nat) :
    L_impl_Factor_m_3 n k i t t1 t2 t3 v v1 v3 v4 (ers xs1) v2 v5 v6 v7 v8.xs v9.xs v10 (ers d) (ers xs) v11.xs v12.xs=(ze0 n k i t t1 t2 t3 v v1 v2 v3 v4 v5 v6 v7 v8 v9 v10 v11 v12 d xs xs1 np).map AF3 :=
  whileO_map (S:=zb4) (T:=zbv) (fun (n,k,i,t,t1,t2,t3,v,v1,v2,v3,v4,v5,v6,v7,v8,v9,v10,v11,v12,d,xs,xs1,_,_)=>(n,k,i,t,t1,t2,t3,v,v1,v3,v4,ers xs1,v2,v5,v6,v7,v8.xs,v9.xs,v10,ers d,ers xs,v11.xs,v12.xs,())) AF3
    (fun (n,k,i,t,t1,t2,t3,v,v1,v2,v3,v4,v5,v6,v7,v8,v9,v10,v11,v12,d,xs,xs1,np,_)=>by
      simp only[zb4,zbv,zfa,zem,zdY,zme,List.getElem?_map,zNW,Option.map_some,Sum.map_inl,Sum.map_inr]) (n,k,i,t,t1,t2,t3,v,v1,v2,v3,v4,v5,v6,v7,v8,v9,v10,v11,v12,d,xs,xs1,np,())
abbrev BF2:((List Rt) × Bool × Int × Int × (List Rt) × (List Rt) × Unit) ⊕ (Int × Int × Int × Int × Int × Int × Int × (List Rt) × (List Rt) × Int × Int × (List Rt) × (List Rt) × Unit)→(List Rt × Bool × Int × Int × List Rt) ⊕ (Int × Int × Int × Int × Int × Int × Int × (List Rt) × (List Rt) × Int × Int × (List Rt) × (List Rt) × Unit) :=
  Sum.map (fun (a,b,c,d,e,_,_)=>(a,b,c,d,e)) id
abbrev AF2:(Bool × Int × Int × (List TRt) × (List TRt) × Nat × Unit) ⊕ (Int × Int × Int × Int × Int × (List Rt) × Int × Int × Int × Int × (List TRt) × (List TRt) × (List TRt) × Nat × Unit)→(List Rt × Bool × Int × Int × List Rt) ⊕ (Int × Int × Int × Int × Int × Int × Int × (List Rt) × (List Rt) × Int × Int × (List Rt) × (List Rt) × Unit) :=
  Sum.map (fun (b,v,v1,xs,d,_,_)=>(ers d,b,v,v1,ers xs)) fun (n,t,t1,v,v1,v2,v3,v4,v5,v6,d,xs,xs1,_,_)=>(n,t,t1,v,v1,v3,v4,ers xs1,v2,v5,v6,ers d,ers xs,())
theorem zLN (n k i t t1 v v1:Int) (v2:List Rt) (v3 v4 v5 v6:Int) (v7:Bool) (v8 v9:Tk) (d xs xs1:List TRt) (np:Nat) :
    (L_impl_Factor_m_2 n k i t t1 v v1 v3 v4 (ers xs1) v2 v5 v6 v7 v8.xs v9.xs (ers d) (ers xs)).map BF2=(ze1 n k i t t1 v v1 v2 v3 v4 v5 v6 v7 v8 v9 d xs xs1 np).map AF2 :=
  whileO_mapG (S:=zb5) (T:=zbw) (fun (n,k,i,t,t1,v,v1,v2,v3,v4,v5,v6,v7,v8,v9,d,xs,xs1,_,_)=>(n,k,i,t,t1,v,v1,v3,v4,ers xs1,v2,v5,v6,v7,v8.xs,v9.xs,ers d,ers xs,())) BF2 AF2
    (fun (n,k,i,t,t1,v,v1,v2,v3,v4,v5,v6,v7,v8,v9,d,xs,xs1,np,_)=>by
      simp only[zb5,zbw,zfa,zem,zdY,zp2,Option.map_some,Sum.map_inl,Sum.map_inr,id_eq]
      refine zDF (fun _=>zl0 fun r=>zl0 fun r1=>?_) fun _=>rfl
      rw[zLM (v11:=⟨np,r1.mag⟩) (v12:=⟨np+1,r1.den⟩) (np:=np+2),zdY]
      refine zl0 fun ⟨n1,k1,i1,t2,t3,v10,v11,v12,v13,v14,v15,v16,v17,v18,v19,v20,v21,v22,d1,xs2,xs3,np1,_⟩=>?_
      simp only[zme,zdY,zE6,zP9]
      refine zl0 fun r2=>zl0 fun r3=>zDF (fun _=>rfl) fun _=>zl0 fun _=>rfl) (n,k,i,t,t1,v,v1,v2,v3,v4,v5,v6,v7,v8,v9,d,xs,xs1,np,())
abbrev BF0:((List Rt) × Bool × Int × Int × (List Rt) × (List Rt) × Unit) ⊕ (Int × Int × (List Rt) × (List Rt) × Int × Int × (List Rt) × (List Rt) × Unit)→(List Rt × Bool × Int × Int × List Rt) ⊕ (Int × Int × List Rt × List Rt) :=
  Sum.map (fun (a,b,c,d,e,_,_)=>(a,b,c,d,e)) fun (_,_,_,_,a,b,c,d,_)=>(a,b,c,d)
abbrev AF0:(Bool × Int × Int × (List TRt) × (List TRt) × Nat × Unit) ⊕ (Int × Int × Int × Int × (List TRt) × (List TRt) × (List TRt) × Nat × Unit)→(List Rt × Bool × Int × Int × List Rt) ⊕ (Int × Int × List Rt × List Rt) :=
  Sum.map (fun (b,v,v1,xs,d,_,_)=>(ers d,b,v,v1,ers xs)) fun (_,_,v5,v6,xs,d,_,_,_)=>(v5,v6,ers xs,ers d)
theorem zLP (n t t1 v v1:Int) (v2:List Rt) (v3 v4 v5 v6:Int) (xs d xs1:List TRt) (np:Nat) :
    (L_impl_Factor_m_0 n t t1 v v1 v3 v4 (ers xs1) v2 v5 v6 (ers xs) (ers d)).map BF0=(zdV n t t1 v v1 v2 v3 v4 v5 v6 xs d xs1 np).map AF0 :=
  whileO_mapG (S:=zb7) (T:=zby) (fun (n,t,t1,v,v1,v2,v3,v4,v5,v6,xs,d,xs1,_,_)=>(n,t,t1,v,v1,v3,v4,ers xs1,v2,v5,v6,ers xs,ers d,())) BF0 AF0
    (fun (n,t,t1,v,v1,v2,v3,v4,v5,v6,xs,d,xs1,np,_)=>by
      simp only[zb7,zby,zfa,zem,zdY,zp2,Option.map_some,Sum.map_inl,Sum.map_inr]
      refine zDF (fun _=>zl0 fun r=>zl0 fun r1=>?_) fun _=>rfl
      rw[zLO (v8:=⟨np,r1.mag⟩) (v9:=⟨np+1,r1.den⟩) (np:=np+2),zdY]
      refine zl0 fun ⟨n1,k,t2,t3,v7,v8,v9,v10,v11,v12,v13,v14,v15,v16,xs2,d1,xs3,np1,_⟩=>?_
      simp only[List.length_map]
      refine zl0 fun r2=>zDF (fun _=>rfl) fun _=>zl0 fun r3=>zDF (fun _=>rfl) fun _=>zl0 fun _=>?_
      have h:=zLN n1 k (IntKind.i64.wrap (k+1)) t2 t3 v7 v8 v9 v10 v11 v12 v13 v14 v15 v16 (d1++[⟨v14,v15,v16⟩]) xs2 xs3 np1
      rw[show ers (d1++[⟨v14,v15,v16⟩])=ers d1++[⟨v14,v15.xs,v16.xs⟩] from zuR ..] at h
      refine zHF (k:=fun z=>match z with
        | .inl (a,b,c,d,e)=>some (.inr (.inl (a,b,c,d,e)))
        | .inr (n2,t6,t7,v19,v20,v22,v23,x1,v21,v24,v25,d2,xs5,_)=>some (.inl (n2,t6,IntKind.i64.wrap (t7+1),v19,v20,v22,v23,x1,v21,v24,v25,xs5,d2,()))) h (fun a=>?_) (fun b=>?_)
      · cases a<;>rfl
      · cases b<;>rfl) (n,t,t1,v,v1,v2,v3,v4,v5,v6,xs,d,xs1,np,())
end Go.Di
namespace Go.Di
theorem Idn.left {n:Nat} {l m:List TRt} (h:Idn n (l++m)):Idn n l:=by
  obtain ⟨h1,h2⟩:=h
  rw[zhi] at h1 h2
  exact ⟨(List.sublist_append_left _ _).nodup h1,fun i hi=>h2 i (List.mem_append_left _ hi)⟩
theorem zCY {n m:Nat} {l:List TRt} {e:TRt} (h:Idn n l) (ha:n≤e.mag.id) (hb:n≤e.den.id) (hab:e.mag.id≠e.den.id) (ham:e.mag.id < m) (hbm:e.den.id < m) (hnm:n≤m):Idn m (l++[e]):=by
  have key:∀ l:List TRt,zhj (l++[e])=zhj l++[e.mag.id,e.den.id]:=fun l=>by rw[zhi]; rfl
  refine ⟨?_,fun i hi=>?_⟩
  · rw[key,List.nodup_append]
    refine ⟨h.1,by simp[hab],fun a hx b hb'=>?_⟩
    have:=h.2 a hx
    simp only[List.mem_cons,List.not_mem_nil,or_false] at hb'
    rcases hb' with e' | e'<;>omega
  · rw [key,List.mem_append] at hi
    rcases hi with hi | hi
    · exact Nat.lt_of_lt_of_le (h.2 i hi) hnm
    · simp only[List.mem_cons,List.not_mem_nil,or_false] at hi
      rcases hi with e' | e'<;>omega
theorem zFD {n m:Nat} {l d:List TRt} {e:TRt} (h:Idn n (l++d)) (i:Nat) (ha:n≤e.mag.id) (hb:n≤e.den.id) (hab:e.mag.id≠e.den.id) (ham:e.mag.id < m) (hbm:e.den.id < m) (hnm:n≤m):Idn m (l.set i e++d):=by
  by_cases hi:i < l.length
  · rw[← List.set_append_left _ _ hi]
    exact idn_set h i ha hb hab ham hbm hnm
  · rw[List.set_eq_of_length_le (by omega)]
    exact h.mono hnm
def K1:Int × Int × Int × Int × Int × Int × (List Rt) × Int × Int × Int × Int × Bool × Tk × Tk × (List TRt) × (List TRt) × (List TRt) × Nat × Unit→Prop :=
  fun (_,_,_,_,_,_,_,_,_,_,_,v7,v8,v9,xs,d,_,np,_)=>Idn np (xs++d++[⟨v7,v8,v9⟩])
def I1:Int × Int × Int × Int × Int × Int × Int × Int × (List Rt) × Int × Int × Int × Int × Bool × Tk × Tk × (List TRt) × (List TRt) × (List TRt) × Nat × Unit→Prop :=
  fun (_,_,_,_,_,_,_,_,_,_,_,_,_,v7,v8,v9,xs,d,_,np,_)=>Idn np (xs++d++[⟨v7,v8,v9⟩])
theorem zFM {n k t t1 t2 t3 v v1:Int} {v2:List Rt} {v3 v4 v5 v6:Int} {v7:Bool} {v8 v9:Tk} {xs d xs1:List TRt} {np:Nat} (hi:Idn np (xs++d++[⟨v7,v8,v9⟩]))
    {y} (h:ze2 n k t t1 t2 t3 v v1 v2 v3 v4 v5 v6 v7 v8 v9 xs d xs1 np=some y):K1 y :=
  whileO_keeps (T:=zbx) (t:=(n,k,t,t1,t2,t3,v,v1,v2,v3,v4,v5,v6,v7,v8,v9,xs,d,xs1,np,())) I1 K1 (fun (n,k,t,t1,t2,t3,v,v1,v2,v3,v4,v5,v6,v7,v8,v9,xs,d,xs1,np,_) r hi h=>by
    have hi:Idn np (xs++d++[⟨v7,v8,v9⟩]):=hi
    simp only[zbx] at h
    rcases zpn h with ⟨_,h⟩ | ⟨_,h⟩
    · obtain ⟨_,_,h⟩:=zd0 h
      obtain ⟨_,_,h⟩:=zd0 h
      obtain ⟨_,_,h⟩:=zd0 h
      obtain ⟨_,_,h⟩:=zd0 h
      obtain ⟨_,_,h⟩:=zd0 h
      obtain ⟨_,_,h⟩:=zd0 h
      obtain ⟨_,_,h⟩:=zd0 h
      cases h
      exact zCY hi.left (by simp) (by simp) (by simp) (by simp) (by simp) (by simp)
    · cases h; exact hi) hi h
def K3:Int × Int × Int × Int × Int × Int × Int × (List Rt) × Int × Int × Int × Int × Bool × Tk × Tk × Bool × Tk × Tk × (List TRt) × (List TRt) × (List TRt) × Nat × Unit→Prop :=
  fun (_,_,_,_,_,_,_,_,_,_,_,_,_,_,_,_,_,_,d,xs,_,np,_)=>Idn np (xs++d)
def I3:Int × Int × Int × Int × Int × Int × Int × Int × Int × (List Rt) × Int × Int × Int × Int × Bool × Tk × Tk × Bool × Tk × Tk × (List TRt) × (List TRt) × (List TRt) × Nat × Unit→Prop :=
  fun (_,_,_,_,_,_,_,_,_,_,_,_,_,_,_,_,_,_,_,_,d,xs,_,np,_)=>Idn np (xs++d)
theorem zFK {n k i t t1 t2 t3 v v1:Int} {v2:List Rt} {v3 v4 v5 v6:Int} {v7:Bool} {v8 v9:Tk} {v10:Bool} {v11 v12:Tk} {d xs xs1:List TRt} {np:Nat} (hi:Idn np (xs++d))
    {y} (h:ze0 n k i t t1 t2 t3 v v1 v2 v3 v4 v5 v6 v7 v8 v9 v10 v11 v12 d xs xs1 np=some y):K3 y :=
  whileO_keeps (T:=zbv) (t:=(n,k,i,t,t1,t2,t3,v,v1,v2,v3,v4,v5,v6,v7,v8,v9,v10,v11,v12,d,xs,xs1,np,())) I3 K3 (fun (n,k,i,t,t1,t2,t3,v,v1,v2,v3,v4,v5,v6,v7,v8,v9,v10,v11,v12,d,xs,xs1,np,_) r hi h=>by
    have hi:Idn np (xs++d):=hi
    simp only[zbv] at h
    rcases zpn h with ⟨_,h⟩ | ⟨_,h⟩
    · obtain ⟨_,_,h⟩:=zd0 h
      obtain ⟨_,_,h⟩:=zd0 h
      obtain ⟨_,_,h⟩:=zd0 h
      obtain ⟨_,_,h⟩:=zd0 h
      obtain ⟨_,_,h⟩:=zd0 h
      obtain ⟨_,_,h⟩:=zd0 h
      obtain ⟨_,_,h⟩:=zd0 h
      cases h
      exact hi.mono (Nat.le_add_right np 6)
    · cases h; exact hi) hi h
def KE:Bool × Int × Int × (List TRt) × (List TRt) × Nat × Unit→Prop:=fun (_,_,_,xs,d,_,_)=>(zhj (xs++d)).Nodup
def K2:Int × Int × Int × Int × Int × (List Rt) × Int × Int × Int × Int × (List TRt) × (List TRt) × (List TRt) × Nat × Unit→Prop :=
  fun (_,_,_,_,_,_,_,_,_,_,d,xs,_,np,_)=>Idn np (xs++d)
def I2:Int × Int × Int × Int × Int × Int × Int × (List Rt) × Int × Int × Int × Int × Bool × Tk × Tk × (List TRt) × (List TRt) × (List TRt) × Nat × Unit→Prop :=
  fun (_,_,_,_,_,_,_,_,_,_,_,_,_,_,_,d,xs,_,np,_)=>Idn np (xs++d)
theorem zFL {n k i t t1 v v1:Int} {v2:List Rt} {v3 v4 v5 v6:Int} {v7:Bool} {v8 v9:Tk} {d xs xs1:List TRt} {np:Nat} (hi:Idn np (xs++d))
    {y} (h:ze1 n k i t t1 v v1 v2 v3 v4 v5 v6 v7 v8 v9 d xs xs1 np=some y):Sum.elim KE K2 y :=
  whileO_keeps (T:=zbw) (t:=(n,k,i,t,t1,v,v1,v2,v3,v4,v5,v6,v7,v8,v9,d,xs,xs1,np,())) I2 (Sum.elim KE K2) (fun (n,k,i,t,t1,v,v1,v2,v3,v4,v5,v6,v7,v8,v9,d,xs,xs1,np,_) r hi h=>by
    have hi:Idn np (xs++d):=hi
    simp only[zbw] at h
    rcases zpn h with ⟨_,h⟩ | ⟨_,h⟩
    · obtain ⟨_,_,h⟩:=zd0 h
      obtain ⟨r1,_,h⟩:=zd0 h
      obtain ⟨⟨n1,k1,i1,t2,t3,v10,v11,v12,v13,v14,v15,v16,v17,v18,v19,v20,v21,v22,d1,xs2,xs3,np1,_⟩,h3,h⟩:=zd0 h
      have k3:Idn np1 (xs2++d1):=zFK (hi.mono (Nat.le_add_right np 2)) h3
      obtain ⟨r2,_,h⟩:=zd0 h
      obtain ⟨_,_,h⟩:=zd0 h
      rcases zpn h with ⟨_,h⟩ | ⟨_,h⟩
      · cases h; exact List.nodup_nil
      · obtain ⟨_,_,h⟩:=zd0 h
        cases h
        exact zFD k3 _ (by simp) (by simp) (by simp) (by simp) (by simp) (by simp)
    · cases h; exact hi) hi h
def K0:Int × Int × Int × Int × (List TRt) × (List TRt) × (List TRt) × Nat × Unit→Prop:=fun (_,_,_,_,xs,d,_,np,_)=>Idn np (xs++d)
def I0:Int × Int × Int × Int × Int × (List Rt) × Int × Int × Int × Int × (List TRt) × (List TRt) × (List TRt) × Nat × Unit→Prop :=
  fun (_,_,_,_,_,_,_,_,_,_,xs,d,_,np,_)=>Idn np (xs++d)
theorem fac0_idn {n t t1 v v1:Int} {v2:List Rt} {v3 v4 v5 v6:Int} {xs d xs1:List TRt} {np:Nat} (hi:Idn np (xs++d))
    {y} (h:zdV n t t1 v v1 v2 v3 v4 v5 v6 xs d xs1 np=some y):Sum.elim KE K0 y :=
  whileO_keeps (T:=zby) (t:=(n,t,t1,v,v1,v2,v3,v4,v5,v6,xs,d,xs1,np,())) I0 (Sum.elim KE K0) (fun (n,t,t1,v,v1,v2,v3,v4,v5,v6,xs,d,xs1,np,_) r hi h=>by
    have hi:Idn np (xs++d):=hi
    simp only[zby] at h
    rcases zpn h with ⟨_,h⟩ | ⟨_,h⟩
    · obtain ⟨_,_,h⟩:=zd0 h
      obtain ⟨r1,_,h⟩:=zd0 h
      obtain ⟨⟨n1,k,t2,t3,v7,v8,v9,v10,v11,v12,v13,v14,v15,v16,xs2,d1,xs3,np1,_⟩,h1,h⟩:=zd0 h
      have k1:Idn np1 (xs2++d1++[⟨v14,v15,v16⟩]):=zFM (zCY hi (by simp) (by simp) (by simp) (by simp) (by simp) (by simp)) h1
      obtain ⟨_,_,h⟩:=zd0 h
      rcases zpn h with ⟨_,h⟩ | ⟨_,h⟩
      · cases h; exact List.nodup_nil
      · obtain ⟨_,_,h⟩:=zd0 h
        rcases zpn h with ⟨_,h⟩ | ⟨_,h⟩
        · cases h; exact List.nodup_nil
        · obtain ⟨_,_,h⟩:=zd0 h
          obtain ⟨r4,h2,h⟩:=zd0 h
          rw[List.append_assoc] at k1
          have k2:=zFL k1 h2
          cases r4 with
          | inl z=>cases h; exact k2
          | inr z=>cases h; exact k2
    · cases h; exact hi) hi h
theorem zq5 {l d:List TRt} (h:(zhj (l++d)).Nodup):zal (zdX (zhj l++(zhj d++([]:List Nat))))=some ():=by
  rw[List.append_nil,← zhi,zn1.2 h]; rfl
theorem factor_t {m L:Mx} {D x:List Rt} {b:Bool} (h:zdE m=some (L,D,b,x)):zc0 m=some (L,D,b):=by
  unfold zdE at h
  unfold zc0
  obtain ⟨r,hr,h⟩:=zd0 h
  rw[hr,Option.bind_some]
  rcases zpn h with ⟨c,h⟩ | ⟨c,h⟩
  · rw[c,cond_true]; cases h; rfl
  · rw [c, cond_false]
    obtain ⟨r1,h1,h⟩:=zd0 h
    rw[h1,Option.bind_some]
    obtain ⟨y,hy,h⟩:=zd0 h
    have e:=zLP m.rows m.rows 0 m.rows m.cols m.cells 0 0 r1.rows r1.cols (zp7 0 r1.cells) [] [] (0+2 * r1.cells.length)
    rw[show ers (zp7 0 r1.cells)=r1.cells from zzX 0 r1.cells,show ers ([]:List TRt)=[] from rfl,hy] at e
    cases hz:zdV m.rows m.rows 0 m.rows m.cols m.cells 0 0 r1.rows r1.cols (zp7 0 r1.cells) [] [] (0+2 * r1.cells.length) with
    | none=>rw[hz] at e; cases e
    | some z =>
      rw[hz] at e
      have e:=Option.some.inj e
      have hk:=fac0_idn (d:=[]) (by rw[List.append_nil]; exact ⟨(zo8 0 r1.cells).1,fun i hi=>((zo8 0 r1.cells).2 i hi).2⟩) hz
      rw[Option.bind_some]
      cases z with
      | inl z =>
        obtain ⟨t,v,v1,xs,t1,_,_⟩:=z
        simp only[]
        rw[zq5 hk,Option.bind_some]
        cases y with
        | inl y =>
          obtain ⟨a1,a2,a3,a4,a5,a6,_⟩:=y
          have e:=Sum.inl.inj e
          cases e; cases h; rfl
        | inr y=>cases e
      | inr z =>
        obtain ⟨_,_,v4,v5,xs1,d,_,_,_⟩:=z
        simp only[]
        rw[zq5 hk.1,Option.bind_some]
        cases y with
        | inl y=>cases e
        | inr y =>
          obtain ⟨_,_,_,a4,a5,a6,a7,a8,_⟩:=y
          have e:=Sum.inr.inj e
          cases e; cases h; rfl
end Go.Di
namespace Go.Di
theorem zO3 {l:List (Option Rat)} (h:∀ o∈l,Oks o) (hn:l.length≤20000):ws wR (l.map ro)≤1048576:=by
  have:=Nat.le_trans (zqC (l:=l.map ro) (n:=20000) (fun x hx=>by
    obtain ⟨o,ho,rfl⟩:=List.mem_map.1 hx
    exact zMV (h o ho)) (by simpa using hn)) (show 49 * 20000≤1048576 by omega)
  rw[zzU]; omega
theorem zuz {m:Mx} (hm:znB Rt.fit m.cells):∃ L D b,zez m=some (L,D,b)∧zc0 m=some (L,D,b)∧Rfit L.cells∧Rfit D∧ws wR L.cells≤1048576:=by
  rcases sym_cases hm with ⟨hs,hi⟩ | ⟨n,q,hq,hs,hi⟩
  · refine ⟨⟨0,0,[]⟩,[],false,zg9 (x:=m.cells) ?_,factor_t (x:=m.cells) ?_,zl5,zl5,Nat.zero_le _⟩
    · unfold zdz; rw[hs]; rfl
    · unfold zdE; rw[hi]; rfl
  · obtain ⟨hn,_,hl,hf,hmq⟩:=hq
    subst hmq
    have hO:=zEZ hf
    have h1:=spec_factor (q:=q.map some) hO (by rw[List.length_map,hl]) hn
    have h2:=impl_factor (q:=q.map some) hO (by rw[List.length_map,hl]) hn
    rw[← zKs] at h1 h2
    cases hb:(facSt (q.map some) n n).isSome with
    | true =>
      rw[hb,cond_true] at h1 h2
      have ok:=facSt_ok hO (Nat.le_refl n) (zkq hb)
      have hp:=zqo hn hn
      refine ⟨⟨n,n,(zj2 (q.map some) n n).1.map ro⟩,(zj2 (q.map some) n n).2.map rq,true,zg9 (x:=q.map rq) ?_,factor_t (x:=q.map rq) ?_,zAR ok.oks (by rw[ok.len]; omega),zKt ok.fits (by rw[ok.dlen]; omega),zO3 ok.oks (by rw[ok.len]; omega)⟩
      · unfold zdz zct
        rw[hs]
        simp only[Option.bind_some,Bool.not_true,cond_false,znO hn,h1]
      · unfold zdE
        rw[hi]
        simp only[Option.bind_some,Bool.not_true,cond_false,zmT hn,h2]
    | false =>
      rw[hb,cond_false] at h1 h2
      refine ⟨⟨0,0,[]⟩,[],false,zg9 (x:=q.map rq) ?_,factor_t (x:=q.map rq) ?_,zl5,zl5,Nat.zero_le _⟩
      · unfold zdz zct
        rw[hs]
        simp only[Option.bind_some,Bool.not_true,cond_false,znO hn,h1]
      · unfold zdE
        rw[hi]
        simp only[Option.bind_some,Bool.not_true,cond_false,zmT hn,h2]
theorem law_Factor (m:Mx) (h:CK.wf (.sl .rat) m.cells):M_laws_FnExactFactor m=some true:=by
  unfold M_laws_FnExactFactor
  refine zO9 (zO8 h (by omega) (by omega)) fun r r0 r1=>?_
  have f:=zvm (l:=m.cells) (by omega)
  have f1:=f.few
  obtain ⟨L,D,b,hs,hi,g,g',hw⟩:=zuz f.fit
  have g1:=g.few
  simp (disch:=omega) only[zO6 f.fit,hs,hi,Option.bind_some,zNL f.fit,zNL g.fit,zDc g'.fit,zmi,beq_self_eq_true,Bool.not_true,cond_false,zA9 f.fit f.few,zA9 g.fit g.few,zqA g'.fit g'.few,zLH g.fit g.few,zq3 g'.fit g'.few,zOU,zL3]
end Go.Di
