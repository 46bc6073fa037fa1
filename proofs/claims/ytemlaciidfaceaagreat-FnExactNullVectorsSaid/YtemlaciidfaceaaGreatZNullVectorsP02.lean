/-
  Own work: part 9 of the texts that the proof of the given statement leans on.
-/
import Derived.Test.YtemlaciidfaceaaGreatZNullVectorsP01
noncomputable section
namespace Go.Di
end Go.Di
namespace Go.Di
theorem zMv {n lo hi:Int}:inB n lo hi=true↔lo≤n∧n≤hi:=by
  unfold inB; simp only[Bool.and_eq_true,decide_eq_true_iff]
structure MxQ (m:Mx) (r c:Nat) (q:List Rat):Prop where
  r24:r≤24
  c24:c≤24
  len:q.length=r * c
  fits:Fits q
  eq:m=⟨r,c,q.map rq⟩
theorem zKs {r c:Nat} (hr:r≤24) (hc:c≤24):r * c≤576:=by
  calc r * c≤24 * 24:=Nat.mul_le_mul hr hc
    _=576:=rfl
theorem zGa {m:Mx} (h:mxB m=true):∃ r c q,MxQ m r c q:=by
  unfold mxB at h
  simp only[Bool.and_eq_true,zMv] at h
  obtain ⟨⟨h1,h2⟩,⟨h3,h4⟩,h5,h6⟩:=h
  obtain ⟨q,hq,he⟩:=zD5 h6
  obtain ⟨rows,cols,cells⟩:=m
  simp only at *
  obtain ⟨r,rfl⟩:=Int.eq_ofNat_of_zero_le h1
  obtain ⟨c,rfl⟩:=Int.eq_ofNat_of_zero_le h3
  have hp:=zKs (show r≤24 by omega) (show c≤24 by omega)
  have e1:((r:Int) * (c:Int))=((r * c:Nat):Int):=by simp
  rw[e1,wrap_i64 (by omega) (by omega),beq_iff_eq] at h5
  subst he
  exact ⟨r,c,q,by omega,by omega,by rw[List.length_map] at h5; omega,hq,rfl⟩
theorem zpa {i c k:Nat} (hi:i < 1000) (hc:c≤1000) (hk:k < 1000):IntKind.i64.wrap (IntKind.i64.wrap ((i:Int) * (c:Int))+(k:Int))=((i * c+k:Nat):Int):=by
  have hp:i * c≤1000 * 1000:=Nat.mul_le_mul (by omega) hc
  have e1:((i:Int) * (c:Int))=((i * c:Nat):Int):=by simp
  rw[e1,wrap_i64 (n:=((i * c:Nat):Int)) (by omega) (by omega),wrap_i64 (by omega) (by omega)]
  simp
theorem zFf {i r c k:Nat} (hi:i < r) (hk:k < c):i * c+k < r * c:=by
  have:(i+1) * c≤r * c:=Nat.mul_le_mul_right _ (by omega)
  rw[Nat.add_mul,Nat.one_mul] at this
  omega
/-! ### Matrices of integers -/
/-! ### Elements,rows,diagonals -/
/-! ### Products with vectors -/
end Go.Di
namespace Go.Di
/-! ### Grids -/
def grid {α:Type} (r c:Nat) (g:Nat→Nat→α):List α:=(List.range r).flatMap fun i=>(List.range c).map (g i)
theorem zr9 {α:Type} (r c:Nat) (g:Nat→Nat→α):grid (r+1) c g=grid r c g++(List.range c).map (g r):=by
  unfold grid; rw[List.range_succ,List.flatMap_append]; simp
theorem zbz {α:Type} (r c:Nat) (g:Nat→Nat→α):(grid r c g).length=r * c:=by
  induction r with
  | zero=>simp[grid]
  | succ r ih=>rw[zr9,List.length_append,ih,List.length_map,List.length_range,Nat.add_mul,Nat.one_mul]
theorem zlj {α:Type} {r c:Nat} (g:Nat→Nat→α) {j:Nat} (h:j < r * c):(grid r c g)[j]? = some (g (j / c) (j % c)):=by
  induction r with
  | zero=>omega
  | succ r ih =>
    rw[zr9]
    by_cases hj:j < r * c
    · rw[List.getElem?_append_left (by rw[zbz]; exact hj)]; exact ih hj
    · rw [List.getElem?_append_right (by rw[zbz]; omega),zbz]
      rw[Nat.add_mul,Nat.one_mul] at h
      have hk:j - r * c < c:=by omega
      rw[List.getElem?_map,List.getElem?_range hk]
      have e:j=c * r+(j - r * c):=by rw[Nat.mul_comm c r]; omega
      have h1:j / c=r:=by
        rw[e,Nat.mul_add_div (by omega),Nat.div_eq_of_lt hk]; omega
      have h2:j % c=j - r * c:=by
        conv=>lhs; rw[e]
        rw[Nat.mul_add_mod,Nat.mod_eq_of_lt hk]
      rw[h1,h2]; rfl
theorem zpM {i c k:Nat} (hk:k < c):(i * c+k) / c=i∧(i * c+k) % c=k:=by
  constructor
  · rw[Nat.mul_comm,Nat.mul_add_div (by omega),Nat.div_eq_of_lt hk]; omega
  · rw[Nat.mul_comm,Nat.mul_add_mod,Nat.mod_eq_of_lt hk]
theorem zwM {α:Type} {r c:Nat} (g:Nat→Nat→α) {i k:Nat} (hi:i < r) (hk:k < c):(grid r c g)[i * c+k]? = some (g i k):=by
  rw[zlj g (zFf hi hk),(zpM hk).1,(zpM hk).2]
theorem zwL {α:Type} {r c:Nat} {g:Nat→Nat→α} {x:α} (h:x∈grid r c g):∃ i k,i < r∧k < c∧x=g i k:=by
  obtain ⟨i,hi,hx⟩:=List.mem_flatMap.1 h
  obtain ⟨k,hk,rfl⟩:=List.mem_map.1 hx
  exact ⟨i,k,List.mem_range.1 hi,List.mem_range.1 hk,rfl⟩
theorem znW {r c j:Nat} (h:j < r * c):j / c < r∧j % c < c∧j / c * c+j % c=j:=by
  have hc:0 < c:=by
    rcases Nat.eq_zero_or_pos c with h0 | h0
    · subst h0; simp at h
    · exact h0
  refine ⟨Nat.div_lt_of_lt_mul (by rw[Nat.mul_comm]; exact h),Nat.mod_lt _ hc,?_⟩
  rw[Nat.mul_comm]; exact Nat.div_add_mod j c
theorem zaI {α:Type} {r c:Nat} {g h:Nat→Nat→α} (e:∀ i k,i < r→k < c→g i k=h i k):grid r c g=grid r c h:=by
  apply List.ext_getElem?
  intro j
  by_cases hj:j < r * c
  · obtain ⟨h1,h2,_⟩:=znW hj
    rw[zlj g hj,zlj h hj,e _ _ h1 h2]
  · rw[List.getElem?_eq_none (by rw[zbz]; omega),List.getElem?_eq_none (by rw[zbz]; omega)]
theorem zGR {α:Type} {r c i k:Nat} (g:Nat→Nat→α) (x:α) (hi:i < r) (hk:k < c):(grid r c g).set (i * c+k) x=grid r c fun a b=>if a=i∧b=k then x else g a b:=by
  apply List.ext_getElem?
  intro j
  rw[List.getElem?_set]
  by_cases hj:j < r * c
  · obtain ⟨h1,h2,h3⟩:=znW hj
    rw[zlj (fun a b=>if a=i∧b=k then x else g a b) hj]
    split
    · rename_i e
      rw[if_pos (by rw[zbz]; omega)]
      subst e
      rw[(zpM hk).1,(zpM hk).2,if_pos ⟨rfl,rfl⟩]
    · rename_i e
      rw[zlj g hj,if_neg (by rintro ⟨e1,e2⟩; rw[e1,e2] at h3; exact e h3)]
  · rw[List.getElem?_eq_none (l:=grid r c _) (by rw[zbz]; omega),if_neg (by have:=zFf hi hk; omega),List.getElem?_eq_none (by rw[zbz]; omega)]
/-! ### Loops -/
/-! ### Identities -/
theorem zEb:Fit 1:=by
  have:=zvo (n:=1) (by omega) (by omega)
  simpa using this
theorem zAT:zbL 1=some (ro (some 1)):=by
  have:=zlg (n:=1) (by omega) (by omega)
  simpa using this
theorem zFL:zba 1=some (ro (some 1)):=by
  have:=zke (n:=1) (by omega) (by omega)
  simpa using this
theorem zyR {n:Nat} (hn:n≤20000):zep (n:Int)=some ((List.range n).map fun _=>ro (some 0)):=by
  unfold zep zg3
  rw [zmW (S:=zb0) (fun _ out=>((n:Int),out,())) (fun _=>ro (some 0)) n (r:=fun out=>(out,())) (fun i out hi ho=>by
    have hlt:decide ((out.length:Int) < (n:Int))=true:=dlt (by omega)
    simp only[zb0,hlt,cond_true,zA6,Option.bind_some,zmr (show out.length≤2000000 by omega)]) (fun out ho=>by
    have:decide ((out.length:Int) < (n:Int))=false:=decide_eq_false (by omega)
    simp only[zb0,this,cond_false])]
  rfl
/-! ### Transposed matrices -/
def trans (q:List Rat) (r c:Nat):List Rat:=grid c r fun i k=>(q[k * c+i]?).getD 0
/-! ### Sums,products -/
/-! ### Parts -/
end Go.Di
namespace Go.Di
end Go.Di
namespace Go.Di
theorem zq1 {o:Option Rat} (ho:Oks o):zer (ro o)=some (ro (zLq o)):=by
  unfold zer
  cases o with
  | none =>
    have h0:zav (!(ro none).neg) (ro none).mag=some (bg 0):=by
      rw[zeR]
      show zav true (dg 0)=_
      rw[zdk true (by rw[zaB]; simp),zpG]
    rw[h0,Option.bind_some,room (by simp[ro]),Option.bind_some,zqS]; rfl
  | some q =>
    have fq:=ho q rfl
    show ((zav (!decide (q.num < 0)) (dg q.num.natAbs)).bind fun r1=>(zak (Nat.ble (dg q.den).length zan)).bind fun _=>some (⟨r1.neg,r1.mag,dg q.den⟩:Rt))=_
    rw[zdk _ (by have:=fq.1; omega),Option.bind_some,room (by have:=fq.2; omega),Option.bind_some]
    have e:sg (!decide (q.num < 0)) q.num.natAbs = -q.num:=by
      by_cases h:q.num < 0
      · rw[decide_eq_true h]; simp only[sg,Bool.not_true,cond_false]; omega
      · rw[decide_eq_false h]; simp only[sg,Bool.not_false,cond_true]; omega
    rw[e]; rfl
theorem zA7 {o p:Option Rat} (ho:Oks o) (hp:Oks p):zfx (ro o) (ro p)=some (ro (zpA o p)):=by
  unfold zfx
  rw[zq1 hp,Option.bind_some,spec_addO ho (zpO hp)]; rfl
/-! ### Half tangents -/
/-! ### Lists of observations -/
end Go.Di
namespace Go.Di
end Go.Di
namespace Go.Di
theorem stop_loop {σ ρ:Type} {S:σ→Option (σ ⊕ ρ)} (st:Nat→σ) (n:Nat) (ok:Nat→Bool) (bad fin:ρ)
    (h:∀ i,i < n→(∀ j,j < i→ok j=true)→S (st i)=some (cond (ok i) (.inl (st (i+1))) (.inr bad)))
    (he:(∀ j,j < n→ok j=true)→S (st n)=some (.inr fin)):whileO S (st 0)=some (cond ((List.range n).all ok) fin bad):=by
  have key : ∀ s i,i+s=n→(∀ j,j < i→ok j=true)→whileO S (st i)=some (cond ((List.range n).all ok) fin bad):=by
    intro s
    induction s with
    | zero =>
      intro i hi hj
      have:i=n:=by omega
      subst this
      have ha:(List.range i).all ok=true:=by rw[List.all_eq_true]; intro x hx; exact hj x (List.mem_range.1 hx)
      rw[ha,cond_true]; exact zaz (he hj)
    | succ s ih =>
      intro i hi hj
      have hn:i < n:=by omega
      have hs:=h i hn hj
      cases hb:ok i with
      | true =>
        rw[hb,cond_true] at hs
        rw[zbd hs]
        exact ih (i+1) (by omega) fun j hji=>by
          by_cases e:j=i
          · rw[e]; exact hb
          · exact hj j (by omega)
      | false =>
        rw[hb,cond_false] at hs
        have ha:(List.range n).all ok=false:=by
          rw[← Bool.not_eq_true,List.all_eq_true]
          intro hall
          have:=hall i (List.mem_range.2 hn)
          rw[hb] at this; cases this
        rw[ha,cond_false]; exact zaz hs
  exact key n 0 (by omega) fun j hj=>by omega
def zvx (lo:List (Option Rat)) (p:Nat):Option Rat:=(lo[p]?).getD none
theorem zp0 {lo:List (Option Rat)} {p:Nat} (h:p < lo.length):idx (lo.map ro) (p:Int)=some (ro (zvx lo p)):=by
  rw[zMy h]; unfold zvx; rw[List.getElem?_eq_getElem h]; rfl
theorem zD7 {lo:List (Option Rat)} {p:Nat} (h:p < lo.length):(lo.map ro)[p]? = some (ro (zvx lo p)):=by
  rw[← zht,zp0 h]
theorem zLg (q:List Rat):q.map rq=(q.map some).map ro:=by rw[List.map_map]; rfl
theorem zGP {lo:List (Option Rat)} {n c i k:Nat} {x:Int} (hl:lo.length=n * c) (hn:n≤1000) (hc:c≤1000) (hi:i < n) (hk:k < c) :
    zbj ⟨x,c,lo.map ro⟩ i k=some (ro (zvx lo (i * c+k)),lo.map ro):=by
  have hp:i * c+k < lo.length:=by rw[hl]; exact zFf hi hk
  unfold zbj
  simp only[zpa (show i < 1000 by omega) hc (show k < 1000 by omega),zp0 hp,Option.bind_some,Int.toNat_natCast,zD7 hp]
theorem zFN {lo:List (Option Rat)} {n c i k:Nat} {x:Int} (hl:lo.length=n * c) (hn:n≤1000) (hc:c≤1000) (hi:i < n) (hk:k < c) :
    zaQ ⟨x,c,lo.map ro⟩ i k=some (ro (zvx lo (i * c+k)),lo.map ro):=zGP hl hn hc hi hk
section
variable {q lo:List (Option Rat)} {d:List Rat} {n k:Nat}
end
/-! ### A column -/
section
variable {q lo:List (Option Rat)} {d:List Rat} {n k:Nat} {x:Rat}
end
/-! ### All columns -/
structure FacOk (n k:Nat) (lo:List (Option Rat)) (d:List Rat):Prop where
  len:lo.length=n * n
  oks:∀ o∈lo,Oks o
  all:∀ o∈lo,o.isSome=true
  fits:Fits d
  dlen:d.length=k
  pos:∀ y∈d,0 < y
end Go.Di
namespace Go.Di
theorem zsH {r c:Nat} {g:Nat→Nat→Option Rat} {i k:Nat} (hi:i < r) (hk:k < c):zvx (grid r c g) (i * c+k)=g i k:=by
  unfold zvx; rw[zwM g hi hk]; rfl
theorem zil {r c:Nat} {g:Nat→Nat→Option Rat} {i k:Nat} {x:Int} (hr:r≤1000) (hc:c≤1000) (hi:i < r) (hk:k < c) :
    zaQ ⟨x,c,(grid r c g).map ro⟩ i k=some (ro (g i k),(grid r c g).map ro):=by
  rw[zFN (zbz r c g) hr hc hi hk,zsH hi hk]
theorem zyz {r c:Nat} {g:Nat→Nat→Option Rat} {i k:Nat} {x:Int} (hr:r≤1000) (hc:c≤1000) (hi:i < r) (hk:k < c) :
    zbj ⟨x,c,(grid r c g).map ro⟩ i k=some (ro (g i k),(grid r c g).map ro):=zil hr hc hi hk
theorem ziV {r c:Nat} {g:Nat→Nat→Option Rat} {i k:Nat} (hi:i < r) (hk:k < c):idx ((grid r c g).map ro) ((i * c+k:Nat):Int)=some (ro (g i k)):=by
  rw[zp0 (by rw[zbz]; exact zFf hi hk),zsH hi hk]
theorem ze4 {r c:Nat} {g:Nat→Nat→Option Rat} {i k:Nat} (hi:i < r) (hk:k < c):((grid r c g).map ro)[i * c+k]? = some (ro (g i k)):=by
  rw[← zht,ziV hi hk]
theorem zgh {r c:Nat} {g h:Nat→Nat→Option Rat} {i k:Nat} {o:Option Rat} (hi:i < r) (hk:k < c) (e:∀ a b,a < r→b < c→h a b=if a=i∧b=k then o else g a b) :
    ((grid r c g).map ro).set (i * c+k) (ro o)=(grid r c h).map ro:=by
  rw[← List.map_set,zGR g o hi hk]
  rw[zaI e]
theorem zrk (o:Option Rat):zc1 (ro o)=some (decide (o=some 0∨o=none)):=by
  cases o with
  | none=>simp[zc1,ro]
  | some q=>rw[show ro (some q)=rq q from rfl,zNW]; simp
def zgD (r c:Nat) (g:Nat→Nat→Option Rat):Prop:=∀ i k,i < r→k < c→Oks (g i k)∧(g i k).isSome=true
def swp (g:Nat→Nat→Option Rat) (p u:Nat):Nat→Nat→Option Rat:=fun a b=>if a=p then g u b else if a=u then g p b else g a b
def dvd (g:Nat→Nat→Option Rat) (u k:Nat):Nat→Nat→Option Rat:=fun a b=>if a=u then divO (g u b) (g u k) else g a b
def clr (g:Nat→Nat→Option Rat) (u k:Nat):Nat→Nat→Option Rat:=fun a b=>if a=u then g u b else if g a k=some 0 then g a b else zpA (g a b) (zms (g a k) (g u b))
def zku (g:Nat→Nat→Option Rat) (k:Nat):Nat→Nat→Nat
  | 0,i=>i
  | s+1,i=>if g i k=some 0 then zku g k s (i+1) else i
theorem znl (g:Nat→Nat→Option Rat) (k:Nat):∀ s i,i≤zku g k s i∧zku g k s i≤i+s
  | 0,i=>⟨Nat.le_refl _,Nat.le_refl _⟩
  | s+1,i=>by
    unfold zku
    split
    · have:=znl g k s (i+1); omega
    · omega
theorem znj (g:Nat→Nat→Option Rat) (k:Nat):∀ s i a,i≤a→a < zku g k s i→g a k=some 0
  | 0,i,a,h1,h2=>by unfold zku at h2; omega
  | s + 1,i,a,h1,h2=>by
    unfold zku at h2
    split at h2
    · by_cases e:a=i
      · rw[e]; assumption
      · exact znj g k s (i+1) a (by omega) h2
    · omega
theorem znk (g:Nat→Nat→Option Rat) (k:Nat):∀ s i,zku g k s i < i+s→g (zku g k s i) k≠some 0
  | 0,i,h=>by unfold zku at h; omega
  | s+1,i,h=>by
    unfold zku at h ⊢
    split
    · rename_i h0; rw[if_pos h0] at h; exact znk g k s (i+1) (by omega)
    · assumption
section
variable {r c:Nat} {g:Nat→Nat→Option Rat} {k u:Nat}
theorem sel_find (hr:r≤24) (hc:c≤200) (hg:zgD r c g) (hk:k < c) (hu:u≤r) (n:Int) (pv:List Int) (fs:List Rt) :
    zdS k n u r c ((grid r c g).map ro) pv fs=some ((k:Int),n,((zku g k (r - u) u:Nat):Int),(r:Int),(c:Int),(grid r c g).map ro,pv,fs,()):=by
  unfold zdS
  have key : ∀ s i,i+s=r→whileO zaX ((k:Int),n,(i:Int),(r:Int),(c:Int),(grid r c g).map ro,pv,fs,())=some ((k:Int),n,((zku g k s i:Nat):Int),(r:Int),(c:Int),(grid r c g).map ro,pv,fs,()):=by
    intro s
    induction s with
    | zero =>
      intro i hi
      apply zaz
      simp[zaX,zku,show i=r by omega]
    | succ s ih =>
      intro i hi
      have hir:i < r:=by omega
      by_cases h0:g i k=some 0
      · rw [zbd (y:=((k:Int),n,((i+1:Nat):Int),(r:Int),(c:Int),(grid r c g).map ro,pv,fs,()))]
        · rw[ih (i+1) (by omega),zku,if_pos h0]
        · simp only[zaX,dlt hir,cond_true,zil (show r≤1000 by omega) (show c≤1000 by omega) hir hk,Option.bind_some,zrk,h0,zar hir (show r≤1048576 by omega)]
          simp
      · apply zaz
        have hsm:=(hg i k hir hk).2
        have hn:¬ (g i k=some 0∨g i k=none):=by
          rintro (h | h)
          · exact h0 h
          · rw[h] at hsm; cases hsm
        simp only[zaX,dlt hir,cond_true,zil (show r≤1000 by omega) (show c≤1000 by omega) hir hk,Option.bind_some,zrk,decide_eq_false hn,cond_false,zku,if_neg h0]
  exact key (r - u) u (by omega)
theorem sel_swap (hr:r≤24) (hc:c≤200) {p:Nat} (hp:p < r) (hu:u < r) (k0:Int) (pv:List Int) (fs:List Rt) :
    zdR k0 u p 0 r c ((grid r c g).map ro) fs pv=some (k0,(u:Int),(r:Int),(c:Int),(grid r c (swp g p u)).map ro,fs,pv,()):=by
  unfold zdR
  have key := whileO_upto zbg (fun j=>(k0,(u:Int),(p:Int),(j:Int),(r:Int),(c:Int),(grid r c (fun a b=>if b < j then swp g p u a b else g a b)).map ro,fs,pv,())) c
    (k0, (u : Int),(r:Int),(c:Int),(grid r c (fun a b=>if b < c then swp g p u a b else g a b)).map ro,fs,pv,()) (fun j hj=>by
      have e1:=zpa (i:=p) (c:=c) (k:=j) (by omega) (by omega) (by omega)
      have e2:=zpa (i:=u) (c:=c) (k:=j) (by omega) (by omega) (by omega)
      have s1:=zgh (r:=r) (c:=c) (g:=fun a b=>if b < j then swp g p u a b else g a b) (h:=fun a b=>if a=p∧b=j then g u j else if b < j then swp g p u a b else g a b) (o:=g u j) hp hj (fun a b _ _=>rfl)
      have s2:=zgh (r:=r) (c:=c) (g:=fun a b=>if a=p∧b=j then g u j else if b < j then swp g p u a b else g a b) (h:=fun a b=>if b < j+1 then swp g p u a b else g a b) (o:=g p j) hu hj (fun a b _ _=>by
        unfold swp
        by_cases hb:b=j
        · subst hb
          by_cases h1:a=u
          · subst h1
            by_cases h2:a=p
            · subst h2; simp
            · simp[h2]
          · by_cases h2:a=p
            · subst h2; simp[h1]
            · simp[h1,h2]
        · have:(b < j+1)=(b < j):=by rw[eq_iff_iff]; omega
          simp[hb,this])
      simp only[zbg,dlt hj,cond_true,e1,e2,ziV hp hj,ziV hu hj,Int.toNat_natCast,ze4 hp hj,ze4 hu hj,Option.bind_some,Nat.lt_irrefl,if_false,s1,s2,zar hj (show c≤1048576 by omega)]) (by simp[zbg])
  refine Eq.trans ?_ (key.trans ?_)
  · rw[zaI (r:=r) (c:=c) (g:=fun a b=>if b < 0 then swp g p u a b else g a b) (h:=g) (fun a b _ _=>by simp)]; rfl
  · rw[zaI (r:=r) (c:=c) (g:=fun a b=>if b < c then swp g p u a b else g a b) (h:=swp g p u) (fun a b _ hb=>by simp[hb])]
theorem sel_div (hr:r≤24) (hc:c≤200) (hg:zgD r c g) (hk:k < c) (hu:u < r) (k0:Int) (pv:List Int) (fs:List Rt) :
    L_spec_l07Reduce_m_3 k0 u k r c ((grid r c g).map ro) (ro (g u k)).neg (ro (g u k)).mag (ro (g u k)).den fs pv =
      some (k0,(u:Int),(r:Int),(c:Int),(grid r c (fun a b=>if a=u∧k≤b then divO (g u b) (g u k) else g a b)).map ro,fs,pv,()):=by
  unfold L_spec_l07Reduce_m_3
  have key := whileO_upto zbf (fun j=>(k0,(u:Int),((k+j:Nat):Int),(r:Int),(c:Int),(grid r c (fun a b=>if a=u∧k≤b∧b < k+j then divO (g u b) (g u k) else g a b)).map ro,(ro (g u k)).neg,(ro (g u k)).mag,(ro (g u k)).den,fs,pv,())) (c - k)
    (k0, (u : Int),(r:Int),(c:Int),(grid r c (fun a b=>if a=u∧k≤b∧b < k+(c - k) then divO (g u b) (g u k) else g a b)).map ro,fs,pv,()) (fun j hj=>by
      have hj':k+j < c:=by omega
      have e1:=zpa (i:=u) (c:=c) (k:=k+j) (by omega) (by omega) (by omega)
      have s1:=zgh (r:=r) (c:=c) (g:=fun a b=>if a=u∧k≤b∧b < k+j then divO (g u b) (g u k) else g a b) (h:=fun a b=>if a=u∧k≤b∧b < k+(j+1) then divO (g u b) (g u k) else g a b) (o:=divO (g u (k+j)) (g u k)) hu hj' (fun a b _ _=>by
        by_cases h1:a=u
        · subst h1
          by_cases h2:b=k+j
          · subst h2; rw[if_pos ⟨rfl,by omega,by omega⟩,if_pos ⟨rfl,rfl⟩]
          · rw[if_neg (show ¬ (a=a∧b=k+j) from fun h=>h2 h.2)]
            by_cases h3:k≤b∧b < k+j
            · rw[if_pos ⟨rfl,h3.1,by omega⟩,if_pos ⟨rfl,h3⟩]
            · rw[if_neg (by rintro ⟨_,h4,h5⟩; exact h3 ⟨h4,by omega⟩),if_neg (by rintro ⟨_,h4⟩; exact h3 h4)]
        · rw[if_neg (fun h=>h1 h.1),if_neg (fun h=>h1 h.1),if_neg (fun h=>h1 h.1)])
      have hd:=zBb (hg u (k+j) hu hj').1 (hg u k hu hk).1
      have ha:=zil (r:=r) (c:=c) (g:=fun a b=>if a=u∧k≤b∧b < k+j then divO (g u b) (g u k) else g a b) (x:=(r:Int)) (show r≤1000 by omega) (show c≤1000 by omega) hu hj'
      rw[if_neg (by omega)] at ha
      simp only[zbf,decide_eq_true (show ((k+j:Nat):Int) < (c:Int) by omega),cond_true,ha,Option.bind_some]
      show ((zeq (ro (g u (k+j))) (ro (g u k))).bind _)=_
      simp only[hd,Option.bind_some,e1,ziV hu hj',Int.toNat_natCast,s1,zar hj' (show c≤1048576 by omega)]
      rfl) (by simp only[zbf,decide_eq_false (show ¬ (((k+(c - k):Nat):Int) < (c:Int)) by omega),cond_false])
  refine Eq.trans ?_ (key.trans ?_)
  · rw[zaI (r:=r) (c:=c) (g:=fun a b=>if a=u∧k≤b∧b < k+0 then divO (g u b) (g u k) else g a b) (h:=g) (fun a b _ _=>if_neg (by omega))]; rfl
  · rw [zaI (r:=r) (c:=c) (g:=fun a b=>if a=u∧k≤b∧b < k+(c - k) then divO (g u b) (g u k) else g a b) (h:=fun a b=>if a=u∧k≤b then divO (g u b) (g u k) else g a b) (fun a b _ hb=>by
      by_cases h1:a=u∧k≤b
      · rw[if_pos h1,if_pos ⟨h1.1,h1.2,by omega⟩]
      · rw[if_neg h1,if_neg (fun h=>h1 ⟨h.1,h.2.1⟩)])]
def zmz (x f y:Option Rat):Option Rat:=if y=some 0∨y=none then x else zpA x (zms f y)
theorem sel_clear1 (hr:r≤24) (hc:c≤200) (hg:∀ i k,i < r→k < c→Oks (g i k)) {i:Nat} (hi:i < r) (hu:u < r) (hiu:i≠u) {f:Option Rat} (hf:Oks f) :
    L_spec_l07Clear_mdd_1 u k i k ((grid r c g).map ro) r c (ro f).neg (ro f).mag (ro f).den =
      some ((u:Int),(k:Int),(i:Int),(grid r c (fun a b=>if a=i∧k≤b then zmz (g i b) f (g u b) else g a b)).map ro,(r:Int),(c:Int),()):=by
  unfold L_spec_l07Clear_mdd_1
  have key := whileO_upto za8 (fun j=>((u:Int),(k:Int),(i:Int),((k+j:Nat):Int),(grid r c (fun a b=>if a=i∧k≤b∧b < k+j then zmz (g i b) f (g u b) else g a b)).map ro,(r:Int),(c:Int),(ro f).neg,(ro f).mag,(ro f).den,())) (c - k)
    ((u : Int),(k:Int),(i:Int),(grid r c (fun a b=>if a=i∧k≤b∧b < k+(c - k) then zmz (g i b) f (g u b) else g a b)).map ro,(r:Int),(c:Int),()) (fun j hj=>by
      have hj':k+j < c:=by omega
      have e1:=zpa (i:=i) (c:=c) (k:=k+j) (by omega) (by omega) (by omega)
      have s0:∀ a b,(if a=i∧k≤b∧b < k+(j+1) then zmz (g i b) f (g u b) else g a b)=if a=i∧b=k+j then zmz (g i (k+j)) f (g u (k+j)) else if a=i∧k≤b∧b < k+j then zmz (g i b) f (g u b) else g a b:=by
        intro a b
        by_cases h1:a=i
        · subst h1
          by_cases h2:b=k+j
          · subst h2; rw[if_pos ⟨rfl,by omega,by omega⟩,if_pos ⟨rfl,rfl⟩]
          · rw[if_neg (show ¬ (a=a∧b=k+j) from fun h=>h2 h.2)]
            by_cases h3:k≤b∧b < k+j
            · rw[if_pos ⟨rfl,h3.1,by omega⟩,if_pos ⟨rfl,h3⟩]
            · rw[if_neg (by rintro ⟨_,h4,h5⟩; exact h3 ⟨h4,by omega⟩),if_neg (by rintro ⟨_,h4⟩; exact h3 h4)]
        · rw[if_neg (fun h=>h1 h.1),if_neg (fun h=>h1 h.1),if_neg (fun h=>h1 h.1)]
      have s1:=zgh (r:=r) (c:=c) (g:=fun a b=>if a=i∧k≤b∧b < k+j then zmz (g i b) f (g u b) else g a b) (h:=fun a b=>if a=i∧k≤b∧b < k+(j+1) then zmz (g i b) f (g u b) else g a b) (o:=zmz (g i (k+j)) f (g u (k+j))) hi hj' (fun a b _ _=>s0 a b)
      have ha:=zil (r:=r) (c:=c) (g:=fun a b=>if a=i∧k≤b∧b < k+j then zmz (g i b) f (g u b) else g a b) (x:=(r:Int)) (show r≤1000 by omega) (show c≤1000 by omega) hu hj'
      rw[if_neg (by rintro ⟨h,_⟩; exact hiu h.symm)] at ha
      have hb:=zil (r:=r) (c:=c) (g:=fun a b=>if a=i∧k≤b∧b < k+j then zmz (g i b) f (g u b) else g a b) (x:=(r:Int)) (show r≤1000 by omega) (show c≤1000 by omega) hi hj'
      rw[if_neg (by omega)] at hb
      simp only[za8,decide_eq_true (show ((k+j:Nat):Int) < (c:Int) by omega),cond_true,ha,Option.bind_some,zrk]
      by_cases h0:g u (k+j)=some 0∨g u (k+j)=none
      · rw [decide_eq_true h0]
        have e2:zmz (g i (k+j)) f (g u (k+j))=g i (k+j):=by unfold zmz; rw[if_pos h0]
        have s2:grid r c (fun a b=>if a=i∧k≤b∧b < k+(j+1) then zmz (g i b) f (g u b) else g a b)=grid r c (fun a b=>if a=i∧k≤b∧b < k+j then zmz (g i b) f (g u b) else g a b):=zaI fun a b _ _=>by
          show (if a=i∧k≤b∧b < k+(j+1) then zmz (g i b) f (g u b) else g a b)=_
          rw[s0,e2]
          by_cases h1:a=i∧b=k+j
          · rw[if_pos h1,h1.1,h1.2,if_neg (by omega)]
          · rw[if_neg h1]
        simp only[Bool.not_true,cond_false,zar hj' (show c≤1048576 by omega)]
        rw[show k+j+1=k+(j+1) from rfl,s2]
      · rw[decide_eq_false h0]
        have e2:zmz (g i (k+j)) f (g u (k+j))=zpA (g i (k+j)) (zms f (g u (k+j))):=by unfold zmz; rw[if_neg h0]
        rw[e2] at s1
        simp only[Bool.not_false,cond_true,hb,ha,Option.bind_some]
        show ((zes (ro f) (ro (g u (k+j)))).bind _)=_
        simp only[zA8 hf (hg u (k+j) hu hj'),Option.bind_some,zA7 (hg i (k+j) hi hj') (zww (o:=f) (p:=g u (k+j))),e1,ziV hi hj',Int.toNat_natCast,s1,zar hj' (show c≤1048576 by omega)]
        rfl) (by simp only[za8,decide_eq_false (show ¬ (((k+(c - k):Nat):Int) < (c:Int)) by omega),cond_false])
  refine Eq.trans ?_ (key.trans ?_)
  · rw[zaI (r:=r) (c:=c) (g:=fun a b=>if a=i∧k≤b∧b < k+0 then zmz (g i b) f (g u b) else g a b) (h:=g) (fun a b _ _=>if_neg (by omega))]; rfl
  · rw [zaI (r:=r) (c:=c) (g:=fun a b=>if a=i∧k≤b∧b < k+(c - k) then zmz (g i b) f (g u b) else g a b) (h:=fun a b=>if a=i∧k≤b then zmz (g i b) f (g u b) else g a b) (fun a b _ hb=>by
      by_cases h1:a=i∧k≤b
      · rw[if_pos h1,if_pos ⟨h1.1,h1.2,by omega⟩]
      · rw[if_neg h1,if_neg (fun h=>h1 ⟨h.1,h.2.1⟩)])]
def zkE (g:Nat→Nat→Option Rat) (u k:Nat):Nat→Nat→Option Rat:=fun a b=>if a≠u∧¬ (g a k=some 0∨g a k=none)∧k≤b then zmz (g a b) (g a k) (g u b) else g a b
theorem zF5 {a b:Nat} (h:Oks (g a b)):Oks (zkE g u k a b):=by
  unfold zkE zmz
  split
  · split
    · exact h
    · exact zwt
  · exact h
theorem sel_clear (hr:r≤24) (hc:c≤200) (hg:∀ i k,i < r→k < c→Oks (g i k)) (hu:u < r) (hk:k < c) :
    zcd ⟨r,c,(grid r c g).map ro⟩ u k=some ((grid r c (zkE g u k)).map ro):=by
  unfold zcd zfm
  have key := whileO_upto za9 (fun i=>((u:Int),(k:Int),(i:Int),(grid r c (fun a b=>if a < i then zkE g u k a b else g a b)).map ro,(r:Int),(c:Int),())) r
    ((grid r c (fun a b=>if a < r then zkE g u k a b else g a b)).map ro,()) (fun i hi=>by
      have ha:=zil (r:=r) (c:=c) (g:=fun a b=>if a < i then zkE g u k a b else g a b) (x:=(r:Int)) (show r≤1000 by omega) (show c≤1000 by omega) hi hk
      rw[if_neg (Nat.lt_irrefl i)] at ha
      simp only[za9,dlt hi,cond_true,ha,Option.bind_some]
      have same:(∀ b,zkE g u k i b=g i b)→grid r c (fun a b=>if a < i+1 then zkE g u k a b else g a b)=grid r c (fun a b=>if a < i then zkE g u k a b else g a b):=fun h=>zaI fun a b _ _=>by
        by_cases h1:a < i
        · rw[if_pos h1,if_pos (by omega)]
        · rw[if_neg h1]
          by_cases h2:a=i
          · subst h2; rw[if_pos (by omega),h]
          · rw[if_neg (by omega)]
      by_cases hiu:i=u
      · subst hiu
        rw[same (fun b=>by unfold zkE; rw[if_neg (fun h=>h.1 rfl)])]
        simp only[beq_self_eq_true,cond_true,zar hi (show r≤1048576 by omega)]
      · have hb:((i:Int)==(u:Int))=false:=by
          rw[beq_eq_false_iff_ne]; omega
        simp only[hb,cond_false,zrk]
        by_cases h0:g i k=some 0∨g i k=none
        · rw[decide_eq_true h0,Option.bind_some,cond_true,same (fun b=>by unfold zkE; rw[if_neg (fun h=>h.2.1 h0)])]
          simp only[zar hi (show r≤1048576 by omega)]
        · rw [decide_eq_false h0,Option.bind_some,cond_false]
          have h1:=sel_clear1 (k:=k) (g:=fun a b=>if a < i then zkE g u k a b else g a b) hr hc (fun a b h1 h2=>by
            show Oks (if a < i then zkE g u k a b else g a b)
            split
            · exact zF5 (hg a b h1 h2)
            · exact hg a b h1 h2) hi hu hiu (hg i k hi hk)
          rw[h1,Option.bind_some]
          simp only[zar hi (show r≤1048576 by omega)]
          rw[zaI (r:=r) (c:=c) (h:=fun a b=>if a < i+1 then zkE g u k a b else g a b) (fun a b _ _=>?_)]
          by_cases h2:a=i
          · subst h2
            have hsu:(if u < a then zkE g u k u b else g u b)=g u b:=by
              split
              · unfold zkE; rw[if_neg (fun h=>h.1 rfl)]
              · rfl
            rw[if_pos (show a < a+1 by omega),if_neg (Nat.lt_irrefl a),hsu]
            unfold zkE
            by_cases h3:k≤b
            · rw[if_pos ⟨rfl,h3⟩,if_pos ⟨hiu,h0,h3⟩]
            · rw[if_neg (fun h=>h3 h.2),if_neg (fun h=>h3 h.2.2)]
          · rw[if_neg (fun h=>h2 h.1)]
            have:(a < i+1)=(a < i):=by rw[eq_iff_iff]; omega
            simp only[this]) (by simp[za9])
  rw[zaI (r:=r) (c:=c) (g:=fun a b=>if a < r then zkE g u k a b else g a b) (h:=zkE g u k) (fun a b h _=>if_pos h)] at key
  refine (congrArg (fun x=>Option.bind x _) (Eq.trans ?_ key)).trans ?_
  · rw[zaI (r:=r) (c:=c) (g:=fun a b=>if a < 0 then zkE g u k a b else g a b) (h:=g) (fun a b _ _=>if_neg (by omega))]; rfl
  · rfl
end
/-! ### Rounds -/
structure ES where
  g:Nat→Nat→Option Rat
  pv:List Int
  fs:List (Option Rat)
def zsY (r c:Nat) (g:Nat→Nat→Option Rat):Bool:=(grid r c g).all Option.isSome
theorem zd3 {r c:Nat} {g:Nat→Nat→Option Rat}:zsY r c g=true↔∀ i k,i < r→k < c→(g i k).isSome=true:=by
  unfold zsY
  rw[List.all_eq_true]
  constructor
  · intro h i k hi hk; exact h _ (List.mem_of_getElem? (zwM g hi hk))
  · intro h o ho
    obtain ⟨i,k,hi,hk,rfl⟩:=zwL ho
    exact h i k hi hk
def zkz (r c k:Nat) (s:ES):Option ES :=
  if s.pv.length < r then
    let p:=zku s.g k (r - s.pv.length) s.pv.length
    if p=r then some s else
      let g1:=swp s.g p s.pv.length
      let g2:=dvd g1 s.pv.length k
      let g3:=clr g2 s.pv.length k
      cond (zsY r c g2 && zsY r c g3) (some ⟨g3,s.pv++[(k:Int)],(s.fs++if p≠s.pv.length then [some (-1)] else [])++[g1 s.pv.length k]⟩) none
  else some s
def elim (r c:Nat) (g:Nat→Nat→Option Rat):Nat→Option ES
  | 0=>some ⟨g,[],[]⟩
  | k+1=>(elim r c g k).bind (zkz r c k)
structure EInv (r c k:Nat) (s:ES):Prop where
  good:zgD r c s.g
  used:s.pv.length≤r
  few:s.pv.length≤k
  zero:∀ i j,s.pv.length≤i→i < r→j < k→j < c→s.g i j=some 0
  fsok:∀ o∈s.fs,Oks o
  fsall:∀ o∈s.fs,o.isSome=true
  fslen:s.fs.length≤2 * k
theorem zkU {y:Rat} (hy:y≠0):divO (some 0) (some y)=some 0:=by
  show (if y=0 then none else chk (0 / y))=_
  rw[if_neg hy,Rat.div_def,Rat.zero_mul,zgz ziX]
theorem zsg {y:Rat} (hy:y≠0):divO (some y) (some y)=some 1:=by
  show (if y=0 then none else chk (y / y))=_
  rw[if_neg hy,Rat.div_def,Rat.mul_inv_cancel _ hy,zgz zEb]
theorem zwz {o:Option Rat} (h:Oks o):zms o (some 1)=o:=by
  cases o with
  | none=>rfl
  | some q =>
    show chk (q * 1)=some q
    rw[Rat.mul_one,zgz (h q rfl)]
theorem zq0 {x:Rat}:zpA (some x) (some x)=some 0:=by
  show chk (x + -x)=some 0
  rw[← Rat.sub_eq_add_neg,Rat.sub_self,zgz ziX]
theorem zmY {o:Option Rat} (h:Oks o):zpA o (some 0)=o:=by
  cases o with
  | none=>rfl
  | some q =>
    show chk (q + -0)=some q
    rw[show (-0:Rat)=0 from rfl,Rat.add_zero,zgz (h q rfl)]
section
variable {r c:Nat} {g:Nat→Nat→Option Rat} {k u p:Nat}
theorem zmy (hg:zgD r c g) (hp:p < r) (hu:u < r):zgD r c (swp g p u):=fun i k hi hk=>by
  unfold swp
  split
  · exact hg u k hu hk
  · split
    · exact hg p k hp hk
    · exact hg i k hi hk
theorem zmx (hu:u < r) (hp:p < r) (hup:u≤p) (hz:∀ i j,u≤i→i < r→j < k→j < c→g i j=some 0):∀ i j,u≤i→i < r→j < k→j < c→swp g p u i j=some 0:=fun i j h1 h2 h3 h4=>by
  unfold swp
  split
  · exact hz u j (Nat.le_refl u) hu h3 h4
  · split
    · exact hz p j hup hp h3 h4
    · exact hz i j h1 h2 h3 h4
theorem zuj (hg:zgD r c g) {a b:Nat} (ha:a < r) (hb:b < c):Oks (dvd g u k a b):=by
  unfold dvd
  split
  · exact zF6
  · exact (hg a b ha hb).1
theorem zB4 (h:∀ i k,i < r→k < c→Oks (g i k)) {a b:Nat} (ha:a < r) (hb:b < c):Oks (clr g u k a b):=by
  unfold clr
  split
  · rename_i e; subst e; exact h _ b ha hb
  · split
    · exact h a b ha hb
    · exact zwt
theorem zG0 (hk:k < c) (hz:∀ j,j < k→g u j=some 0) {y:Rat} (hy:g u k=some y) (h0:y≠0) (a b:Nat) :
    (if a=u∧k≤b then divO (g u b) (g u k) else g a b)=dvd g u k a b:=by
  unfold dvd
  by_cases h1:a=u
  · subst h1
    rw[if_pos rfl]
    by_cases h2:k≤b
    · rw[if_pos ⟨rfl,h2⟩]
    · rw[if_neg (fun h=>h2 h.2),hz b (by omega),hy,zkU h0]
  · rw[if_neg (fun h=>h1 h.1),if_neg h1]
theorem zFU (hg:∀ i j,i < r→j < c→Oks (g i j)) (hall:∀ i j,i < r→j < c→(g i j).isSome=true) (hu:u < r) (hk:k < c) (hz:∀ j,j < k→g u j=some 0) {a b:Nat} (ha:a < r) (hb:b < c) :
    zkE g u k a b=clr g u k a b:=by
  unfold zkE clr
  by_cases h1:a=u
  · rw[if_neg (fun h=>h.1 h1),if_pos h1,h1]
  · rw [if_neg h1]
    have hn:g a k≠none:=fun h=>by have:=hall a k ha hk; rw[h] at this; cases this
    by_cases h2:g a k=some 0
    · rw[if_neg (fun h=>h.2.1 (.inl h2)),if_pos h2]
    · rw [if_neg h2]
      have h3:¬ (g a k=some 0∨g a k=none):=by rintro (h | h); exact h2 h; exact hn h
      have hz0:g u b=some 0→zpA (g a b) (zms (g a k) (g u b))=g a b:=fun e=>by
        obtain ⟨x,hx⟩:=Option.ne_none_iff_exists'.1 hn
        rw[e,hx,zkk,zmY (hg a b ha hb)]
      by_cases h4:k≤b
      · rw[if_pos ⟨h1,h3,h4⟩]
        unfold zmz
        have hnu:g u b≠none:=fun h=>by have:=hall u b hu hb; rw[h] at this; cases this
        by_cases h5:g u b=some 0
        · rw[if_pos (.inl h5),hz0 h5]
        · rw[if_neg (by rintro (h | h); exact h5 h; exact hnu h)]
      · rw[if_neg (fun h=>h4 h.2.2),hz0 (hz b (by omega))]
theorem step_inv {s s':ES} (h:EInv r c k s) (hk:k < c) (e:zkz r c k s=some s'):EInv r c (k+1) s':=by
  unfold zkz at e
  split at e
  · rename_i hur
    obtain ⟨pl,ph⟩:=znl s.g k (r - s.pv.length) s.pv.length
    generalize hpe:zku s.g k (r - s.pv.length) s.pv.length=p at *
    simp only at e
    split at e
    · rename_i hpr
      injection e with e; subst e
      refine ⟨h.good,h.used,by have:=h.few; omega,fun i j h1 h2 h3 h4=>?_,h.fsok,h.fsall,by have:=h.fslen; omega⟩
      by_cases hj:j=k
      · subst hj; exact znj s.g j _ _ i h1 (by rw[hpe]; omega)
      · exact h.zero i j h1 h2 (by omega) h4
    · rename_i hpr
      have hp:p < r:=by omega
      have hne:s.g p k≠some 0:=by rw[← hpe]; exact znk s.g k _ _ (by rw[hpe]; omega)
      have g1:=zmy (u:=s.pv.length) h.good hp hur
      have z1:=zmx (c:=c) hur hp pl h.zero
      have e1:swp s.g p s.pv.length s.pv.length k=s.g p k:=by
        unfold swp
        split
        · rename_i e; rw[e]
        · rw[if_pos rfl]
      generalize swp s.g p s.pv.length=gg at *
      generalize hu:s.pv.length=u at *
      cases hall:(zsY r c (dvd gg u k) && zsY r c (clr (dvd gg u k) u k)) with
      | false=>rw[hall] at e; cases e
      | true =>
        rw[hall] at e
        injection e with e; subst e
        rw[Bool.and_eq_true] at hall
        have a2:=zd3.1 hall.1
        have a3:=zd3.1 hall.2
        have o2:∀ i j,i < r→j < c→Oks (dvd gg u k i j):=fun i j hi hj=>zuj g1 hi hj
        obtain ⟨y,hy⟩:=Option.isSome_iff_exists.1 (g1 u k hur hk).2
        have hy0:y≠0:=fun e0=>hne (by rw[← e1,hy,e0])
        have hzu:∀ j,j < k→dvd gg u k u j=some 0:=fun j hj=>by
          unfold dvd; rw[if_pos rfl,z1 u j (Nat.le_refl u) hur hj (by omega),hy,zkU hy0]
        have hone:dvd gg u k u k=some 1:=by unfold dvd; rw[if_pos rfl,hy,zsg hy0]
        refine ⟨fun i j hi hj=>⟨zB4 o2 hi hj,a3 i j hi hj⟩,?_,?_,fun i j h1 h2 h3 h4=>?_,fun o ho=>?_,fun o ho=>?_,?_⟩
        · simp[hu]; omega
        · have:=h.few; simp[hu] at this ⊢; omega
        · simp only[List.length_append,List.length_singleton,hu] at h1
          show clr (dvd gg u k) u k i j=some 0
          have hd:dvd gg u k i j=gg i j:=by unfold dvd; rw[if_neg (by omega)]
          have hdk:dvd gg u k i k=gg i k:=by unfold dvd; rw[if_neg (by omega)]
          unfold clr
          rw[if_neg (by omega),hd,hdk]
          obtain ⟨x,hx⟩:=Option.isSome_iff_exists.1 (g1 i k h2 hk).2
          by_cases hj:j=k
          · subst hj
            split
            · assumption
            · rw[hone,hx,zwz ((g1 i j h2 hk).1 |> fun h=>by rw[hx] at h; exact h),zq0]
          · rw[z1 i j (by omega) h2 (by omega) h4,hzu j (by omega)]
            split
            · rfl
            · rw[hx,zkk]; exact zmY ziX.ok
        · rcases List.mem_append.1 ho with ho | ho
          · rcases List.mem_append.1 ho with ho | ho
            · exact h.fsok o ho
            · split at ho
              · rw[List.mem_singleton.1 ho]
                have:=zvo (n := -1) (by omega) (by omega)
                exact (show Fit (-1:Rat) by simpa using this).ok
              · cases ho
          · rw[List.mem_singleton.1 ho]; exact (g1 u k hur hk).1
        · rcases List.mem_append.1 ho with ho | ho
          · rcases List.mem_append.1 ho with ho | ho
            · exact h.fsall o ho
            · split at ho
              · rw[List.mem_singleton.1 ho]; rfl
              · cases ho
          · rw[List.mem_singleton.1 ho]; exact (g1 u k hur hk).2
        · have:=h.fslen
          have:(if p≠u then [some (-1:Rat)] else []).length≤1:=by split<;>simp
          simp only[List.length_append,List.length_singleton]; omega
  · rename_i hur
    injection e with e; subst e
    refine ⟨h.good,h.used,by have:=h.few; omega,fun i j h1 h2 h3 h4=>by omega,h.fsok,h.fsall,by have:=h.fslen; omega⟩
theorem zmS (hg:zgD r c g):∀ {k:Nat} {s:ES},k≤c→elim r c g k=some s→EInv r c k s:=by
  intro k
  induction k with
  | zero =>
    intro s _ e
    injection e with e; subst e
    exact ⟨hg,Nat.zero_le _,Nat.le_refl _,fun i j _ _ h _=>by omega,fun o ho=>(by cases ho),fun o ho=>(by cases ho),Nat.le_refl _⟩
  | succ k ih =>
    intro s hk e
    unfold elim at e
    cases h0:elim r c g k with
    | none=>rw[h0] at e; cases e
    | some s0 =>
      rw[h0] at e
      exact step_inv (ih (by omega) h0) (by omega) e
end
end Go.Di
namespace Go.Di
section
variable {r c:Nat} {g:Nat→Nat→Option Rat} {k:Nat}
def sst (r c k:Nat) (s:ES):Int × Int × Int × (List Rt) × (List Int) × (List Rt) × Unit:=((k:Int),(r:Int),(c:Int),(grid r c s.g).map ro,s.pv,s.fs.map ro,())
theorem spec_step {s:ES} (hr:r≤24) (hc:c≤200) (h:EInv r c k s) (hk:k < c) (hur:s.pv.length < r) :
    (∃ s',zkz r c k s=some s'∧zaA (sst r c k s)=some (.inl (sst r c (k+1) s'))) ∨
    (zkz r c k s=none∧∃ lo pv fs,lo.length=r * c∧lo.all Option.isSome=false∧zaA (sst r c k s)=some (.inr (.inl (List.map ro lo,pv,fs,())))):=by
  unfold zkz
  rw[if_pos hur]
  obtain ⟨pl,ph⟩:=znl s.g k (r - s.pv.length) s.pv.length
  have hfind:=sel_find (u:=s.pv.length) hr hc h.good hk (Nat.le_of_lt hur) s.pv.length s.pv (s.fs.map ro)
  have hne:zku s.g k (r - s.pv.length) s.pv.length < s.pv.length+(r - s.pv.length)→s.g (zku s.g k (r - s.pv.length) s.pv.length) k≠some 0:=znk s.g k _ _
  generalize zku s.g k (r - s.pv.length) s.pv.length=p at *
  simp only
  have hdec:decide ((s.pv.length:Int) < (r:Int))=true:=decide_eq_true (by omega)
  have fl1:zak (Nat.ble ((s.fs.map ro).length+1) zan)=some ():=zmr (by rw[List.length_map]; have:=h.fslen; omega)
  have fl2:zak (Nat.ble ((s.fs.map ro++[ro (some (-1))]).length+1) zan)=some ():=zmr (by rw[List.length_append,List.length_map]; have:=h.fslen; simp; omega)
  have pl1:zak (Nat.ble (s.pv.length+1) zan)=some ():=zmr (by omega)
  by_cases hpr:p=r
  · subst hpr
    left
    rw[if_pos rfl]
    refine ⟨s,rfl,?_⟩
    unfold sst
    simp only[zaA,dlt hk,cond_true,hdec,hfind,Option.bind_some,beq_self_eq_true,zar hk (show c≤1048576 by omega)]
  · rw [if_neg hpr]
    have hp:p < r:=by omega
    have hne:=hne (by omega)
    have g1:=zmy (u:=s.pv.length) h.good hp hur
    have z1:=zmx (c:=c) hur hp pl h.zero
    have e1:swp s.g p s.pv.length s.pv.length k=s.g p k:=by
      unfold swp
      split
      · rename_i e; rw[e]
      · rw[if_pos rfl]
    have hself:p=s.pv.length→swp s.g p s.pv.length=s.g:=fun e=>by
      subst e; funext a b; unfold swp; split
      · rename_i h; rw[h]
      · rfl
    have hsw:=sel_swap (g:=s.g) (r:=r) (c:=c) hr hc hp hur (k:Int) s.pv (s.fs.map ro++[ro (some (-1))])
    generalize swp s.g p s.pv.length=gg at *
    obtain ⟨y,hy⟩:=Option.isSome_iff_exists.1 (g1 s.pv.length k hur hk).2
    have hy0:y≠0:=fun e0=>hne (by rw[← e1,hy,e0])
    have hbeq:((p:Int)==(r:Int))=false:=by rw[beq_eq_false_iff_ne]; omega
    have hat:=zil (r:=r) (c:=c) (g:=gg) (x:=(r:Int)) (show r≤1000 by omega) (show c≤1000 by omega) hur hk
    have hdivl:∀ fs:List Rt,L_spec_l07Reduce_m_3 k s.pv.length k r c ((grid r c gg).map ro) (ro (gg s.pv.length k)).neg (ro (gg s.pv.length k)).mag (ro (gg s.pv.length k)).den fs s.pv=some ((k:Int),(s.pv.length:Int),(r:Int),(c:Int),(grid r c (dvd gg s.pv.length k)).map ro,fs,s.pv,()):=fun fs=>by
      rw[sel_div hr hc g1 hk hur]
      rw[zaI (r:=r) (c:=c) (h:=dvd gg s.pv.length k) (fun a b _ _=>zG0 hk (fun j hj=>z1 _ j (Nat.le_refl _) hur hj (by omega)) hy hy0 a b)]
    have o2:∀ i j,i < r→j < c→Oks (dvd gg s.pv.length k i j):=fun i j hi hj=>zuj g1 hi hj
    have hcl:=sel_clear (g:=dvd gg s.pv.length k) hr hc o2 hur hk
    have hfine:=zm2 (l:=grid r c (zkE (dvd gg s.pv.length k) s.pv.length k)) (by rw[zbz]; have:r * c≤24 * 200:=Nat.mul_le_mul hr hc; omega)
    -- what is put at the end of the factors
    have hS:zaA (sst r c k s)=cond (!(grid r c (zkE (dvd gg s.pv.length k) s.pv.length k)).all Option.isSome)
        (some (.inr (.inl ((grid r c (zkE (dvd gg s.pv.length k) s.pv.length k)).map ro,s.pv++[(k:Int)],((s.fs++if p≠s.pv.length then [some (-1)] else [])++[gg s.pv.length k]).map ro,()))))
        (some (.inl (((k+1:Nat):Int),(r:Int),(c:Int),(grid r c (zkE (dvd gg s.pv.length k) s.pv.length k)).map ro,s.pv++[(k:Int)],((s.fs++if p≠s.pv.length then [some (-1)] else [])++[gg s.pv.length k]).map ro,()))):=by
      by_cases hpu:p=s.pv.length
      · have hbne:((p:Int) != (s.pv.length:Int))=false:=by rw[hpu]; simp
        rw[if_neg (fun h=>h hpu),List.append_nil,List.map_append,List.map_singleton]
        have hg:=hself hpu
        unfold sst
        simp only[zaA,dlt hk,cond_true,hdec,hfind,Option.bind_some,hbeq,cond_false,hbne]
        rw[← hg]
        simp only[hat,Option.bind_some,fl1,hdivl,hcl,pl1,hfine,zar hk (show c≤1048576 by omega)]
      · have hbne:((p:Int) != (s.pv.length:Int))=true:=by
          rw[bne_iff_ne]; omega
        have hm1:zba (-1)=some (ro (some (-1))):=by
          have:=zke (n := -1) (by omega) (by omega)
          rw[this]; simp
        rw[if_pos hpu,List.map_append,List.map_append,List.map_singleton,List.map_singleton]
        unfold sst
        simp only[zaA,dlt hk,cond_true,hdec,hfind,Option.bind_some,hbeq,cond_false,hbne,hm1,fl1,hsw,hat,fl2,hdivl,hcl,pl1,hfine,zar hk (show c≤1048576 by omega)]
    cases h2:zsY r c (dvd gg s.pv.length k) with
    | false =>
      right
      refine ⟨by rw[Bool.false_and]; rfl,?_⟩
      have hbad:(grid r c (zkE (dvd gg s.pv.length k) s.pv.length k)).all Option.isSome=false:=by
        rw[← Bool.not_eq_true]
        intro ha
        have ha:=zd3.1 ha
        rw[← Bool.not_eq_true] at h2
        apply h2
        rw[zd3]
        intro i j hi hj
        by_cases hiu:i=s.pv.length
        · have:=ha i j hi hj
          unfold zkE at this
          rw[if_neg (fun h=>h.1 hiu)] at this
          exact this
        · unfold dvd; rw[if_neg hiu]; exact (g1 i j hi hj).2
      rw[hbad] at hS
      exact ⟨_,_,_,zbz ..,hbad,hS⟩
    | true =>
      have a2:=zd3.1 h2
      have hzu:∀ j,j < k→dvd gg s.pv.length k s.pv.length j=some 0:=fun j hj=>by
        unfold dvd; rw[if_pos rfl,z1 _ j (Nat.le_refl _) hur hj (by omega),hy,zkU hy0]
      have hcc:grid r c (zkE (dvd gg s.pv.length k) s.pv.length k)=grid r c (clr (dvd gg s.pv.length k) s.pv.length k):=zaI fun a b ha hb=>zFU o2 a2 hur hk hzu ha hb
      rw[hcc] at hS
      rw[Bool.true_and]
      cases h3:zsY r c (clr (dvd gg s.pv.length k) s.pv.length k) with
      | false =>
        right
        have h3':(grid r c (clr (dvd gg s.pv.length k) s.pv.length k)).all Option.isSome=false:=h3
        rw[h3'] at hS
        exact ⟨rfl,_,_,_,zbz ..,h3',hS⟩
      | true =>
        left
        have h3':(grid r c (clr (dvd gg s.pv.length k) s.pv.length k)).all Option.isSome=true:=h3
        rw[h3'] at hS
        exact ⟨_,rfl,hS⟩
theorem znU {k0:Nat} {s:ES} (h:elim r c g k0=some s) (hu:¬ s.pv.length < r):∀ j,elim r c g (k0+j)=some s
  | 0=>h
  | j+1=>by
    show (elim r c g (k0+j)).bind _=_
    rw[znU h hu j]
    show zkz r c (k0+j) s=some s
    unfold zkz; rw[if_neg hu]
theorem elim_none {k0:Nat} (h:elim r c g k0=none):∀ j,elim r c g (k0+j)=none
  | 0=>h
  | j+1=>by
    show (elim r c g (k0+j)).bind _=_
    rw[elim_none h j]; rfl
theorem zBa (hr:r≤24) (hc:c≤200) (hg:zgD r c g):∀ n k s,k+n=c→elim r c g k=some s →
    (∃ f,elim r c g c=some f∧whileO zaA (sst r c k s)=some (.inr ((grid r c f.g).map ro,f.pv,f.fs.map ro,()))) ∨
    (elim r c g c=none∧∃ lo pv fs,lo.length=r * c∧lo.all Option.isSome=false∧whileO zaA (sst r c k s)=some (.inl (List.map ro lo,pv,fs,()))):=by
  intro n
  induction n with
  | zero =>
    intro k s hk e
    have:k=c:=by omega
    subst this
    left
    refine ⟨s,e,zaz ?_⟩
    unfold sst
    simp[zaA]
  | succ n ih =>
    intro k s hk e
    have hkc:k < c:=by omega
    have hi:=zmS hg (Nat.le_of_lt hkc) e
    by_cases hu:s.pv.length < r
    · rcases spec_step hr hc hi hkc hu with ⟨s',e1,e2⟩ | ⟨e1,lo,pv,fs,l1,l2,e2⟩
      · rw[zbd e2]
        exact ih (k+1) s' (by omega) (by unfold elim; rw[e]; exact e1)
      · right
        refine ⟨?_,lo,pv,fs,l1,l2,zaz e2⟩
        have:elim r c g (k+1)=none:=by unfold elim; rw[e]; exact e1
        have:=elim_none this n
        rw[show k+1+n=c by omega] at this
        exact this
    · left
      have:=znU e hu (n+1)
      rw[hk] at this
      refine ⟨s,this,zaz ?_⟩
      unfold sst
      simp only[zaA,dlt hkc,cond_true,decide_eq_false (show ¬ (s.pv.length:Int) < (r:Int) by omega),cond_false]
theorem ztX (hr:r≤24) (hc:c≤200) (hg:zgD r c g) :
    (∃ f,elim r c g c=some f∧za0 ⟨r,c,(grid r c g).map ro⟩=some (f.pv,f.fs.map ro,(grid r c f.g).map ro)) ∨
    (elim r c g c=none∧∃ lo pv fs,lo.length=r * c∧lo.all Option.isSome=false∧za0 ⟨r,c,(grid r c g).map ro⟩=some (pv,fs,List.map ro lo)):=by
  rcases zBa hr hc hg c 0 ⟨g,[],[]⟩ (by omega) rfl with ⟨f,e1,e2⟩ | ⟨e1,lo,pv,fs,l1,l2,e2⟩
  · left
    refine ⟨f,e1,?_⟩
    unfold za0 zdT
    exact congrArg (fun x=>Option.bind x _) e2
  · right
    refine ⟨e1,lo,pv,fs,l1,l2,?_⟩
    unfold za0 zdT
    exact congrArg (fun x=>Option.bind x _) e2
end
end Go.Di
namespace Go.Di
def rv (o:Option Rat):Rat:=o.getD 0
section
variable {r c k:Nat}
theorem zyP {s s':ES} (h:EInv r c k s) (hk:k < c) (e:zkz r c k s=some s') :
    (s'=s∧∀ i,s.pv.length≤i→i < r→s.g i k=some 0) ∨
    ∃ p,s.pv.length≤p∧p < r∧s.pv.length < r∧s.g p k≠some 0∧(∀ i,s.pv.length≤i→i < p→s.g i k=some 0)∧(∀ i j,i < r→j < c→(dvd (swp s.g p s.pv.length) s.pv.length k i j).isSome=true) ∧
      (∀ i j,i < r→j < c→(clr (dvd (swp s.g p s.pv.length) s.pv.length k) s.pv.length k i j).isSome=true) ∧
      s'=⟨clr (dvd (swp s.g p s.pv.length) s.pv.length k) s.pv.length k,s.pv++[(k:Int)],(s.fs++if p≠s.pv.length then [some (-1)] else [])++[swp s.g p s.pv.length s.pv.length k]⟩:=by
  unfold zkz at e
  split at e
  · rename_i hur
    obtain ⟨pl,ph⟩:=znl s.g k (r - s.pv.length) s.pv.length
    have hz:=znj s.g k (r - s.pv.length) s.pv.length
    have hne:=znk s.g k (r - s.pv.length) s.pv.length
    generalize zku s.g k (r - s.pv.length) s.pv.length=p at *
    simp only at e
    split at e
    · rename_i hpr
      injection e with e
      exact .inl ⟨e.symm,fun i h1 h2=>hz i h1 (by omega)⟩
    · rename_i hpr
      cases hall:(zsY r c (dvd (swp s.g p s.pv.length) s.pv.length k) && zsY r c (clr (dvd (swp s.g p s.pv.length) s.pv.length k) s.pv.length k)) with
      | false=>rw[hall] at e; cases e
      | true =>
        rw[hall] at e
        injection e with e
        rw[Bool.and_eq_true] at hall
        exact .inr ⟨p,pl,by omega,hur,hne (by omega),hz,zd3.1 hall.1,zd3.1 hall.2,e.symm⟩
  · injection e with e
    exact .inl ⟨e.symm,fun i h1 h2=>by omega⟩
/-! ### The reduced form -/
def piv (s:ES) (t:Nat):Nat:=((s.pv[t]?).getD 0).toNat
structure RInv (r c k:Nat) (s:ES):Prop where
  val:∀ t,t < s.pv.length→s.pv[t]? = some ((piv s t:Nat):Int)
  lt:∀ t,t < s.pv.length→piv s t < k
  asc:∀ t t',t < t'→t' < s.pv.length→piv s t < piv s t'
  unit:∀ t i,t < s.pv.length→i < r→s.g i (piv s t)=if i=t then some 1 else some 0
  lead:∀ t j,t < s.pv.length→j < piv s t→s.g t j=some 0
theorem zBP {s s':ES} (h:EInv r c k s) (hR:RInv r c k s) (hk:k < c) (e:zkz r c k s=some s'):RInv r c (k+1) s':=by
  rcases zyP h hk e with ⟨rfl,_⟩ | ⟨p,h1,h2,h3,h4,h5,h6,h7,rfl⟩
  · exact ⟨hR.val,fun t ht=>by have:=hR.lt t ht; omega,hR.asc,hR.unit,hR.lead⟩
  · have hg1:∀ t,t < s.pv.length→∀ j,swp s.g p s.pv.length t j=s.g t j:=fun t ht j=>by
      unfold swp; rw[if_neg (by omega),if_neg (by omega)]
    have g1:=zmy (u:=s.pv.length) h.good h2 h3
    have z1:=zmx (c:=c) h3 h2 h1 h.zero
    have hpk:swp s.g p s.pv.length s.pv.length k≠some 0:=by
      unfold swp
      split
      · rename_i e; rw[e]; exact h4
      · rw[if_pos rfl]; exact h4
    -- columns of earlier pivots behind the exchange
    have u1:∀ t i,t < s.pv.length→i < r→swp s.g p s.pv.length i (piv s t)=if i=t then some 1 else some 0:=fun t i ht hi=>by
      unfold swp
      split
      · rename_i e; rw[hR.unit t _ ht h3,if_neg (by omega),if_neg (by omega)]
      · split
        · rw[hR.unit t _ ht h2,if_neg (by omega),if_neg (by omega)]
        · exact hR.unit t i ht hi
    have hu:=h3
    generalize swp s.g p s.pv.length=gg at *
    obtain ⟨y,hy⟩:=Option.isSome_iff_exists.1 (g1 s.pv.length k hu hk).2
    have hy0:y≠0:=fun e0=>hpk (by rw[hy,e0])
    have hzu:∀ j,j < k→dvd gg s.pv.length k s.pv.length j=some 0:=fun j hj=>by
      unfold dvd; rw[if_pos rfl,z1 _ j (Nat.le_refl _) hu hj (by omega),hy,zkU hy0]
    have hone:dvd gg s.pv.length k s.pv.length k=some 1:=by unfold dvd; rw[if_pos rfl,hy,zsg hy0]
    have dother:∀ i j,i≠s.pv.length→dvd gg s.pv.length k i j=gg i j:=fun i j hi=>by unfold dvd; rw[if_neg hi]
    -- numbers left of column k stay, in rows other than the new one
    have cleft:∀ i j,i < r→i≠s.pv.length→j < k→clr (dvd gg s.pv.length k) s.pv.length k i j=gg i j:=fun i j hi hne hj=>by
      unfold clr
      rw[if_neg hne,dother i k hne,dother i j hne,hzu j hj]
      split
      · rfl
      · obtain ⟨x,hx⟩:=Option.isSome_iff_exists.1 (g1 i k hi hk).2
        rw[hx,zkk,zmY (g1 i j hi (by omega)).1]
    have ccol:∀ i,i < r→clr (dvd gg s.pv.length k) s.pv.length k i k=if i=s.pv.length then some 1 else some 0:=fun i hi=>by
      unfold clr
      by_cases hne:i=s.pv.length
      · rw[if_pos hne,if_pos hne,hone]
      · rw[if_neg hne,if_neg hne,dother i k hne,hone]
        obtain ⟨x,hx⟩:=Option.isSome_iff_exists.1 (g1 i k hi hk).2
        split
        · assumption
        · rw[hx,zwz ((g1 i k hi hk).1 |> fun h=>by rw[hx] at h; exact h),zq0]
    have crow:∀ j,clr (dvd gg s.pv.length k) s.pv.length k s.pv.length j=dvd gg s.pv.length k s.pv.length j:=fun j=>by unfold clr; rw[if_pos rfl]
    have hpold:∀ t,t < s.pv.length→piv ⟨clr (dvd gg s.pv.length k) s.pv.length k,s.pv++[(k:Int)],(s.fs++if p≠s.pv.length then [some (-1)] else [])++[gg s.pv.length k]⟩ t=piv s t:=fun t ht=>by
      unfold piv; simp only; rw[List.getElem?_append_left ht]
    have hpnew:piv ⟨clr (dvd gg s.pv.length k) s.pv.length k,s.pv++[(k:Int)],(s.fs++if p≠s.pv.length then [some (-1)] else [])++[gg s.pv.length k]⟩ s.pv.length=k:=by
      unfold piv; simp only; rw[List.getElem?_append_right (Nat.le_refl _),Nat.sub_self]; simp
    have hlen:(s.pv++[(k:Int)]).length=s.pv.length+1:=by simp
    refine ⟨fun t ht=>?_,fun t ht=>?_,fun t t' htt ht'=>?_,fun t i ht hi=>?_,fun t j ht hj=>?_⟩
    · simp only[hlen] at ht
      by_cases h8:t < s.pv.length
      · rw[hpold t h8]; simp only; rw[List.getElem?_append_left h8]; exact hR.val t h8
      · have:t=s.pv.length:=by omega
        subst this
        rw[hpnew]; simp only; rw[List.getElem?_append_right (Nat.le_refl _),Nat.sub_self]; rfl
    · simp only[hlen] at ht
      by_cases h8:t < s.pv.length
      · rw[hpold t h8]; have:=hR.lt t h8; omega
      · have:t=s.pv.length:=by omega
        subst this
        rw[hpnew]; omega
    · simp only[hlen] at ht'
      rw[hpold t (by omega)]
      by_cases h8:t' < s.pv.length
      · rw[hpold t' h8]; exact hR.asc t t' htt h8
      · have:t'=s.pv.length:=by omega
        subst this
        rw[hpnew]; exact hR.lt t (by omega)
    · simp only[hlen] at ht
      by_cases h8:t < s.pv.length
      · rw[hpold t h8]
        have hlt:=hR.lt t h8
        show clr (dvd gg s.pv.length k) s.pv.length k i (piv s t)=_
        by_cases hne:i=s.pv.length
        · rw[hne,crow,hzu _ hlt,if_neg (by omega)]
        · rw[cleft i _ hi hne hlt]; exact u1 t i h8 hi
      · have:t=s.pv.length:=by omega
        subst this
        rw[hpnew]; exact ccol i hi
    · simp only[hlen] at ht
      by_cases h8:t < s.pv.length
      · rw[hpold t h8] at hj
        have hlt:=hR.lt t h8
        show clr (dvd gg s.pv.length k) s.pv.length k t j=_
        rw[cleft t j (by omega) (by omega) (by omega),hg1 t h8]
        exact hR.lead t j h8 hj
      · have:t=s.pv.length:=by omega
        subst this
        rw[hpnew] at hj
        show clr (dvd gg s.pv.length k) s.pv.length k s.pv.length j=_
        rw[crow,hzu j hj]
theorem zEm {g:Nat→Nat→Option Rat} (hg:zgD r c g):∀ {k:Nat} {s:ES},k≤c→elim r c g k=some s→RInv r c k s:=by
  intro k
  induction k with
  | zero =>
    intro s _ e
    injection e with e; subst e
    exact ⟨fun t h=>by simp at h,fun t h=>by simp at h,fun t t' _ h=>by simp at h,fun t i h _=>by simp at h,fun t j h _=>by simp at h⟩
  | succ k ih =>
    intro s hk e
    unfold elim at e
    cases h0:elim r c g k with
    | none=>rw[h0] at e; cases e
    | some s0 =>
      rw[h0] at e
      exact zBP (zmS hg (by omega) h0) (ih (by omega) h0) (by omega) e
end
end Go.Di
namespace Go.Di
theorem ztR (o:Option Rat):zdK (ro o)=some (decide (o=some 0∨o=none)):=zrk o
theorem zwk {r c:Nat} {xs:List Rt} (hr:r≤24) (hc:c≤200) (hl:xs.length=r * c) {i:Nat} (hi:i < r) (x:Int) :
    zaK ⟨x,c,xs⟩ i=some ((i * c,c),xs):=by
  have h1:i * c≤24 * 200:=Nat.mul_le_mul (by omega) hc
  have h2:(i+1) * c≤24 * 200:=Nat.mul_le_mul (by omega) hc
  have h3:(i+1) * c≤r * c:=Nat.mul_le_mul_right c hi
  have e1:IntKind.i64.wrap ((i:Int) * (c:Int))=((i * c:Nat):Int):=by
    rw[show ((i:Int) * (c:Int))=((i * c:Nat):Int) by simp]; exact wrap_i64 (by omega) (by omega)
  have e0:IntKind.i64.wrap ((i:Int)+1)=((i+1:Nat):Int):=by
    rw[wrap_i64 (by omega) (by omega)]; omega
  have e2:IntKind.i64.wrap (((i+1:Nat):Int) * (c:Int))=(((i+1) * c:Nat):Int):=by
    rw[show (((i+1:Nat):Int) * (c:Int))=(((i+1) * c:Nat):Int) by simp]; exact wrap_i64 (by omega) (by omega)
  have h4:(i+1) * c=i * c+c:=by rw[Nat.add_mul,Nat.one_mul]
  unfold zaK
  simp only[e0,e1,e2,Int.toNat_natCast]
  have hin:inside xs.length (((i * c:Nat):Int),(((i+1) * c:Nat):Int))=true:=by
    unfold inside
    simp only[Bool.and_eq_true,decide_eq_true_iff]
    omega
  rw[hin,show (i+1) * c - i * c=c by omega]; rfl
theorem zMz {α:Type} {xs:List α} {lo len k:Nat} (hk:k < len) (h:lo+len≤xs.length):idx (cut xs lo (lo+len)) (k:Int)=xs[lo+k]? := by
  rw[zht]; unfold cut
  rw[List.getElem?_drop,List.getElem?_take_of_lt (by omega)]
theorem zgl {r c:Nat} {g:Nat→Nat→Option Rat} {i k:Nat} (hi:i < r) (hk:k < c):idx (cut ((grid r c g).map ro) (i * c) (i * c+c)) (k:Int)=some (ro (g i k)):=by
  rw[zMz hk (by rw[List.length_map,zbz,← Nat.succ_mul]; exact Nat.mul_le_mul_right c hi),ze4 hi hk]
theorem zLh {r c:Nat} {g:Nat→Nat→Option Rat} {i:Nat} (hi:i < r):cut ((grid r c g).map ro) (i * c) (i * c+c)=((List.range c).map (g i)).map ro:=by
  apply List.ext_getElem?
  intro k
  by_cases hk:k < c
  · have h1:=zgl (g:=g) hi hk
    rw[zht] at h1
    rw[h1]
    simp[hk]
  · rw[List.getElem?_eq_none,List.getElem?_eq_none]
    · simp; omega
    · unfold cut; simp; omega
theorem zBN {r c:Nat} {g:Nat→Nat→Option Rat} {i:Nat} (hi:i < r) (hc:c≤200):za5 (cut ((grid r c g).map ro) (i * c) (i * c+c))=some (((List.range c).map (g i)).all Option.isSome):=by
  rw[zLh hi,zpZ (by simp; omega)]
section
variable {r c:Nat} {g:Nat→Nat→Option Rat} {k u:Nat}
theorem iel_find (hr:r≤24) (hc:c≤200) (hg:zgD r c g) (hk:k < c) (hu:u≤r) (n v v1 v5 v6:Int) (v2 v4 fs:List Rt) (v3 pv:List Int) :
    zeM n k u v v1 v2 v3 v4 v5 v6 r c ((grid r c g).map ro) pv fs=some (n,(k:Int),((zku g k (r - u) u:Nat):Int),v,v1,v2,v3,v4,v5,v6,(r:Int),(c:Int),(grid r c g).map ro,pv,fs,()):=by
  unfold zeM
  have key : ∀ s i,i+s=r→whileO zca (n,(k:Int),(i:Int),v,v1,v2,v3,v4,v5,v6,(r:Int),(c:Int),(grid r c g).map ro,pv,fs,())=some (n,(k:Int),((zku g k s i:Nat):Int),v,v1,v2,v3,v4,v5,v6,(r:Int),(c:Int),(grid r c g).map ro,pv,fs,()):=by
    intro s
    induction s with
    | zero =>
      intro i hi
      apply zaz
      simp[zca,zku,show i=r by omega]
    | succ s ih =>
      intro i hi
      have hir:i < r:=by omega
      by_cases h0:g i k=some 0
      · rw [zbd (y:=(n,(k:Int),((i+1:Nat):Int),v,v1,v2,v3,v4,v5,v6,(r:Int),(c:Int),(grid r c g).map ro,pv,fs,()))]
        · rw[ih (i+1) (by omega),zku,if_pos h0]
        · simp only[zca,dlt hir,cond_true,zyz (show r≤1000 by omega) (show c≤1000 by omega) hir hk,Option.bind_some,ztR,h0,zar hir (show r≤1048576 by omega)]
          simp
      · apply zaz
        have hsm:=(hg i k hir hk).2
        have hn:¬ (g i k=some 0∨g i k=none):=by
          rintro (h | h)
          · exact h0 h
          · rw[h] at hsm; cases hsm
        simp only[zca,dlt hir,cond_true,zyz (show r≤1000 by omega) (show c≤1000 by omega) hir hk,Option.bind_some,ztR,decide_eq_false hn,cond_false,zku,if_neg h0]
  exact key (r - u) u (by omega)
theorem iel_swap (hc:c≤200) {p:Nat} (hp:p < r) (hu:u < r) (n k0 v v1 v5 v6:Int) (v2 v4 fs:List Rt) (v3 pv:List Int) :
    L_impl_reduce_2 n k0 (p * c) c (u * c) c c 0 v v1 v2 v3 v4 v5 v6 r c ((grid r c g).map ro) fs pv =
      some (n,k0,v,v1,v2,v3,v4,v5,v6,(r:Int),(c:Int),(grid r c (swp g p u)).map ro,fs,pv,()):=by
  unfold L_impl_reduce_2
  have key := whileO_upto zcO (fun j=>(n,k0,p * c,c,u * c,c,(c:Int),(j:Int),v,v1,v2,v3,v4,v5,v6,(r:Int),(c:Int),(grid r c (fun a b=>if b < j then swp g p u a b else g a b)).map ro,fs,pv,())) c
    (n, k0, v,v1,v2,v3,v4,v5,v6,(r:Int),(c:Int),(grid r c (fun a b=>if b < c then swp g p u a b else g a b)).map ro,fs,pv,()) (fun j hj=>by
      have s1:=zgh (r:=r) (c:=c) (g:=fun a b=>if b < j then swp g p u a b else g a b) (h:=fun a b=>if a=p∧b=j then g u j else if b < j then swp g p u a b else g a b) (o:=g u j) hp hj (fun a b _ _=>rfl)
      have s2:=zgh (r:=r) (c:=c) (g:=fun a b=>if a=p∧b=j then g u j else if b < j then swp g p u a b else g a b) (h:=fun a b=>if b < j+1 then swp g p u a b else g a b) (o:=g p j) hu hj (fun a b _ _=>by
        unfold swp
        by_cases hb:b=j
        · subst hb
          by_cases h1:a=u
          · subst h1
            by_cases h2:a=p
            · subst h2; simp
            · simp[h2]
          · by_cases h2:a=p
            · subst h2; simp[h1]
            · simp[h1,h2]
        · have:(b < j+1)=(b < j):=by rw[eq_iff_iff]; omega
          simp[hb,this])
      simp only[zcO,dlt hj,cond_true,zgl hp hj,zgl hu hj,Int.toNat_natCast,ze4 hp hj,ze4 hu hj,Option.bind_some,Nat.lt_irrefl,if_false,s1,s2,zar hj (show c≤1048576 by omega)]) (by simp[zcO])
  refine Eq.trans ?_ (key.trans ?_)
  · rw[zaI (r:=r) (c:=c) (g:=fun a b=>if b < 0 then swp g p u a b else g a b) (h:=g) (fun a b _ _=>by simp)]; rfl
  · rw[zaI (r:=r) (c:=c) (g:=fun a b=>if b < c then swp g p u a b else g a b) (h:=swp g p u) (fun a b _ hb=>by simp[hb])]
theorem iel_div (hc:c≤200) (hg:zgD r c g) (hk:k < c) (hu:u < r) (n k0 v v1 v5 v6:Int) (v2 v4 fs:List Rt) (v3 pv:List Int) :
    L_impl_reduce_3 n k0 (u * c) c c 0 v v1 v2 v3 v4 v5 v6 r c (ro (g u k)).neg (ro (g u k)).mag (ro (g u k)).den ((grid r c g).map ro) fs pv =
      some (n,k0,u * c,c,v,v1,v2,v3,v4,v5,v6,(r:Int),(c:Int),(grid r c (dvd g u k)).map ro,fs,pv,()):=by
  unfold L_impl_reduce_3
  have key := whileO_upto zcN (fun j=>(n,k0,u * c,c,(c:Int),(j:Int),v,v1,v2,v3,v4,v5,v6,(r:Int),(c:Int),(ro (g u k)).neg,(ro (g u k)).mag,(ro (g u k)).den,(grid r c (fun a b=>if b < j then dvd g u k a b else g a b)).map ro,fs,pv,())) c
    (n, k0,u * c,c,v,v1,v2,v3,v4,v5,v6,(r:Int),(c:Int),(grid r c (fun a b=>if b < c then dvd g u k a b else g a b)).map ro,fs,pv,()) (fun j hj=>by
      have s1:=zgh (r:=r) (c:=c) (g:=fun a b=>if b < j then dvd g u k a b else g a b) (h:=fun a b=>if b < j+1 then dvd g u k a b else g a b) (o:=divO (g u j) (g u k)) hu hj (fun a b _ _=>by
        unfold dvd
        by_cases hb:b=j
        · subst hb
          by_cases h1:a=u
          · subst h1; simp
          · simp[h1]
        · have:(b < j+1)=(b < j):=by rw[eq_iff_iff]; omega
          simp[hb,this])
      have hd:=impl_divO (hg u j hu hj).1 (hg u k hu hk).1
      simp only[zcN,dlt hj,cond_true,zgl hu hj,Int.toNat_natCast,ze4 hu hj,Option.bind_some,Nat.lt_irrefl,if_false]
      show ((zfN (ro (g u j)) (ro (g u k))).bind _)=_
      simp only[hd,Option.bind_some,s1,zar hj (show c≤1048576 by omega)]) (by simp[zcN])
  refine Eq.trans ?_ (key.trans ?_)
  · rw[zaI (r:=r) (c:=c) (g:=fun a b=>if b < 0 then dvd g u k a b else g a b) (h:=g) (fun a b _ _=>by simp)]; rfl
  · rw[zaI (r:=r) (c:=c) (g:=fun a b=>if b < c then dvd g u k a b else g a b) (h:=dvd g u k) (fun a b _ hb=>by simp[hb])]
theorem iel_clear1 (hc:c≤200) (hg:∀ i k,i < r→k < c→Oks (g i k)) {i:Nat} (hi:i < r) (hu:u < r) (hiu:i≠u) {f:Option Rat} (hf:Oks f) (n k0 t t1 v v1 v5 v6:Int) (v2 v4 fs:List Rt) (v3 pv:List Int) :
    L_impl_reduce_5 n k0 (u * c) c (i * c) c t t1 c 0 v v1 v2 v3 v4 v5 v6 r c (ro f).neg (ro f).mag (ro f).den ((grid r c g).map ro) fs pv =
      some (n,k0,u * c,c,i * c,c,t,t1,v,v1,v2,v3,v4,v5,v6,(r:Int),(c:Int),(grid r c (fun a b=>if a=i then zpA (g i b) (zms f (g u b)) else g a b)).map ro,fs,pv,()):=by
  unfold L_impl_reduce_5
  have key := whileO_upto zcL (fun j=>(n,k0,u * c,c,i * c,c,t,t1,(c:Int),(j:Int),v,v1,v2,v3,v4,v5,v6,(r:Int),(c:Int),(ro f).neg,(ro f).mag,(ro f).den,(grid r c (fun a b=>if a=i∧b < j then zpA (g i b) (zms f (g u b)) else g a b)).map ro,fs,pv,())) c
    (n, k0,u * c,c,i * c,c,t,t1,v,v1,v2,v3,v4,v5,v6,(r:Int),(c:Int),(grid r c (fun a b=>if a=i∧b < c then zpA (g i b) (zms f (g u b)) else g a b)).map ro,fs,pv,()) (fun j hj=>by
      have s1:=zgh (r:=r) (c:=c) (g:=fun a b=>if a=i∧b < j then zpA (g i b) (zms f (g u b)) else g a b) (h:=fun a b=>if a=i∧b < j+1 then zpA (g i b) (zms f (g u b)) else g a b) (o:=zpA (g i j) (zms f (g u j))) hi hj (fun a b _ _=>by
        by_cases hb:b=j
        · subst hb
          by_cases h1:a=i
          · subst h1; simp
          · simp[h1]
        · have:(b < j+1)=(b < j):=by rw[eq_iff_iff]; omega
          simp[hb,this])
      have hui:u≠i:=fun e=>hiu e.symm
      simp only[zcL,dlt hj,cond_true,zgl hu hj,zgl hi hj,Int.toNat_natCast,ze4 hu hj,ze4 hi hj,Option.bind_some,Nat.lt_irrefl,and_false,if_false,hui,false_and]
      show ((zeb (ro f) (ro (g u j))).bind _)=_
      simp only[zDW hf (hg u j hu hj),Option.bind_some,zDV (hg i j hi hj) (zww (o:=f) (p:=g u j)),s1,zar hj (show c≤1048576 by omega)]) (by simp[zcL])
  refine Eq.trans ?_ (key.trans ?_)
  · rw[zaI (r:=r) (c:=c) (g:=fun a b=>if a=i∧b < 0 then zpA (g i b) (zms f (g u b)) else g a b) (h:=g) (fun a b _ _=>by simp)]; rfl
  · rw[zaI (r:=r) (c:=c) (g:=fun a b=>if a=i∧b < c then zpA (g i b) (zms f (g u b)) else g a b) (h:=fun a b=>if a=i then zpA (g i b) (zms f (g u b)) else g a b) (fun a b _ hb=>by simp[hb])]
def rowB (c:Nat) (g:Nat→Nat→Option Rat) (i:Nat):Bool:=((List.range c).map (g i)).all Option.isSome
theorem zmF {i:Nat}:rowB c g i=true↔∀ j,j < c→(g i j).isSome=true:=by
  unfold rowB
  rw[List.all_eq_true]
  constructor
  · intro h j hj; exact h _ (List.mem_map.2 ⟨j,List.mem_range.2 hj,rfl⟩)
  · intro h o ho; obtain ⟨j,hj,rfl⟩:=List.mem_map.1 ho; exact h j (List.mem_range.1 hj)
theorem zBL:(List.range r).all (rowB c g)=zsY r c g:=by
  rw[Bool.eq_iff_iff,List.all_eq_true,zd3]
  constructor
  · intro h i j hi hj; exact zmF.1 (h i (List.mem_range.2 hi)) j hj
  · intro h i hi; exact zmF.2 fun j hj=>h i j (List.mem_range.1 hi) hj
theorem iel_clear (hr:r≤24) (hc:c≤200) (hg:∀ i k,i < r→k < c→Oks (g i k)) (hall:∀ i k,i < r→k < c→(g i k).isSome=true) (hu:u < r) (hk:k < c) (v v1 v5 v6:Int) (v2 v4 fs:List Rt) (v3 pv:List Int) :
    L_impl_reduce_4 u k (u * c) c r 0 v v1 v2 v3 v4 v5 v6 r c ((grid r c g).map ro) fs pv =
      some (cond (zsY r c (clr g u k)) (.inr ((u:Int),(k:Int),v,v1,v2,v3,v4,v5,v6,(r:Int),(c:Int),(grid r c (clr g u k)).map ro,fs,pv,())) (.inl (false,0,0,[],[],[],()))):=by
  unfold L_impl_reduce_4
  rw[← zBL]
  have hgi:∀ i,clr g u k i=(fun b=>clr g u k i b):=fun _=>rfl
  have key := stop_loop (S:=zcM) (fun i=>((u:Int),(k:Int),u * c,c,(r:Int),(i:Int),v,v1,v2,v3,v4,v5,v6,(r:Int),(c:Int),(grid r c (fun a b=>if a < i then clr g u k a b else g a b)).map ro,fs,pv,())) r (rowB c (clr g u k))
    (.inl (false,0,0,[],[],[],())) (.inr ((u:Int),(k:Int),v,v1,v2,v3,v4,v5,v6,(r:Int),(c:Int),(grid r c (clr g u k)).map ro,fs,pv,())) (fun i hi _=>by
      have same:(∀ b,clr g u k i b=g i b)→grid r c (fun a b=>if a < i+1 then clr g u k a b else g a b)=grid r c (fun a b=>if a < i then clr g u k a b else g a b):=fun h=>zaI fun a b _ _=>by
        by_cases h1:a < i
        · rw[if_pos h1,if_pos (by omega)]
        · rw[if_neg h1]
          by_cases h2:a=i
          · subst h2; rw[if_pos (by omega),h]
          · rw[if_neg (by omega)]
      have whole:(∀ b,clr g u k i b=g i b)→rowB c (clr g u k) i=true:=fun h=>zmF.2 fun j hj=>by rw[h]; exact hall i j hi hj
      have hrow:=zwk (xs:=(grid r c (fun a b=>if a < i then clr g u k a b else g a b)).map ro) hr hc (by rw[List.length_map,zbz]) hi r
      simp only[zcM,dlt hi,cond_true,hrow,Option.bind_some]
      by_cases hiu:i=u
      · subst hiu
        have e:∀ b,clr g i k i b=g i b:=fun b=>by unfold clr; rw[if_pos rfl]
        rw[same e,whole e]
        simp only[beq_self_eq_true,cond_true,zar hi (show r≤1048576 by omega)]
      · have hb : ((i:Int)==(u:Int))=false:=by
          rw[beq_eq_false_iff_ne]; omega
        have hui:(if u < i then clr g u k u k else g u k)=g u k:=by
          split
          · unfold clr; rw[if_pos rfl]
          · rfl
        have gk:idx (cut ((grid r c (fun a b=>if a < i then clr g u k a b else g a b)).map ro) (i * c) (i * c+c)) (k:Int)=some (ro (g i k)):=by
          rw[zgl hi hk,if_neg (Nat.lt_irrefl i)]
        have gg:((grid r c (fun a b=>if a < i then clr g u k a b else g a b)).map ro)[i * c+k]? = some (ro (g i k)):=by
          rw[ze4 hi hk,if_neg (Nat.lt_irrefl i)]
        simp only[hb,cond_false,gk,Int.toNat_natCast,gg,Option.bind_some,ztR]
        have hnn:g i k≠none:=fun e=>by have:=hall i k hi hk; rw[e] at this; cases this
        by_cases h0:g i k=some 0
        · have e:∀ b,clr g u k i b=g i b:=fun b=>by unfold clr; rw[if_neg hiu,if_pos h0]
          rw[decide_eq_true (.inl h0),cond_true,same e,whole e]
          simp only[cond_true,zar hi (show r≤1048576 by omega)]
        · rw [decide_eq_false (by rintro (h | h); exact h0 h; exact hnn h),cond_false]
          have h1:=iel_clear1 (u:=u) (g:=fun a b=>if a < i then clr g u k a b else g a b) hc (fun a b h1 h2=>by
            show Oks (if a < i then clr g u k a b else g a b)
            split
            · exact zB4 hg h1 h2
            · exact hg a b h1 h2) hi hu hiu (hg i k hi hk) u k r i v v1 v5 v6 v2 v4 fs v3 pv
          have hgrid:grid r c (fun a b=>if a=i then zpA (if i < i then clr g u k i b else g i b) (zms (g i k) (if u < i then clr g u k u b else g u b)) else if a < i then clr g u k a b else g a b)=grid r c (fun a b=>if a < i+1 then clr g u k a b else g a b):=zaI fun a b _ _=>by
            by_cases h2:a=i
            · subst h2
              have hsu:(if u < a then clr g u k u b else g u b)=g u b:=by
                split
                · unfold clr; rw[if_pos rfl]
                · rfl
              rw[if_pos rfl,if_pos (show a < a+1 by omega),if_neg (Nat.lt_irrefl a),hsu]
              unfold clr; rw[if_neg hiu,if_neg h0]
            · rw[if_neg h2]
              have:(a < i+1)=(a < i):=by rw[eq_iff_iff]; omega
              simp only[this]
          rw[hgrid] at h1
          rw[h1]
          simp only[Option.bind_some]
          rw[zBN hi hc]
          have hrb:(((List.range c).map fun b=>if i < i+1 then clr g u k i b else g i b).all Option.isSome)=rowB c (clr g u k) i:=by
            unfold rowB; congr 2; funext b; rw[if_pos (by omega)]
          rw[hrb,Option.bind_some]
          cases rowB c (clr g u k) i with
          | false=>rfl
          | true=>simp only[Bool.not_true,cond_false,cond_true,zar hi (show r≤1048576 by omega)]) (fun _=>by
      have e:grid r c (fun a b=>if a < r then clr g u k a b else g a b)=grid r c (clr g u k):=zaI fun a b h _=>if_pos h
      simp[zcM,e])
  refine Eq.trans ?_ key
  rw[zaI (r:=r) (c:=c) (g:=fun a b=>if a < 0 then clr g u k a b else g a b) (h:=g) (fun a b _ _=>if_neg (by omega))]; rfl
end
end Go.Di
namespace Go.Di
theorem zP1 {x:Option Int} {left:Int} {n:Nat} {k:Int→Option Bool} (h:SzR x left n) (hk:∀ r:Int,0≤r→r+n=left→k r=some true) :
    (x.bind fun r=>cond (decide (r < 0)) (some true) (k r))=some true:=by
  rcases h with rfl | ⟨r,h0,h1,rfl⟩
  · rfl
  · have:decide (r < 0)=false:=by simpa using h0
    simp only[Option.bind_some,this,cond_false,hk r h0 h1]
end Go.Di
namespace Go.Di
end Go.Di
namespace Go.Di
section
variable {r c:Nat} {g:Nat→Nat→Option Rat} {k:Nat}
def ist (r c k:Nat) (s:ES):Int × Int × Int × Int × (List Rt) × (List Int) × (List Rt) × Int × Int × Int × Int × (List Rt) × (List Int) × (List Rt) × Unit :=
  ((s.pv.length:Int),(k:Int),0,0,[],[],[],(r:Int),(c:Int),(r:Int),(c:Int),(grid r c s.g).map ro,s.pv,s.fs.map ro,())
theorem impl_step {s:ES} (hr:r≤24) (hc:c≤200) (h:EInv r c k s) (hk:k < c) (hur:s.pv.length < r) :
    (∃ s',zkz r c k s=some s'∧zaM (ist r c k s)=some (.inl (ist r c (k+1) s'))) ∨
    (zkz r c k s=none∧zaM (ist r c k s)=some (.inr (.inl (false,0,0,[],[],[],())))):=by
  unfold zkz
  rw[if_pos hur]
  obtain ⟨pl,ph⟩:=znl s.g k (r - s.pv.length) s.pv.length
  have hfind:=iel_find (u:=s.pv.length) hr hc h.good hk (Nat.le_of_lt hur) s.pv.length 0 0 r c [] [] (s.fs.map ro) [] s.pv
  have hne:zku s.g k (r - s.pv.length) s.pv.length < s.pv.length+(r - s.pv.length)→s.g (zku s.g k (r - s.pv.length) s.pv.length) k≠some 0:=znk s.g k _ _
  generalize zku s.g k (r - s.pv.length) s.pv.length=p at *
  simp only
  have hdec:decide ((s.pv.length:Int) < (r:Int))=true:=decide_eq_true (by omega)
  have fl1:zak (Nat.ble ((s.fs.map ro).length+1) zan)=some ():=zmr (by rw[List.length_map]; have:=h.fslen; omega)
  have fl2:zak (Nat.ble ((s.fs.map ro++[ro (some (-1))]).length+1) zan)=some ():=zmr (by rw[List.length_append,List.length_map]; have:=h.fslen; simp; omega)
  have pl1:zak (Nat.ble (s.pv.length+1) zan)=some ():=zmr (by omega)
  by_cases hpr:p=r
  · subst hpr
    left
    rw[if_pos rfl]
    refine ⟨s,rfl,?_⟩
    unfold ist
    simp only[zaM,dlt hk,cond_true,hdec,hfind,Option.bind_some,beq_self_eq_true,zar hk (show c≤1048576 by omega)]
  · rw [if_neg hpr]
    have hp:p < r:=by omega
    have hne:=hne (by omega)
    have g1:=zmy (u:=s.pv.length) h.good hp hur
    have z1:=zmx (c:=c) hur hp pl h.zero
    have e1:swp s.g p s.pv.length s.pv.length k=s.g p k:=by
      unfold swp
      split
      · rename_i e; rw[e]
      · rw[if_pos rfl]
    have hself:p=s.pv.length→swp s.g p s.pv.length=s.g:=fun e=>by
      subst e; funext a b; unfold swp; split
      · rename_i h; rw[h]
      · rfl
    have hsw:=iel_swap (g:=s.g) (r:=r) (c:=c) hc hp hur s.pv.length k 0 0 r c [] [] (s.fs.map ro++[ro (some (-1))]) [] s.pv
    have hrow1:=zwk (xs:=(grid r c s.g).map ro) hr hc (by rw[List.length_map,zbz]) hp r
    have hrow2:=zwk (xs:=(grid r c s.g).map ro) hr hc (by rw[List.length_map,zbz]) hur r
    generalize swp s.g p s.pv.length=gg at *
    obtain ⟨y,hy⟩:=Option.isSome_iff_exists.1 (g1 s.pv.length k hur hk).2
    have hy0:y≠0:=fun e0=>hne (by rw[← e1,hy,e0])
    have hbeq:((p:Int)==(r:Int))=false:=by rw[beq_eq_false_iff_ne]; omega
    have hrow3:=zwk (xs:=(grid r c gg).map ro) hr hc (by rw[List.length_map,zbz]) hur r
    have hat1:=zgl (r:=r) (c:=c) (g:=gg) hur hk
    have hat2:=ze4 (r:=r) (c:=c) (g:=gg) hur hk
    have hdivl:=fun fs=>iel_div (r:=r) (c:=c) (g:=gg) hc g1 hk hur s.pv.length k 0 0 r c [] [] fs [] s.pv
    have o2:∀ i j,i < r→j < c→Oks (dvd gg s.pv.length k i j):=fun i j hi hj=>zuj g1 hi hj
    have hrowc:=zBN (r:=r) (c:=c) (g:=dvd gg s.pv.length k) hur hc
    have htop:(((List.range c).map (dvd gg s.pv.length k s.pv.length)).all Option.isSome)=zsY r c (dvd gg s.pv.length k):=by
      rw[Bool.eq_iff_iff,zd3]
      have hb:=zmF (c:=c) (g:=dvd gg s.pv.length k) (i:=s.pv.length)
      refine hb.trans ⟨fun ha i j hi hj=>?_,fun ha j hj=>ha _ j hur hj⟩
      by_cases hiu:i=s.pv.length
      · rw[hiu]; exact ha j hj
      · unfold dvd; rw[if_neg hiu]; exact (g1 i j hi hj).2
    rw[htop] at hrowc
    have hS:zaM (ist r c k s)=cond (!zsY r c (dvd gg s.pv.length k)) (some (.inr (.inl (false,0,0,[],[],[],()))))
        ((L_impl_reduce_4 s.pv.length k (s.pv.length * c) c r 0 0 0 [] [] [] r c r c ((grid r c (dvd gg s.pv.length k)).map ro) (((s.fs++if p≠s.pv.length then [some (-1)] else [])++[gg s.pv.length k]).map ro) s.pv).bind fun r1 =>
        match r1 with
        | .inl (t,v27,v28,v29,v30,v31,_)=>some (.inr (.inl (t,v27,v28,v29,v30,v31,())))
        | .inr (used3,c3,v32,v33,v34,v35,v36,v37,v38,v39,v40,xs9,xs10,xs11,_) =>
          (zak (Nat.ble (xs11.length+1) zan)).bind fun _ =>
          some (.inl (IntKind.i64.wrap (used3+1),IntKind.i64.wrap (c3+1),v32,v33,v34,v35,v36,v37,v38,v39,v40,xs9,xs11++([c3]:List Int),xs10,()))):=by
      by_cases hpu:p=s.pv.length
      · have hbne:((p:Int) != (s.pv.length:Int))=false:=by rw[hpu]; simp
        rw[if_neg (fun h=>h hpu),List.append_nil,List.map_append,List.map_singleton]
        have hg:=hself hpu
        unfold ist
        simp only[zaM,dlt hk,cond_true,hdec,hfind,Option.bind_some,hbeq,cond_false,hbne]
        rw[← hg]
        simp only[hrow3,hat1,hat2,Int.toNat_natCast,Option.bind_some,fl1,hdivl,hrowc]
        rfl
      · have hbne:((p:Int) != (s.pv.length:Int))=true:=by
          rw[bne_iff_ne]; omega
        have hm1:zbL (-1)=some (ro (some (-1))):=by
          have:=zlg (n := -1) (by omega) (by omega)
          rw[this]; simp
        rw[if_pos hpu,List.map_append,List.map_append,List.map_singleton,List.map_singleton]
        unfold ist
        simp only[zaM,dlt hk,cond_true,hdec,hfind,Option.bind_some,hbeq,cond_false,hbne,hm1,fl1,hrow1,hrow2,hsw,hrow3,hat1,hat2,Int.toNat_natCast,fl2,hdivl,hrowc]
        rfl
    cases h2:zsY r c (dvd gg s.pv.length k) with
    | false =>
      right
      rw[h2] at hS
      exact ⟨by rw[Bool.false_and]; rfl,hS⟩
    | true =>
      have a2:=zd3.1 h2
      rw[h2] at hS
      have hcl:=iel_clear (g:=dvd gg s.pv.length k) hr hc o2 a2 hur hk 0 0 r c [] [] (((s.fs++if p≠s.pv.length then [some (-1)] else [])++[gg s.pv.length k]).map ro) [] s.pv
      rw[hcl] at hS
      rw[Bool.true_and]
      cases h3:zsY r c (clr (dvd gg s.pv.length k) s.pv.length k) with
      | false =>
        right
        rw[h3] at hS
        exact ⟨rfl,hS⟩
      | true =>
        left
        rw[h3] at hS
        refine ⟨_,rfl,hS.trans ?_⟩
        unfold ist
        simp only[Bool.not_true,cond_false,cond_true,Option.bind_some,pl1,zar hur (show r≤1048576 by omega),zar hk (show c≤1048576 by omega),List.length_append,List.length_singleton]
theorem zDZ (hr:r≤24) (hc:c≤200) (hg:zgD r c g):∀ n k s,k+n=c→elim r c g k=some s →
    (∃ f,elim r c g c=some f∧whileO zaM (ist r c k s)=some (.inr (0,0,[],[],[],(r:Int),(c:Int),(grid r c f.g).map ro,f.pv,f.fs.map ro,()))) ∨
    (elim r c g c=none∧whileO zaM (ist r c k s)=some (.inl (false,0,0,[],[],[],()))):=by
  intro n
  induction n with
  | zero =>
    intro k s hk e
    have:k=c:=by omega
    subst this
    left
    refine ⟨s,e,zaz ?_⟩
    unfold ist
    simp[zaM]
  | succ n ih =>
    intro k s hk e
    have hkc:k < c:=by omega
    have hi:=zmS hg (Nat.le_of_lt hkc) e
    by_cases hu:s.pv.length < r
    · rcases impl_step hr hc hi hkc hu with ⟨s',e1,e2⟩ | ⟨e1,e2⟩
      · rw[zbd e2]
        exact ih (k+1) s' (by omega) (by unfold elim; rw[e]; exact e1)
      · right
        refine ⟨?_,zaz e2⟩
        have:elim r c g (k+1)=none:=by unfold elim; rw[e]; exact e1
        have:=elim_none this n
        rw[show k+1+n=c by omega] at this
        exact this
    · left
      have:=znU e hu (n+1)
      rw[hk] at this
      refine ⟨s,this,zaz ?_⟩
      unfold ist
      simp only[zaM,dlt hkc,cond_true,decide_eq_false (show ¬ (s.pv.length:Int) < (r:Int) by omega),cond_false]
theorem znC (hr:r≤24) (hc:c≤200) (hg:zgD r c g) :
    (∃ f,elim r c g c=some f∧zbX ⟨r,c,(grid r c g).map ro⟩=some (⟨r,c,(grid r c f.g).map ro,f.pv,f.fs.map ro⟩,true)) ∨
    (elim r c g c=none∧zbX ⟨r,c,(grid r c g).map ro⟩=some (⟨0,0,[],[],[]⟩,false)):=by
  have hcp:zb7 ((grid r c g).map ro)=some ((grid r c g).map ro):=zrZ (by
    have:r * c≤24 * 200:=Nat.mul_le_mul hr hc
    refine ⟨by rw[List.length_map,zbz]; omega,fun x hx=>?_⟩
    obtain ⟨o,ho,rfl⟩:=List.mem_map.1 hx
    obtain ⟨i,j,hi,hj,rfl⟩:=zwL ho
    exact zKl (hg i j hi hj).1)
  rcases zDZ hr hc hg c 0 ⟨g,[],[]⟩ (by omega) rfl with ⟨f,e1,e2⟩ | ⟨e1,e2⟩
  · left
    refine ⟨f,e1,?_⟩
    unfold zbX zeN
    rw[hcp,Option.bind_some]
    exact congrArg (fun x=>Option.bind x _) e2
  · right
    refine ⟨e1,?_⟩
    unfold zbX zeN
    rw[hcp,Option.bind_some]
    exact congrArg (fun x=>Option.bind x _) e2
end
def gof (q:List Rat) (c:Nat):Nat→Nat→Option Rat:=fun i k=>q[i * c+k]?
theorem zGS {q:List Rat} {r c:Nat} (hl:q.length=r * c):(grid r c (gof q c)).map ro=q.map rq:=by
  rw[zLg]
  congr 1
  apply List.ext_getElem?
  intro j
  by_cases hj:j < r * c
  · obtain ⟨h1,h2,h3⟩:=znW hj
    rw[zlj _ hj]
    unfold gof
    rw[h3,List.getElem?_map]
    have:j < q.length:=by omega
    simp[this]
  · rw[List.getElem?_eq_none (by rw[zbz]; omega),List.getElem?_eq_none (by rw[List.length_map]; omega)]
theorem zwO {q:List Rat} {r c:Nat} (hl:q.length=r * c) (hf:Fits q):zgD r c (gof q c):=fun i k hi hk=>by
  have h:i * c+k < q.length:=by rw[hl]; exact zFf hi hk
  unfold gof
  exact ⟨hf.get _,by simp[h]⟩
end Go.Di
namespace Go.Di
end Go.Di
namespace Go.Di
def Cur.ok (c:Cur):Prop:=0≤c.i∧c.i≤(c.b.length:Int)∧c.b.length≤1048576
/-! ### Bounds of a fraction's parts -/
def Bd (q:Rat) (n d:Nat):Prop:=q.num.natAbs≤n∧q.den≤d
theorem Bd.mono {q:Rat} {n d m e:Nat} (h:Bd q n d) (h1:n≤m) (h2:d≤e):Bd q m e:=⟨Nat.le_trans h.1 h1,Nat.le_trans h.2 h2⟩
theorem zQZ {z:Int} {d:Nat} (hd:d≠0):Bd (mkRat z d) z.natAbs d:=by
  refine ⟨?_,?_⟩
  · rw[zCd z hd]; exact Nat.div_le_self _ _
  · rw[(zkM z hd).2]; exact Nat.div_le_self _ _
theorem zOQ (n:Int):Bd (n:Rat) n.natAbs 1:=⟨by rw[Rat.num_intCast]; exact Nat.le_refl _,by rw[Rat.den_intCast]; exact Nat.le_refl _⟩
theorem zOP {a b:Rat} {n d m e:Nat} (h:Bd a n d) (k:Bd b m e):Bd (a * b) (n * m) (d * e):=by
  rw[← zCa]
  refine (zQZ (Nat.mul_ne_zero a.den_nz b.den_nz)).mono ?_ (Nat.mul_le_mul h.2 k.2)
  rw[Int.natAbs_mul]; exact Nat.mul_le_mul h.1 k.1
theorem Bd.fit {q:Rat} {n d:Nat} (h:Bd q n d) (h1:n≤10 ^ 200) (h2:d≤10 ^ 200):Fit q:=by
  have e:((10 ^ 200:Nat):Int) < bp 24:=by decide
  exact ⟨zfe.2 (Int.lt_of_le_of_lt (Int.ofNat_le.2 (Nat.le_trans h.1 h1)) e),zfe.2 (Int.lt_of_le_of_lt (Int.ofNat_le.2 (Nat.le_trans h.2 h2)) e)⟩
end Go.Di
namespace Go.Di
end Go.Di
namespace Go.Di
end Go.Di
namespace Go.Di
/-! ### Marks -/
def wS (s:Sta):Nat:=4+s.x.mag.length+s.x.den.length+s.y.mag.length+s.y.den.length
structure Sfit (l:List Sta):Prop where
  fit:zmJ Sta.fit l
  few:ws wS l≤1000000000
/-! ### Lists whose first elements are changed -/
/-! ### Copies -/
/-! ### Sums -/
/-! ### Shifted networks -/
/-! ### Moved networks -/
end Go.Di
namespace Go.Di
end Go.Di
namespace Go.Di
/-! ### Vectors drawn from bytes -/
def Small (q:List Rat):Prop:=∀ x∈q,Bd x 20 6
theorem Small.fits {q:List Rat} (h:Small q):Fits q:=fun x hx=>(h x hx).fit (by decide) (by decide)
theorem zFE {k:Nat} (hk:k≤24):zcX (k:Int)=some ((List.replicate k (0:Rat)).map rq):=by
  unfold zcX zgf
  rw[decide_eq_false (show ¬ (k:Int) < 0 by omega),decide_eq_false (show ¬ (k:Int) > 24 by omega)]
  simp only[cond_false]
  have key:=zmW (S:=zbv) (fun i out=>((k:Int),i,out,())) (fun _=>rq 0) k (r:=fun out=>(out,())) (fun i out hi ho=>by
    simp only[zbv,dlt hi,cond_true,zyL,Option.bind_some,zmr (show out.length≤2000000 by omega),zar hi (show k≤1048576 by omega)]
    rfl) (fun out _=>by simp[zbv])
  refine (congrArg (fun x=>Option.bind x _) key).trans ?_
  show some ((List.range k).map fun _=>rq 0)=_
  congr 1
  apply List.ext_getElem?
  intro j
  by_cases hj:j < k
  · simp[hj,List.getElem?_replicate]
  · simp[hj,List.getElem?_replicate]
/-! ### Networks drawn from bytes -/
end Go.Di
namespace Go.Di
def Sz (q:Rat) (k:Nat):Prop:=Bd q (10 ^ k) (10 ^ k)
theorem zwb {k m:Nat} (h:k≤m):10 ^ k≤10 ^ m:=Nat.pow_le_pow_right (by omega) h
theorem Sz.mono {q:Rat} {k m:Nat} (h:Sz q k) (hm:k≤m):Sz q m:=Bd.mono h (zwb hm) (zwb hm)
theorem Sz.fit {q:Rat} {k:Nat} (h:Sz q k) (hk:k≤200):Fit q:=Bd.fit h (zwb hk) (zwb hk)
theorem zNB {a b:Rat} {k m:Nat} (h:Sz a k) (h':Sz b m):Sz (a * b) (k+m):=by
  have:=zOP h h'
  unfold Sz; rw[Nat.pow_add]; exact this
theorem zK2:Sz 0 0:=(zOQ 0).mono (by decide) (by decide)
theorem Small.sz {q:List Rat} (h:Small q):∀ x∈q,Sz x 2:=fun x hx=>(h x hx).mono (by decide) (by decide)
def Szs (q:List Rat) (k:Nat):Prop:=∀ x∈q,Sz x k
theorem Szs.fits {q:List Rat} {k:Nat} (h:Szs q k) (hk:k≤200):Fits q:=fun x hx=>(h x hx).fit hk
theorem Szs.get {q:List Rat} {k:Nat} (h:Szs q k) (i:Nat):Sz ((q[i]?).getD 0) k:=by
  by_cases hi:i < q.length
  · rw[List.getElem?_eq_getElem hi]; exact h _ (List.getElem_mem hi)
  · rw[List.getElem?_eq_none (by omega)]; exact zK2.mono (by omega)
/-! ### Inner products that fit -/
/-! ### Products that fit -/
end Go.Di
namespace Go.Di
end Go.Di
namespace Go.Di
theorem zm3 {m:Mx} (h:zmJ Rt.fit m.cells):ze6 m=some m:=by
  unfold ze6
  rw[zq2 h]; rfl
theorem zEc {r c:Nat} {g:Nat→Nat→Option Rat} (hr:r≤24) (hc:c≤200) (h:zgD r c g):zbC ((grid r c g).map ro)=some true:=by
  have hp:r * c≤24 * 200:=Nat.mul_le_mul hr hc
  rw[zm2 (by rw[zbz]; omega)]
  congr 1
  exact zd3.2 fun i k hi hk=>(h i k hi hk).2
theorem zrd {m:Mx} {r c:Nat} {q:List Rat} (hq:MxQ m r c q) :
    (∃ f,elim r c (gof q c) c=some f∧EInv r c c f∧za0 m=some (f.pv,f.fs.map ro,(grid r c f.g).map ro)∧zbC ((grid r c f.g).map ro)=some true ∧
      zbX m=some (⟨r,c,(grid r c f.g).map ro,f.pv,f.fs.map ro⟩,true)) ∨
    (elim r c (gof q c) c=none∧(∃ pv fs cs,za0 m=some (pv,fs,cs)∧zbC cs=some false)∧zbX m=some (⟨0,0,[],[],[]⟩,false)):=by
  obtain ⟨hr,hc,hl,hf,rfl⟩:=hq
  have hg:=zwO hl hf
  have hc':c≤200:=by omega
  rw[← zGS hl]
  rcases ztX hr hc' hg with ⟨f,e1,e2⟩ | ⟨e1,lo,pv,fs,l1,l2,e2⟩
  · left
    rcases znC hr hc' hg with ⟨f',e3,e4⟩ | ⟨e3,_⟩
    · rw[e1] at e3; injection e3 with e3; subst e3
      have inv:=zmS hg (Nat.le_refl c) e1
      exact ⟨f,e1,inv,e2,zEc hr hc' inv.good,e4⟩
    · rw[e1] at e3; cases e3
  · right
    rcases znC hr hc' hg with ⟨f',e3,e4⟩ | ⟨_,e4⟩
    · rw[e1] at e3; cases e3
    · have hp:=zKs hr hc
      exact ⟨e1,⟨pv,fs,_,e2,by rw[zm2 (by rw[l1]; omega),l2]⟩,e4⟩
/-! ### Determinants -/
def zuh (l:List (Option Rat)):Nat→Option Rat
  | 0=>some 1
  | i+1=>zms (zuh l i) (l[i]?.getD none)
end Go.Di
namespace Go.Di
/-! ### Numbers that stay small enough -/
def SzG (r c:Nat) (g:Nat→Nat→Option Rat) (K:Nat):Prop:=∀ i j,i < r→j < c→∃ x,g i j=some x∧Sz x K
theorem SzG.mono {r c:Nat} {g:Nat→Nat→Option Rat} {K M:Nat} (h:SzG r c g K) (hm:K≤M):SzG r c g M:=fun i j hi hj=>by
  obtain ⟨x,e,s⟩:=h i j hi hj; exact ⟨x,e,s.mono hm⟩
theorem zK4 {x y:Rat} {K M:Nat} (hx:Sz x K) (hy:Sz y M) (hk:K+M≤200):zms (some x) (some y)=some (x * y)∧Sz (x * y) (K+M):=by
  have s:=zNB hx hy
  exact ⟨zgz (s.fit hk),s⟩
section
variable {r c k K:Nat}
theorem SzG.all {g:Nat→Nat→Option Rat} (h:SzG r c g K):zsY r c g=true:=zd3.2 fun i j hi hj=>by
  obtain ⟨x,e,_⟩:=h i j hi hj; rw[e]; rfl
theorem zBZ (l:List (Option Rat)) (o:Option Rat):zuh (l++[o]) (l.length+1)=zms (zuh l l.length) o:=by
  have : ∀ n,n≤l.length→zuh (l++[o]) n=zuh l n:=by
    intro n
    induction n with
    | zero=>intro _; rfl
    | succ n ih =>
      intro h
      show zms _ _=zms _ _
      rw[ih (by omega),List.getElem?_append_left (by omega)]
  show zms (zuh (l++[o]) l.length) _=_
  rw[this _ (Nat.le_refl _),List.getElem?_append_right (Nat.le_refl _),Nat.sub_self]; rfl
def zQ2 (fs:List (Option Rat)) (P:Nat):Prop:=∃ y,zuh fs fs.length=some y∧y≠0∧Sz y P
theorem zQ2.app {fs:List (Option Rat)} {P M:Nat} (h:zQ2 fs P) {x:Rat} (hx:Sz x M) (h0:x≠0) (hk:P+M≤200):zQ2 (fs++[some x]) (P+M):=by
  obtain ⟨y,e,y0,s⟩:=h
  obtain ⟨e2,s2⟩:=zK4 s hx hk
  refine ⟨y * x,?_,fun e0=>?_,s2⟩
  · rw[List.length_append,List.length_singleton,zBZ,e,e2]
  · rcases Rat.mul_eq_zero.1 e0 with h | h
    · exact y0 h
    · exact h0 h
/-! ### A matrix in reduced form is reduced to itself -/
structure Red (r c:Nat) (g:Nat→Nat→Option Rat) (L:Nat) (P:Nat→Nat):Prop where
  le:L≤r
  lt:∀ t,t < L→P t < c
  asc:∀ t t',t < t'→t' < L→P t < P t'
  unit:∀ t i,t < L→i < r→g i (P t)=if i=t then some 1 else some 0
  lead:∀ t j,t < L→j < P t→g t j=some 0
  rest:∀ i j,L≤i→i < r→j < c→g i j=some 0
theorem zNR {s:ES} (h:EInv r c c s) (hR:RInv r c c s):Red r c s.g s.pv.length (piv s) :=
  ⟨h.used,hR.lt,hR.asc,hR.unit,hR.lead,fun i j h1 h2 h3=>h.zero i j h1 h2 h3 h3⟩
end
end Go.Di
namespace Go.Di
end Go.Di
namespace Go.Di
end Go.Di
namespace Go.Di
end Go.Di
namespace Go.Di
theorem zyy {r c:Nat} {g:Nat→Nat→Option Rat} {i k:Nat} {x:Int} (hr:r≤1000) (hc:c≤1000) (hi:i < r) (hk:k < c) :
    zda ⟨x,c,(grid r c g).map ro⟩ i k=some (ro (g i k)):=by
  unfold zda
  simp only[zpa (show i < 1000 by omega) hc (show k < 1000 by omega),ziV hi hk,Option.bind_some]
theorem zD3 {l:List Int} (h:l.length≤1048576) (n:Int):zdL l n=some (l.any (·==n)):=by
  unfold zdL ziK
  have key:∀ s i,i+s=l.length→whileO zcc (n,l,(l.length:Int),(i:Int),())=some (cond ((l.drop i).any (·==n)) (.inl (true,())) (.inr ())):=by
    intro s
    induction s with
    | zero =>
      intro i hi
      rw[zaz (r := .inr ())]
      · rw[List.drop_eq_nil_of_le (by omega)]; rfl
      · simp[zcc,show i=l.length by omega]
    | succ s ih =>
      intro i hi
      have hil:i < l.length:=by omega
      rw[List.drop_eq_getElem_cons hil,List.any_cons]
      cases hb:(l[i]==n) with
      | true =>
        rw[zaz (r := .inl (true,()))]
        · rfl
        · simp only[zcc,dlt hil,cond_true,zaH hil,Option.bind_some,hb]
      | false =>
        rw[zbd (y:=(n,l,(l.length:Int),((i+1:Nat):Int),())),ih (i+1) (by omega)]
        · rfl
        · simp only[zcc,dlt hil,cond_true,zaH hil,Option.bind_some,hb,cond_false,zar hil h]
  have:=key l.length 0 (by omega)
  rw[List.drop_zero] at this
  refine (congrArg (fun x=>Option.bind x _) this).trans ?_
  cases l.any (·==n)<;>rfl
/-! ### The vector of a column without pivot -/
def zNt (f:ES) (c:Nat):Nat→Nat→Option Rat
  | 0,j=>if j=c then some 1 else some 0
  | i+1,j=>if j=piv f i then zLq (f.g i c) else zNt f c i j
section
variable {r c:Nat}
theorem zkH {α:Type} {n p:Nat} {h:Nat→α} {o:α} (hp:p < n):((List.range n).map h).set p o=(List.range n).map fun j=>if j=p then o else h j:=by
  apply List.ext_getElem?
  intro j
  by_cases hj:j < n
  · by_cases e:j=p
    · subst e; rw[List.getElem?_set_self (by simpa using hj)]; simp[hj]
    · rw[List.getElem?_set_ne (by omega)]; simp[hj,e]
  · rw[List.getElem?_eq_none (by simp; omega),List.getElem?_eq_none (by simp; omega)]
def nvl (f:ES) (c0 c i:Nat):List Rt:=((List.range c).map (zNt f c0 i)).map ro
theorem zy4 {f:ES} (hr:r≤24) (hc:c≤24) (hg:zgD r c f.g) (h:Red r c f.g f.pv.length (piv f)) (hval:∀ t,t < f.pv.length→f.pv[t]? = some ((piv f t:Nat):Int)) {c0:Nat} (hc0:c0 < c) (t t1 v v1 x:Int) (v2:List Rt) (out:List (List Rt)) :
    zdW f.pv c0 t t1 f.pv (f.pv.length:Int) 0 v v1 v2 x c ((grid r c f.g).map ro) (nvl f c0 c 0) out=some (f.pv,t,t1,v,v1,v2,x,(c:Int),(grid r c f.g).map ro,nvl f c0 c f.pv.length,out,()):=by
  unfold zdW
  have hL:=h.le
  exact whileO_upto zcD (fun i=>(f.pv,(c0:Int),t,t1,f.pv,(f.pv.length:Int),(i:Int),v,v1,v2,x,(c:Int),(grid r c f.g).map ro,nvl f c0 c i,out,())) f.pv.length
    (f.pv,t,t1,v,v1,v2,x,(c:Int),(grid r c f.g).map ro,nvl f c0 c f.pv.length,out,()) (fun i hi=>by
      have hpi:=h.lt i hi
      have e1:idx f.pv (i:Int)=some ((piv f i:Nat):Int):=by rw[zht]; exact hval i hi
      have hlen:piv f i < (nvl f c0 c i).length:=by unfold nvl; simpa using hpi
      have e2:idx (nvl f c0 c i) ((piv f i:Nat):Int)=some (nvl f c0 c i)[piv f i]:=zaH hlen
      have e3:(nvl f c0 c i)[piv f i]? = some (nvl f c0 c i)[piv f i]:=List.getElem?_eq_getElem hlen
      have e4:(nvl f c0 c i).set (piv f i) (ro (zLq (f.g i c0)))=nvl f c0 c (i+1):=by
        unfold nvl
        rw[← List.map_set,zkH hpi]; rfl
      simp only[zcD,dlt hi,cond_true,e1,Option.bind_some,zyy (show r≤1000 by omega) (show c≤1000 by omega) (show i < r by omega) hc0,zrX (hg i c0 (by omega) hc0).1,e2,Int.toNat_natCast,e3,e4,zar hi (show f.pv.length≤1048576 by omega)]) (by simp[zcD])
def freeL (f:ES) (n:Nat):List Nat:=(List.range n).filter fun c0=>!(f.pv.any (·==(c0:Int)))
theorem zo2 (f:ES) (n:Nat):freeL f (n+1)=freeL f n++cond (f.pv.any (·==(n:Int))) [] [n]:=by
  unfold freeL
  rw[List.range_succ,List.filter_append]
  cases hb:f.pv.any (·==(n:Int))<;>simp[hb]
theorem null_vectors {f:ES} (hr:r≤24) (hc:c≤24) (hg:zgD r c f.g) (h:Red r c f.g f.pv.length (piv f)) (hval:∀ t,t < f.pv.length→f.pv[t]? = some ((piv f t:Nat):Int)) (x y:Int) (v2:List Rt) :
    zft f.pv c 0 x c v2 y c ((grid r c f.g).map ro) []=some ((freeL f c).map (fun c0=>nvl f c0 c f.pv.length),()):=by
  unfold zft
  have hL:=h.le
  have hlenF:∀ n,(freeL f n).length≤n:=fun n=>by
    unfold freeL; exact Nat.le_trans (List.length_filter_le _ _) (by simp)
  exact whileO_upto zbV (fun i=>(f.pv,(c:Int),(i:Int),x,(c:Int),v2,y,(c:Int),(grid r c f.g).map ro,(freeL f i).map (fun c0=>nvl f c0 c f.pv.length),())) c
    ((freeL f c).map (fun c0=>nvl f c0 c f.pv.length),()) (fun i hi=>by
      have hl:=hlenF i
      have h1:zdL f.pv (i:Int)=some (f.pv.any (·==(i:Int))):=zD3 (by omega) _
      have hz:=zFE (k:=c) hc
      have hsucc:=zo2 f i
      cases hb:f.pv.any (·==(i:Int)) with
      | true =>
        rw[hb] at h1 hsucc
        rw[hsucc,cond_true,List.append_nil]
        simp only[zbV,dlt hi,cond_true,h1,Option.bind_some,zar hi (show c≤1048576 by omega)]
      | false =>
        rw[hb] at h1 hsucc
        rw[hsucc,cond_false,List.map_append,List.map_singleton]
        have hlz:i < ((List.replicate c (0:Rat)).map rq).length:=by simpa using hi
        have e2:idx ((List.replicate c (0:Rat)).map rq) (i:Int)=some ((List.replicate c (0:Rat)).map rq)[i]:=zaH hlz
        have e3:((List.replicate c (0:Rat)).map rq)[i]? = some ((List.replicate c (0:Rat)).map rq)[i]:=List.getElem?_eq_getElem hlz
        have e4:((List.replicate c (0:Rat)).map rq).set i (ro (some 1))=nvl f i c 0:=by
          have:(List.replicate c (0:Rat)).map rq=((List.range c).map fun _=>some (0:Rat)).map ro:=by
            apply List.ext_getElem?; intro j; by_cases hj:j < c<;>simp[hj]<;>rfl
          rw[this,← List.map_set,zkH hi]; rfl
        have hin:=zy4 (f:=f) hr hc hg h hval hi c i x c y v2 ((freeL f i).map (fun c0=>nvl f c0 c f.pv.length))
        simp only[zbV,dlt hi,cond_true,cond_false,h1,Option.bind_some,hz,zAT,e2,e3,Int.toNat_natCast,e4,hin,zmr (show ((freeL f i).map (fun c0=>nvl f c0 c f.pv.length)).length≤2000000 by rw[List.length_map]; omega),zar hi (show c≤1048576 by omega)]) (by simp[zbV])
end
end Go.Di
namespace Go.Di
/-! ### Loops that run alike,loops that keep something -/
theorem znz {σ τ ρ θ:Type} {S:σ→Option (σ ⊕ ρ)} {T:τ→Option (τ ⊕ θ)} (E:τ→σ) (F:θ→ρ) (h:∀ t,S (E t)=(T t).map (Sum.map E F)):∀ (n:Nat) (t:τ),zib S n (E t)=(zib T n t).map F
  | 0,_=>rfl
  | n + 1,t=>by
    unfold zib
    rw[h t]
    cases ht:T t with
    | none=>rfl
    | some r =>
      cases r with
      | inl t'=>exact znz E F h n t'
      | inr y=>rfl
theorem whileO_map {σ τ ρ θ:Type} {S:σ→Option (σ ⊕ ρ)} {T:τ→Option (τ ⊕ θ)} (E:τ→σ) (F:θ→ρ) (h:∀ t,S (E t)=(T t).map (Sum.map E F)) (t:τ):whileO S (E t)=(whileO T t).map F:=by
  cases ht:whileO T t with
  | some y =>
    obtain ⟨n,hn⟩:=zdC.1 ht
    exact zdC.2 ⟨n,by rw[znz E F h,hn]; rfl⟩
  | none =>
    cases hs:whileO S (E t) with
    | none=>rfl
    | some r =>
      obtain ⟨n,hn⟩:=zdC.1 hs
      rw[znz E F h] at hn
      cases hy:zib T n t with
      | none=>rw[hy] at hn; cases hn
      | some y=>rw[zdC.2 ⟨n,hy⟩] at ht; cases ht
theorem ztT {τ θ:Type} {T:τ→Option (τ ⊕ θ)} (I:τ→Prop) (Q:θ→Prop) (h1:∀ t t',I t→T t=some (.inl t')→I t') (h2:∀ t y,I t→T t=some (.inr y)→Q y) {t:τ} {y:θ} (hi:I t) (h:whileO T t=some y):Q y:=by
  obtain ⟨n,hn⟩:=zdC.1 h
  clear h
  induction n generalizing t with
  | zero=>cases hn
  | succ n ih =>
    unfold zib at hn
    cases ht:T t with
    | none=>rw[ht] at hn; cases hn
    | some r =>
      rw[ht] at hn
      cases r with
      | inl t'=>exact ih (h1 t t' hi ht) hn
      | inr z=>cases hn; exact h2 t y hi ht
/-! ### Taking the numbers away -/
abbrev ers (l:List TRt):List Rt:=l.map TRt.er
theorem zEg (e:TRt):(TRt.er e).neg=e.neg:=rfl
theorem zEh (e:TRt):(TRt.er e).mag=e.mag.xs:=rfl
theorem zEi (e:TRt):(TRt.er e).den=e.den.xs:=rfl
theorem zMD (r:Rt) (a b:Nat):TRt.er ⟨r.neg,⟨a,r.mag⟩,⟨b,r.den⟩⟩=r:=rfl
theorem zc6 {α β γ:Type} (o:Option α) (f:α→β) (g:β→Option γ):(o.map f).bind g=o.bind fun a=>g (f a):=by cases o<;>rfl
theorem zdY {α β γ:Type} (o:Option α) (g:α→Option β) (f:β→γ):(o.bind g).map f=o.bind fun a=>(g a).map f:=by cases o<;>rfl
theorem zgT {α β:Type} (b:Bool) (x y:Option α) (f:α→β):(cond b x y).map f=cond b (x.map f) (y.map f):=by cases b<;>rfl
theorem zhu {α β:Type} (f:α→β) (l:List α) (i:Int):idx (l.map f) i=(idx l i).map f:=by
  unfold idx; split
  · rw[List.getElem?_map]
  · rfl
theorem zi1 {α β:Type} (f:α→β) (l:List α) (a b:Nat):cut (l.map f) a b=(cut l a b).map f:=by simp[cut,List.map_take,List.map_drop]
theorem zAW:∀ (n:Nat) (l:List Rt),(zqW n l).map TRt.er=l
  | _,[]=>rfl
  | n,r :: l=>by simp only[zqW,List.map_cons,zAW (n+2) l]; rfl
theorem zpS {α β:Type} (f:α→β) (l:List α) (i:Nat) (a:α):(l.set i a).map f=(l.map f).set i (f a):=List.map_set
theorem zBM (r c i:Int) (l:List TRt):zaK ⟨r,c,ers l⟩ i=(zaG ⟨r,c,l⟩ i).map fun p=>(p.1,ers p.2):=by
  simp only[zaK,zaG,List.length_map,zdY,Option.map_some]
theorem zQ0 (r c i k:Int) (l:List TRt):zbj ⟨r,c,ers l⟩ i k=(zcF ⟨r,c,l⟩ i k).map fun e=>(TRt.er e,ers l):=by
  simp only[zbj,zcF,zhu,zc6,zdY,Option.map_some]
  generalize IntKind.i64.wrap (IntKind.i64.wrap (i * c)+k)=j
  unfold idx
  split
  · rw[List.getElem?_map]
    cases l[j.toNat]? <;> rfl
  · rfl
/-! ### The loops of the reduction -/
abbrev F5:Int × Int × Nat × Nat × Nat × Nat × Int × Int × Int × Int × Int × Int × Int × Int × (List TRt) × (List TRt) × (List Int) × (List TRt) × (List Int) × (List TRt) × Nat × Unit→Int × Int × Nat × Nat × Nat × Nat × Int × Int × Int × Int × (List Rt) × (List Int) × (List Rt) × Int × Int × Int × Int × (List Rt) × (List Rt) × (List Int) × Unit :=
  fun (used,c,lo,len,lo1,len1,t,t1,v,v1,v2,v3,v4,v5,xs,xs1,xs2,xs3,xs4,xs5,_,_)=>(used,c,lo,len,lo1,len1,t,t1,v,v1,ers xs3,xs4,ers xs5,v2,v3,v4,v5,ers xs,ers xs1,xs2,())
theorem zLk (used c:Int) (lo len lo1 len1:Nat) (t t1 t2 t3 v v1 v2 v3 v4 v5:Int) (v6:Bool) (v7 v8:Tk) (xs xs1:List TRt) (xs2:List Int) (xs3:List TRt) (xs4:List Int) (xs5:List TRt) (np:Nat) :
    L_impl_reduce_5 used c lo len lo1 len1 t t1 t2 t3 v v1 (ers xs3) xs4 (ers xs5) v2 v3 v4 v5 v6 v7.xs v8.xs (ers xs) (ers xs1) xs2=(ze0 used c lo len lo1 len1 t t1 t2 t3 v v1 v2 v3 v4 v5 v6 v7 v8 xs xs1 xs2 xs3 xs4 xs5 np).map F5 :=
  whileO_map (S:=zcL) (T:=zbo) (fun (used,c,lo,len,lo1,len1,t,t1,t2,t3,v,v1,v2,v3,v4,v5,v6,v7,v8,xs,xs1,xs2,xs3,xs4,xs5,_,_)=>(used,c,lo,len,lo1,len1,t,t1,t2,t3,v,v1,ers xs3,xs4,ers xs5,v2,v3,v4,v5,v6,v7.xs,v8.xs,ers xs,ers xs1,xs2,())) F5
    (fun (used,c,lo,len,lo1,len1,t,t1,t2,t3,v,v1,v2,v3,v4,v5,v6,v7,v8,xs,xs1,xs2,xs3,xs4,xs5,np,_)=>by
      simp only[zcL,zbo,zgT,zdY,zc6,zhu,zi1,List.getElem?_map,Option.map_some,Sum.map_inl,Sum.map_inr,zpS,zMD]) (used,c,lo,len,lo1,len1,t,t1,t2,t3,v,v1,v2,v3,v4,v5,v6,v7,v8,xs,xs1,xs2,xs3,xs4,xs5,np,())
abbrev F3:Int × Int × Nat × Nat × Int × Int × Int × Int × Int × Int × (List TRt) × (List TRt) × (List Int) × (List TRt) × (List Int) × (List TRt) × Nat × Unit→Int × Int × Nat × Nat × Int × Int × (List Rt) × (List Int) × (List Rt) × Int × Int × Int × Int × (List Rt) × (List Rt) × (List Int) × Unit :=
  fun (used,c,lo,len,v,v1,v2,v3,v4,v5,xs,xs1,xs2,xs3,xs4,xs5,_,_)=>(used,c,lo,len,v,v1,ers xs3,xs4,ers xs5,v2,v3,v4,v5,ers xs,ers xs1,xs2,())
theorem zBS (used c:Int) (lo len:Nat) (t t1 v v1 v2 v3 v4 v5:Int) (v6:Bool) (v7 v8:Tk) (xs xs1:List TRt) (xs2:List Int) (xs3:List TRt) (xs4:List Int) (xs5:List TRt) (np:Nat) :
    L_impl_reduce_3 used c lo len t t1 v v1 (ers xs3) xs4 (ers xs5) v2 v3 v4 v5 v6 v7.xs v8.xs (ers xs) (ers xs1) xs2=(zdP used c lo len t t1 v v1 v2 v3 v4 v5 v6 v7 v8 xs xs1 xs2 xs3 xs4 xs5 np).map F3 :=
  whileO_map (S:=zcN) (T:=zbq) (fun (used,c,lo,len,t,t1,v,v1,v2,v3,v4,v5,v6,v7,v8,xs,xs1,xs2,xs3,xs4,xs5,_,_)=>(used,c,lo,len,t,t1,v,v1,ers xs3,xs4,ers xs5,v2,v3,v4,v5,v6,v7.xs,v8.xs,ers xs,ers xs1,xs2,())) F3
    (fun (used,c,lo,len,t,t1,v,v1,v2,v3,v4,v5,v6,v7,v8,xs,xs1,xs2,xs3,xs4,xs5,np,_)=>by
      simp only[zcN,zbq,zgT,zdY,zc6,zhu,zi1,List.getElem?_map,Option.map_some,Sum.map_inl,Sum.map_inr,zpS,zMD]) (used,c,lo,len,t,t1,v,v1,v2,v3,v4,v5,v6,v7,v8,xs,xs1,xs2,xs3,xs4,xs5,np,())
abbrev F2:Int × Int × Int × Int × Int × Int × Int × Int × (List TRt) × (List TRt) × (List Int) × (List TRt) × (List Int) × (List TRt) × Nat × Unit→Int × Int × Int × Int × (List Rt) × (List Int) × (List Rt) × Int × Int × Int × Int × (List Rt) × (List Rt) × (List Int) × Unit :=
  fun (used,c,v,v1,v2,v3,v4,v5,xs,xs1,xs2,xs3,xs4,xs5,_,_)=>(used,c,v,v1,ers xs3,xs4,ers xs5,v2,v3,v4,v5,ers xs,ers xs1,xs2,())
theorem zLl (used c:Int) (lo len lo1 len1:Nat) (t t1 v v1 v2 v3 v4 v5:Int) (xs xs1:List TRt) (xs2:List Int) (xs3:List TRt) (xs4:List Int) (xs5:List TRt) (np:Nat) :
    L_impl_reduce_2 used c lo len lo1 len1 t t1 v v1 (ers xs3) xs4 (ers xs5) v2 v3 v4 v5 (ers xs) (ers xs1) xs2=(ze1 used c lo len lo1 len1 t t1 v v1 v2 v3 v4 v5 xs xs1 xs2 xs3 xs4 xs5 np).map F2 :=
  whileO_map (S:=zcO) (T:=zbr) (fun (used,c,lo,len,lo1,len1,t,t1,v,v1,v2,v3,v4,v5,xs,xs1,xs2,xs3,xs4,xs5,_,_)=>(used,c,lo,len,lo1,len1,t,t1,v,v1,ers xs3,xs4,ers xs5,v2,v3,v4,v5,ers xs,ers xs1,xs2,())) F2
    (fun (used,c,lo,len,lo1,len1,t,t1,v,v1,v2,v3,v4,v5,xs,xs1,xs2,xs3,xs4,xs5,np,_)=>by
      simp only[zcO,zbr,zgT,zdY,zc6,← zpS,zhu,zi1,List.getElem?_map,Option.map_some,Sum.map_inl,Sum.map_inr]) (used,c,lo,len,lo1,len1,t,t1,v,v1,v2,v3,v4,v5,xs,xs1,xs2,xs3,xs4,xs5,np,())
abbrev F1:Int × Int × Int × Int × Int × Int × Int × Int × Int × (List TRt) × (List Int) × (List TRt) × (List TRt) × (List Int) × (List TRt) × Nat × Unit→Int × Int × Int × Int × Int × (List Rt) × (List Int) × (List Rt) × Int × Int × Int × Int × (List Rt) × (List Int) × (List Rt) × Unit :=
  fun (used,c,p,v,v1,v2,v3,v4,v5,xs,xs1,xs2,xs3,xs4,xs5,_,_)=>(used,c,p,v,v1,ers xs3,xs4,ers xs5,v2,v3,v4,v5,ers xs,xs1,ers xs2,())
theorem zLm (used c p v v1 v2 v3 v4 v5:Int) (xs:List TRt) (xs1:List Int) (xs2:List TRt) (xs3:List TRt) (xs4:List Int) (xs5:List TRt) (np:Nat) :
    zeM used c p v v1 (ers xs3) xs4 (ers xs5) v2 v3 v4 v5 (ers xs) xs1 (ers xs2)=(ze2 used c p v v1 v2 v3 v4 v5 xs xs1 xs2 xs3 xs4 xs5 np).map F1 :=
  whileO_map (S:=zca) (T:=zbs) (fun (used,c,p,v,v1,v2,v3,v4,v5,xs,xs1,xs2,xs3,xs4,xs5,_,_)=>(used,c,p,v,v1,ers xs3,xs4,ers xs5,v2,v3,v4,v5,ers xs,xs1,ers xs2,())) F1
    (fun (used,c,p,v,v1,v2,v3,v4,v5,xs,xs1,xs2,xs3,xs4,xs5,np,_)=>by
      simp only[zca,zbs,zgT,zdY,zQ0,zc6,Option.map_some,Sum.map_inl,Sum.map_inr]) (used,c,p,v,v1,v2,v3,v4,v5,xs,xs1,xs2,xs3,xs4,xs5,np,())
abbrev F4:(Bool × Int × Int × (List TRt) × (List Int) × (List TRt) × Nat × Unit) ⊕ (Int × Int × Int × Int × Int × Int × Int × Int × (List TRt) × (List TRt) × (List Int) × (List TRt) × (List Int) × (List TRt) × Nat × Unit)→(Bool × Int × Int × (List Rt) × (List Int) × (List Rt) × Unit) ⊕ (Int × Int × Int × Int × (List Rt) × (List Int) × (List Rt) × Int × Int × Int × Int × (List Rt) × (List Rt) × (List Int) × Unit) :=
  Sum.map (fun (b,v,v1,xs,xs1,xs2,_,_)=>(b,v,v1,ers xs,xs1,ers xs2,())) fun (used,c,v,v1,v2,v3,v4,v5,xs,xs1,xs2,xs3,xs4,xs5,_,_)=>(used,c,v,v1,ers xs3,xs4,ers xs5,v2,v3,v4,v5,ers xs,ers xs1,xs2,())
theorem zBR (used c:Int) (lo len:Nat) (t t1 v v1 v2 v3 v4 v5:Int) (xs xs1:List TRt) (xs2:List Int) (xs3:List TRt) (xs4:List Int) (xs5:List TRt) (np:Nat) :
    L_impl_reduce_4 used c lo len t t1 v v1 (ers xs3) xs4 (ers xs5) v2 v3 v4 v5 (ers xs) (ers xs1) xs2=(zdO used c lo len t t1 v v1 v2 v3 v4 v5 xs xs1 xs2 xs3 xs4 xs5 np).map F4 :=
  whileO_map (S:=zcM) (T:=zbp) (fun (used,c,lo,len,t,t1,v,v1,v2,v3,v4,v5,xs,xs1,xs2,xs3,xs4,xs5,_,_)=>(used,c,lo,len,t,t1,v,v1,ers xs3,xs4,ers xs5,v2,v3,v4,v5,ers xs,ers xs1,xs2,())) F4
    (fun (used,c,lo,len,t,t1,v,v1,v2,v3,v4,v5,xs,xs1,xs2,xs3,xs4,xs5,np,_)=>by
      simp only[zcM,zbp,zgT,zdY,zBM,zc6,zhu,zi1,List.getElem?_map,zEg,zEh,zEi,zLk (np:=np),Option.map_some,Sum.map_inl,Sum.map_inr,List.map_nil]) (used,c,lo,len,t,t1,v,v1,v2,v3,v4,v5,xs,xs1,xs2,xs3,xs4,xs5,np,())
end Go.Di
namespace Go.Di
theorem zOC (l:List TRt) (e:TRt):List.map TRt.er l++[TRt.er e]=List.map TRt.er (l++[e]):=by simp
theorem zQV (l:List TRt) (r:Rt) (a b:Nat):List.map TRt.er l++[r]=List.map TRt.er (l++[⟨r.neg,⟨a,r.mag⟩,⟨b,r.den⟩⟩]):=by simp[zMD]
theorem zgZ {α β:Type} {o:Option α} {f g:α→Option β} (h:∀ a,f a=g a):o.bind f=o.bind g:=by rw[funext h]
theorem zzM {α:Type} {b:Bool} {x x' y y':α} (h1:b=true→x=x') (h2:b=false→y=y'):cond b x y=cond b x' y':=by cases b with
  | true=>exact h1 rfl
  | false=>exact h2 rfl
abbrev F0:(Bool × Int × Int × (List TRt) × (List Int) × (List TRt) × Nat × Unit) ⊕ (Int × Int × Int × Int × (List TRt) × (List Int) × (List TRt) × (List TRt) × (List Int) × (List TRt) × Nat × Unit)→(Bool × Int × Int × (List Rt) × (List Int) × (List Rt) × Unit) ⊕ (Int × Int × (List Rt) × (List Int) × (List Rt) × Int × Int × (List Rt) × (List Int) × (List Rt) × Unit) :=
  Sum.map (fun (b,v,v1,xs,xs1,xs2,_,_)=>(b,v,v1,ers xs,xs1,ers xs2,())) fun (v,v1,v2,v3,xs,xs1,xs2,xs3,xs4,xs5,_,_)=>(v,v1,ers xs3,xs4,ers xs5,v2,v3,ers xs,xs1,ers xs2,())
theorem red0_er (used c v v1 v2 v3 v4 v5:Int) (xs:List TRt) (xs1:List Int) (xs2:List TRt) (xs3:List TRt) (xs4:List Int) (xs5:List TRt) (np:Nat) :
    zeN used c v v1 (ers xs3) xs4 (ers xs5) v2 v3 v4 v5 (ers xs) xs1 (ers xs2)=(zdQ used c v v1 v2 v3 v4 v5 xs xs1 xs2 xs3 xs4 xs5 np).map F0 :=
  whileO_map (S:=zaM) (T:=zbt) (fun (used,c,v,v1,v2,v3,v4,v5,xs,xs1,xs2,xs3,xs4,xs5,_,_)=>(used,c,v,v1,ers xs3,xs4,ers xs5,v2,v3,v4,v5,ers xs,xs1,ers xs2,())) F0
    (fun (used,c,v,v1,v2,v3,v4,v5,xs,xs1,xs2,xs3,xs4,xs5,np,_)=>by
      simp only[zaM,zbt,zgT,zdY,zLm (np:=np),zc6,Option.map_some,Sum.map_inl,Sum.map_inr]
      refine zzM (fun _=>zzM (fun _=>zgZ fun ⟨used1,c1,p,v6,v7,v8,v9,v10,v11,xs6,xs7,xs8,xs9,xs10,xs11,np1,_⟩=>?_) fun _=>rfl) fun _=>rfl
      refine zzM (fun _=>rfl) fun _=>zzM (fun _=>?_) fun _=>?_
      · refine zgZ fun r=>?_
        simp only[List.length_map,zQV xs8 r np1 (np1+1),zBM,zc6,zLl (np:=np1+2)]
        refine zgZ fun _=>zgZ fun _=>zgZ fun _=>zgZ fun ⟨used2,c2,v12,v13,v14,v15,v16,v17,xs12,xs13,xs14,xs15,xs16,xs17,np2,_⟩=>?_
        simp only[zhu,zi1,List.getElem?_map,zc6,zOC,zEg,zEh,zEi,zBS (np:=np2)]
        refine zgZ fun _=>zgZ fun _=>zgZ fun e=>zgZ fun _=>zgZ fun ⟨used3,c3,lo,len,v18,v19,v20,v21,v22,v23,xs18,xs19,xs20,xs21,xs22,xs23,np3,_⟩=>?_
        simp only[zBR (np:=np3),zc6]
        refine zgZ fun r1=>zzM (fun _=>rfl) fun _=>zgZ fun r2=>?_
        cases r2 with
        | inl z=>rfl
        | inr z =>
          obtain ⟨used4,c4,v26,v27,v28,v29,v30,v31,xs27,xs28,xs29,xs30,xs31,xs32,np5,_⟩:=z
          show (zak _).bind _=((zak _).bind _).map _
          rw[zdY]; rfl
      · simp only[zBM,zhu,zi1,List.getElem?_map,zc6,zOC,zEg,zEh,zEi,List.length_map,zBS (np:=np1)]
        refine zgZ fun _=>zgZ fun _=>zgZ fun e=>zgZ fun _=>zgZ fun ⟨used3,c3,lo,len,v18,v19,v20,v21,v22,v23,xs18,xs19,xs20,xs21,xs22,xs23,np3,_⟩=>?_
        simp only[zBR (np:=np3),zc6]
        refine zgZ fun r1=>zzM (fun _=>rfl) fun _=>zgZ fun r2=>?_
        cases r2 with
        | inl z=>rfl
        | inr z =>
          obtain ⟨used4,c4,v26,v27,v28,v29,v30,v31,xs27,xs28,xs29,xs30,xs31,xs32,np5,_⟩:=z
          show (zak _).bind _=((zak _).bind _).map _
          rw[zdY]; rfl) (used,c,v,v1,v2,v3,v4,v5,xs,xs1,xs2,xs3,xs4,xs5,np,())
/-! ### The numbers stay distinct -/
def Idn (n:Nat) (l:List TRt):Prop:=(ziW l).Nodup∧∀ i∈ziW l,i < n
theorem Idn.mono {n m:Nat} {l:List TRt} (h:Idn n l) (hm:n≤m):Idn m l:=⟨h.1,fun i hi=>Nat.lt_of_lt_of_le (h.2 i hi) hm⟩
theorem zp1:∀ (l:List TRt) (i:Nat) (e:TRt) (x:Nat),x∈ziW (l.set i e)→x∈ziW l∨x=e.mag.id∨x=e.den.id
  | [],_,_,x,h => .inl h
  | r :: l,0,e,x,h=>by
    simp only[List.set_cons_zero,ziW,List.mem_cons] at h ⊢
    rcases h with h | h | h
    · exact .inr (.inl h)
    · exact .inr (.inr h)
    · exact .inl (.inr (.inr h))
  | r :: l,i+1,e,x,h=>by
    simp only[List.set_cons_succ,ziW,List.mem_cons] at h ⊢
    rcases h with h | h | h
    · exact .inl (.inl h)
    · exact .inl (.inr (.inl h))
    · rcases zp1 l i e x h with h | h
      · exact .inl (.inr (.inr h))
      · exact .inr h
theorem idn_set {n m:Nat} {l:List TRt} {e:TRt} (h:Idn n l) (i:Nat) (ha:n≤e.mag.id) (hb:n≤e.den.id) (hab:e.mag.id≠e.den.id) (ham:e.mag.id < m) (hbm:e.den.id < m) (hnm:n≤m):Idn m (l.set i e):=by
  refine ⟨?_,fun x hx=>?_⟩
  · obtain ⟨h1,h2⟩:=h
    induction l generalizing i with
    | nil=>exact List.nodup_nil
    | cons r l ih =>
      simp only[ziW,List.nodup_cons,List.mem_cons,not_or] at h1 h2
      cases i with
      | zero =>
        simp only[List.set_cons_zero,ziW,List.nodup_cons,List.mem_cons,not_or]
        have hl:∀ x∈ziW l,x < n:=fun x hx=>h2 x (.inr (.inr hx))
        exact ⟨⟨hab,fun hx=>by have:=hl _ hx; omega⟩,fun hx=>by have:=hl _ hx; omega,h1.2.2⟩
      | succ i =>
        simp only[List.set_cons_succ,ziW,List.nodup_cons,List.mem_cons,not_or]
        have k:=ih i h1.2.2 (fun x hx=>h2 x (.inr (.inr hx)))
        have out:∀ x,x < n→x ∉ ziW l→x ∉ ziW (l.set i e):=fun x hx hn hh=>by
          rcases zp1 l i e x hh with h | h | h
          · exact hn h
          · omega
          · omega
        exact ⟨⟨h1.1.1,out _ (h2 _ (.inl rfl)) h1.1.2⟩,out _ (h2 _ (.inr (.inl rfl))) h1.2.1,k⟩
  · rcases zp1 l i e x hx with h' | h' | h'
    · exact Nat.lt_of_lt_of_le (h.2 x h') hnm
    · omega
    · omega
theorem zr4 {l m:List TRt} (h:l.Perm m):(ziW l).Perm (ziW m):=by
  induction h with
  | nil=>exact .nil
  | cons r _ ih=>exact (ih.cons _).cons _
  | swap r s l =>
    simp only[ziW]
    exact ((List.perm_append_comm (l₁:=[s.mag.id,s.den.id]) (l₂:=[r.mag.id,r.den.id])).append_right (ziW l))
  | trans _ _ ih1 ih2=>exact ih1.trans ih2
theorem swap_perm {α:Type} {l:List α} {i j:Nat} {a b:α} (hi:l[i]? = some a) (hj:l[j]? = some b):((l.set i b).set j a).Perm l:=by
  obtain ⟨h1,h1'⟩:=List.getElem?_eq_some_iff.1 hi
  obtain ⟨h2,h2'⟩:=List.getElem?_eq_some_iff.1 hj
  rw[← h1',← h2']
  exact List.set_set_perm h1 h2
theorem zGQ {n:Nat} {l m:List TRt} (h:Idn n l) (hp:m.Perm l):Idn n m:=⟨(zr4 hp).nodup_iff.2 h.1,fun i hi=>h.2 i ((zr4 hp).mem_iff.1 hi)⟩
theorem zp2:∀ (n:Nat) (l:List Rt),(ziW (zqW n l)).Nodup∧∀ i∈ziW (zqW n l),n≤i∧i < n+2 * l.length
  | _,[]=>⟨List.nodup_nil,fun i h=>by cases h⟩
  | n, r :: l=>by
    obtain ⟨h1,h2⟩:=zp2 (n+2) l
    simp only[zqW,ziW,List.nodup_cons,List.mem_cons,not_or,List.length_cons]
    refine ⟨⟨⟨by omega,fun h=>?_⟩,fun h=>?_,h1⟩,fun i hi=>?_⟩
    · have:=h2 _ h; omega
    · have:=h2 _ h; omega
    · rcases hi with rfl | rfl | hi
      · omega
      · omega
      · have:=h2 _ hi; omega
theorem zoM:∀ {l:List Nat},zed l=true↔l.Nodup
  | []=>by simp[zed]
  | a :: l=>by
    unfold zed
    rw[List.nodup_cons]
    split
    · rename_i h
      constructor
      · intro e; cases e
      · intro e; exact absurd (zaC.1 h) e.1
    · rename_i h
      rw[zoM]
      constructor
      · intro e; exact ⟨(fun hm=>by rw[zaC.2 hm] at h; cases h),e⟩
      · intro e; exact e.2
end Go.Di
namespace Go.Di
theorem zbB {α β:Type} {o:Option α} {f:α→Option β} {b:β} (h:o.bind f=some b):∃ a,o=some a∧f a=some b:=by
  cases o with
  | none=>cases h
  | some a=>exact ⟨a,rfl,h⟩
theorem condS {α:Type} {b:Bool} {x y:Option α} {z:α} (h:cond b x y=some z):(b=true∧x=some z)∨(b=false∧y=some z):=by
  cases b with
  | true=>exact .inl ⟨rfl,h⟩
  | false=>exact .inr ⟨rfl,h⟩
theorem whileO_keeps {τ θ:Type} {T:τ→Option (τ ⊕ θ)} (I:τ→Prop) (Q:θ→Prop) (h:∀ t r,I t→T t=some r→Sum.elim I Q r) {t:τ} {y:θ} (hi:I t) (hy:whileO T t=some y):Q y :=
  ztT I Q (fun t t' hi ht=>h t (.inl t') hi ht) (fun t y hi ht=>h t (.inr y) hi ht) hi hy
theorem zBO {r c i:Int} {l x0:List TRt} {w:Nat × Nat} (h:zaG ⟨r,c,l⟩ i=some (w,x0)):x0=l:=by
  unfold zaG at h
  obtain ⟨_,_,h⟩:=zbB h
  cases h; rfl
def Q5:Int × Int × Nat × Nat × Nat × Nat × Int × Int × Int × Int × Int × Int × Int × Int × (List TRt) × (List TRt) × (List Int) × (List TRt) × (List Int) × (List TRt) × Nat × Unit→Prop:=fun (_,_,_,_,_,_,_,_,_,_,_,_,_,_,xs,_,_,_,_,_,np,_)=>Idn np xs
def Q3:Int × Int × Nat × Nat × Int × Int × Int × Int × Int × Int × (List TRt) × (List TRt) × (List Int) × (List TRt) × (List Int) × (List TRt) × Nat × Unit→Prop:=fun (_,_,_,_,_,_,_,_,_,_,xs,_,_,_,_,_,np,_)=>Idn np xs
def Q2:Int × Int × Int × Int × Int × Int × Int × Int × (List TRt) × (List TRt) × (List Int) × (List TRt) × (List Int) × (List TRt) × Nat × Unit→Prop:=fun (_,_,_,_,_,_,_,_,xs,_,_,_,_,_,np,_)=>Idn np xs
def Q1:Int × Int × Int × Int × Int × Int × Int × Int × Int × (List TRt) × (List Int) × (List TRt) × (List TRt) × (List Int) × (List TRt) × Nat × Unit→Prop:=fun (_,_,_,_,_,_,_,_,_,xs,_,_,_,_,_,np,_)=>Idn np xs
def Q0:Int × Int × Int × Int × (List TRt) × (List Int) × (List TRt) × (List TRt) × (List Int) × (List TRt) × Nat × Unit→Prop:=fun (_,_,_,_,xs,_,_,_,_,_,np,_)=>Idn np xs
def QE:Bool × Int × Int × (List TRt) × (List Int) × (List TRt) × Nat × Unit→Prop:=fun (_,_,_,xs,_,_,_,_)=>(ziW xs).Nodup
def J5:Int × Int × Nat × Nat × Nat × Nat × Int × Int × Int × Int × Int × Int × Int × Int × Int × Int × Bool × Tk × Tk × (List TRt) × (List TRt) × (List Int) × (List TRt) × (List Int) × (List TRt) × Nat × Unit→Prop:=fun (_,_,_,_,_,_,_,_,_,_,_,_,_,_,_,_,_,_,_,xs,_,_,_,_,_,np,_)=>Idn np xs
def J4:Int × Int × Nat × Nat × Int × Int × Int × Int × Int × Int × Int × Int × (List TRt) × (List TRt) × (List Int) × (List TRt) × (List Int) × (List TRt) × Nat × Unit→Prop:=fun (_,_,_,_,_,_,_,_,_,_,_,_,xs,_,_,_,_,_,np,_)=>Idn np xs
def J3:Int × Int × Nat × Nat × Int × Int × Int × Int × Int × Int × Int × Int × Bool × Tk × Tk × (List TRt) × (List TRt) × (List Int) × (List TRt) × (List Int) × (List TRt) × Nat × Unit→Prop:=fun (_,_,_,_,_,_,_,_,_,_,_,_,_,_,_,xs,_,_,_,_,_,np,_)=>Idn np xs
def J2:Int × Int × Nat × Nat × Nat × Nat × Int × Int × Int × Int × Int × Int × Int × Int × (List TRt) × (List TRt) × (List Int) × (List TRt) × (List Int) × (List TRt) × Nat × Unit→Prop:=fun (_,_,_,_,_,_,_,_,_,_,_,_,_,_,xs,_,_,_,_,_,np,_)=>Idn np xs
def J1:Int × Int × Int × Int × Int × Int × Int × Int × Int × (List TRt) × (List Int) × (List TRt) × (List TRt) × (List Int) × (List TRt) × Nat × Unit→Prop:=fun (_,_,_,_,_,_,_,_,_,xs,_,_,_,_,_,np,_)=>Idn np xs
def J0:Int × Int × Int × Int × Int × Int × Int × Int × (List TRt) × (List Int) × (List TRt) × (List TRt) × (List Int) × (List TRt) × Nat × Unit→Prop:=fun (_,_,_,_,_,_,_,_,xs,_,_,_,_,_,np,_)=>Idn np xs
theorem zFY {used c:Int} {lo len lo1 len1:Nat} {t t1 t2 t3 v v1 v2 v3 v4 v5:Int} {v6:Bool} {v7 v8:Tk} {xs xs1:List TRt} {xs2:List Int} {xs3:List TRt} {xs4:List Int} {xs5:List TRt} {np:Nat} (hi:Idn np xs)
    {y} (h:ze0 used c lo len lo1 len1 t t1 t2 t3 v v1 v2 v3 v4 v5 v6 v7 v8 xs xs1 xs2 xs3 xs4 xs5 np=some y):Q5 y :=
  whileO_keeps (T:=zbo) (t:=(used,c,lo,len,lo1,len1,t,t1,t2,t3,v,v1,v2,v3,v4,v5,v6,v7,v8,xs,xs1,xs2,xs3,xs4,xs5,np,())) J5 Q5 (fun (used,c,lo,len,lo1,len1,t,t1,t2,t3,v,v1,v2,v3,v4,v5,v6,v7,v8,xs,xs1,xs2,xs3,xs4,xs5,np,_) r hi h=>by
    have hi:Idn np xs:=hi
    simp only[zbo] at h
    rcases condS h with ⟨_,h⟩ | ⟨_,h⟩
    · obtain ⟨_,_,h⟩:=zbB h
      obtain ⟨_,_,h⟩:=zbB h
      obtain ⟨_,_,h⟩:=zbB h
      obtain ⟨_,_,h⟩:=zbB h
      obtain ⟨_,_,h⟩:=zbB h
      obtain ⟨_,_,h⟩:=zbB h
      obtain ⟨_,_,h⟩:=zbB h
      cases h
      exact idn_set hi _ (by simp) (by simp) (by simp) (by simp) (by simp) (by simp)
    · cases h; exact hi) hi h
theorem zwp {used c:Int} {lo len:Nat} {t t1 v v1 v2 v3 v4 v5:Int} {v6:Bool} {v7 v8:Tk} {xs xs1:List TRt} {xs2:List Int} {xs3:List TRt} {xs4:List Int} {xs5:List TRt} {np:Nat} (hi:Idn np xs)
    {y} (h:zdP used c lo len t t1 v v1 v2 v3 v4 v5 v6 v7 v8 xs xs1 xs2 xs3 xs4 xs5 np=some y):Q3 y :=
  whileO_keeps (T:=zbq) (t:=(used,c,lo,len,t,t1,v,v1,v2,v3,v4,v5,v6,v7,v8,xs,xs1,xs2,xs3,xs4,xs5,np,())) J3 Q3 (fun (used,c,lo,len,t,t1,v,v1,v2,v3,v4,v5,v6,v7,v8,xs,xs1,xs2,xs3,xs4,xs5,np,_) r hi h=>by
    have hi:Idn np xs:=hi
    simp only[zbq] at h
    rcases condS h with ⟨_,h⟩ | ⟨_,h⟩
    · obtain ⟨_,_,h⟩:=zbB h
      obtain ⟨_,_,h⟩:=zbB h
      obtain ⟨_,_,h⟩:=zbB h
      obtain ⟨_,_,h⟩:=zbB h
      cases h
      exact idn_set hi _ (by simp) (by simp) (by simp) (by simp) (by simp) (by simp)
    · cases h; exact hi) hi h
theorem zFZ {used c:Int} {lo len lo1 len1:Nat} {t t1 v v1 v2 v3 v4 v5:Int} {xs xs1:List TRt} {xs2:List Int} {xs3:List TRt} {xs4:List Int} {xs5:List TRt} {np:Nat} (hi:Idn np xs)
    {y} (h:ze1 used c lo len lo1 len1 t t1 v v1 v2 v3 v4 v5 xs xs1 xs2 xs3 xs4 xs5 np=some y):Q2 y :=
  whileO_keeps (T:=zbr) (t:=(used,c,lo,len,lo1,len1,t,t1,v,v1,v2,v3,v4,v5,xs,xs1,xs2,xs3,xs4,xs5,np,())) J2 Q2 (fun (used,c,lo,len,lo1,len1,t,t1,v,v1,v2,v3,v4,v5,xs,xs1,xs2,xs3,xs4,xs5,np,_) r hi h=>by
    have hi:Idn np xs:=hi
    simp only[zbr] at h
    rcases condS h with ⟨_,h⟩ | ⟨_,h⟩
    · obtain ⟨_,_,h⟩:=zbB h
      obtain ⟨e,he,h⟩:=zbB h
      obtain ⟨_,_,h⟩:=zbB h
      obtain ⟨e1,he1,h⟩:=zbB h
      obtain ⟨_,_,h⟩:=zbB h
      obtain ⟨_,_,h⟩:=zbB h
      cases h
      exact zGQ hi (swap_perm he1 he)
    · cases h; exact hi) hi h
theorem zF0 {used c p v v1 v2 v3 v4 v5:Int} {xs:List TRt} {xs1:List Int} {xs2:List TRt} {xs3:List TRt} {xs4:List Int} {xs5:List TRt} {np:Nat} (hi:Idn np xs)
    {y} (h:ze2 used c p v v1 v2 v3 v4 v5 xs xs1 xs2 xs3 xs4 xs5 np=some y):Q1 y :=
  whileO_keeps (T:=zbs) (t:=(used,c,p,v,v1,v2,v3,v4,v5,xs,xs1,xs2,xs3,xs4,xs5,np,())) J1 Q1 (fun (used,c,p,v,v1,v2,v3,v4,v5,xs,xs1,xs2,xs3,xs4,xs5,np,_) r hi h=>by
    have hi:Idn np xs:=hi
    simp only[zbs] at h
    rcases condS h with ⟨_,h⟩ | ⟨_,h⟩
    · obtain ⟨_,_,h⟩:=zbB h
      obtain ⟨_,_,h⟩:=zbB h
      rcases condS h with ⟨_,h⟩ | ⟨_,h⟩<;>(cases h; exact hi)
    · cases h; exact hi) hi h
theorem red4_idn {used c:Int} {lo len:Nat} {t t1 v v1 v2 v3 v4 v5:Int} {xs xs1:List TRt} {xs2:List Int} {xs3:List TRt} {xs4:List Int} {xs5:List TRt} {np:Nat} (hi:Idn np xs)
    {y} (h:zdO used c lo len t t1 v v1 v2 v3 v4 v5 xs xs1 xs2 xs3 xs4 xs5 np=some y):Sum.elim QE Q2 y :=
  whileO_keeps (T:=zbp) (t:=(used,c,lo,len,t,t1,v,v1,v2,v3,v4,v5,xs,xs1,xs2,xs3,xs4,xs5,np,())) J4 (Sum.elim QE Q2) (fun (used,c,lo,len,t,t1,v,v1,v2,v3,v4,v5,xs,xs1,xs2,xs3,xs4,xs5,np,_) r hi h=>by
    have hi:Idn np xs:=hi
    simp only[zbp] at h
    rcases condS h with ⟨_,h⟩ | ⟨_,h⟩
    · obtain ⟨⟨w,x0⟩,hr,h⟩:=zbB h
      rw[zBO hr] at h
      rcases condS h with ⟨_,h⟩ | ⟨_,h⟩
      · cases h; exact hi
      · obtain ⟨_,_,h⟩:=zbB h
        obtain ⟨_,_,h⟩:=zbB h
        obtain ⟨_,_,h⟩:=zbB h
        rcases condS h with ⟨_,h⟩ | ⟨_,h⟩
        · cases h; exact hi
        · obtain ⟨_,_,h⟩:=zbB h
          obtain ⟨_,_,h⟩:=zbB h
          obtain ⟨y,h5,h⟩:=zbB h
          have k:=zFY hi h5
          obtain ⟨_,_,h⟩:=zbB h
          rcases condS h with ⟨_,h⟩ | ⟨_,h⟩
          · cases h; exact List.nodup_nil
          · cases h; exact k
    · cases h; exact hi) hi h
theorem red0_idn {used c v v1 v2 v3 v4 v5:Int} {xs:List TRt} {xs1:List Int} {xs2:List TRt} {xs3:List TRt} {xs4:List Int} {xs5:List TRt} {np:Nat} (hi:Idn np xs)
    {y} (h:zdQ used c v v1 v2 v3 v4 v5 xs xs1 xs2 xs3 xs4 xs5 np=some y):Sum.elim QE Q0 y :=
  whileO_keeps (T:=zbt) (t:=(used,c,v,v1,v2,v3,v4,v5,xs,xs1,xs2,xs3,xs4,xs5,np,())) J0 (Sum.elim QE Q0) (fun (used,c,v,v1,v2,v3,v4,v5,xs,xs1,xs2,xs3,xs4,xs5,np,_) r hi h=>by
    have hi:Idn np xs:=hi
    simp only[zbt] at h
    rcases condS h with ⟨_,h⟩ | ⟨_,h⟩
    · rcases condS h with ⟨_,h⟩ | ⟨_,h⟩
      · obtain ⟨⟨used1,c1,p,v6,v7,v8,v9,v10,v11,xs6,xs7,xs8,xs9,xs10,xs11,np1,_⟩,h1,h⟩:=zbB h
        have k1:Idn np1 xs6:=zF0 hi h1
        rcases condS h with ⟨_,h⟩ | ⟨_,h⟩
        · cases h; exact k1
        · rcases condS h with ⟨_,h⟩ | ⟨_,h⟩
          · obtain ⟨_,_,h⟩:=zbB h
            obtain ⟨_,_,h⟩:=zbB h
            obtain ⟨⟨w,x0⟩,hr,h⟩:=zbB h
            rw[zBO hr] at h
            obtain ⟨⟨w',x0'⟩,hr,h⟩:=zbB h
            rw[zBO hr] at h
            obtain ⟨⟨used2,c2,v12,v13,v14,v15,v16,v17,xs12,xs13,xs14,xs15,xs16,xs17,np2,_⟩,h2,h⟩:=zbB h
            have k2:Idn np2 xs12:=zFZ (k1.mono (Nat.le_add_right np1 2)) h2
            obtain ⟨⟨w3,x03⟩,hr,h⟩:=zbB h
            rw[zBO hr] at h
            obtain ⟨_,_,h⟩:=zbB h
            obtain ⟨_,_,h⟩:=zbB h
            obtain ⟨_,_,h⟩:=zbB h
            obtain ⟨⟨used3,c3,lo,len,v18,v19,v20,v21,v22,v23,xs18,xs19,xs20,xs21,xs22,xs23,np3,_⟩,h3,h⟩:=zbB h
            have k3:Idn np3 xs18:=zwp k2 h3
            obtain ⟨_,_,h⟩:=zbB h
            rcases condS h with ⟨_,h⟩ | ⟨_,h⟩
            · cases h; exact List.nodup_nil
            · obtain ⟨r2,h4,h⟩:=zbB h
              have k4:=red4_idn k3 h4
              cases r2 with
              | inl z=>cases h; exact k4
              | inr z =>
                obtain ⟨used4,c4,v26,v27,v28,v29,v30,v31,xs27,xs28,xs29,xs30,xs31,xs32,np5,_⟩:=z
                obtain ⟨_,_,h⟩:=zbB h
                cases h; exact k4
          · obtain ⟨⟨w3,x03⟩,hr,h⟩:=zbB h
            rw[zBO hr] at h
            obtain ⟨_,_,h⟩:=zbB h
            obtain ⟨_,_,h⟩:=zbB h
            obtain ⟨_,_,h⟩:=zbB h
            obtain ⟨⟨used3,c3,lo,len,v18,v19,v20,v21,v22,v23,xs18,xs19,xs20,xs21,xs22,xs23,np3,_⟩,h3,h⟩:=zbB h
            have k3:Idn np3 xs18:=zwp k1 h3
            obtain ⟨_,_,h⟩:=zbB h
            rcases condS h with ⟨_,h⟩ | ⟨_,h⟩
            · cases h; exact List.nodup_nil
            · obtain ⟨r2,h4,h⟩:=zbB h
              have k4:=red4_idn k3 h4
              cases r2 with
              | inl z=>cases h; exact k4
              | inr z =>
                obtain ⟨used4,c4,v26,v27,v28,v29,v30,v31,xs27,xs28,xs29,xs30,xs31,xs32,np5,_⟩:=z
                obtain ⟨_,_,h⟩:=zbB h
                cases h; exact k4
      · cases h; exact hi
    · cases h; exact hi) hi h
theorem zr8 {l:List TRt} (h:(ziW l).Nodup):zak (zed (ziW l++([]:List Nat)))=some ():=by
  rw[List.append_nil,zoM.2 h]; rfl
theorem zFX {m:Mx} {R C:Int} {cs:List Rt} {pv:List Int} {fs:List Rt} {b:Bool} (h:zbX m=some (⟨R,C,cs,pv,fs⟩,b)):zeG m=some (⟨R,C,cs,pv⟩,b):=by
  unfold zbX at h
  obtain ⟨r,hr,h⟩:=zbB h
  obtain ⟨y,hy,h⟩:=zbB h
  have e:=red0_er 0 0 0 0 m.rows m.cols m.rows m.cols (zqW 0 r) [] [] [] [] [] (0+2 * r.length)
  rw[show ers (zqW 0 r)=r from zAW 0 r,show ers ([]:List TRt)=[] from rfl,hy] at e
  cases hz:zdQ 0 0 0 0 m.rows m.cols m.rows m.cols (zqW 0 r) [] [] [] [] [] (0+2 * r.length) with
  | none=>rw[hz] at e; cases e
  | some z =>
    rw[hz] at e
    have e:=Option.some.inj e
    subst e
    have hk:=red0_idn ⟨(zp2 0 r).1,fun i hi=>((zp2 0 r).2 i hi).2⟩ hz
    unfold zeG
    rw[hr,Option.bind_some]
    rw[hz,Option.bind_some]
    cases z with
    | inl z =>
      obtain ⟨t,v,v1,xs,xs1,_,_,_⟩:=z
      simp only[]
      rw[zr8 hk]
      cases h; rfl
    | inr z =>
      obtain ⟨_,_,v4,v5,xs3,xs4,_,_,_,_,_,_⟩:=z
      simp only[]
      rw[zr8 hk.1]
      cases h; rfl
end Go.Di
namespace Go.Di
end Go.Di
namespace Go.Di
theorem zqV {m R:Mx} {pv:List Int} {b:Bool} (h:zeL m=some (R,pv,b)):zcf m=some (R,pv,b):=by
  unfold zeL at h
  unfold zcf
  obtain ⟨r,hr,h⟩:=zbB h
  rw[hr,Option.bind_some]
  rcases condS h with ⟨c,h⟩ | ⟨c,h⟩
  · rw[c,cond_true]; exact h
  · rw[c,cond_false]
    obtain ⟨⟨⟨R1,C1,cs,pv1,fs⟩,b1⟩,h1,h⟩:=zbB h
    rw[zFX h1,Option.bind_some]
    exact h
end Go.Di
namespace Go.Di
/-! ### Lists of lists of fractions -/
theorem zGX {a b:List (List Rt)} (ha:a.length≤1048576) (h:∀ x∈a,zmJ Rt.fit x):zdZ a b=some (eqB a b) :=
  zvq (S:=zd4) ha (fun x hx _y _=>zEj (h x hx)) rfl
theorem ztS {α:Type} (w:α→Nat):∀ {l:List α} {x:α},x∈l→w x≤ws w l
  | a :: l,x,h=>by
    have e:ws w (a :: l)=w a+ws w l:=by simp[ws]
    rcases List.mem_cons.1 h with rfl | h
    · omega
    · have:=ztS w h; omega
theorem zv4 {α:Type} (w:α→Nat) (M:Nat):∀ {l:List α},(∀ x∈l,w x≤M)→ws w l≤M * l.length
  | [],_=>by simp[ws]
  | a :: l,h=>by
    have e:ws w (a :: l)=w a+ws w l:=by simp[ws]
    have h1:=h a (List.mem_cons_self ..)
    have h2:=zv4 w M (l:=l) fun x hx=>h x (List.mem_cons_of_mem _ hx)
    rw[e,List.length_cons,Nat.mul_succ]; omega
theorem zy8 {a:List (List Rt)} (hl:a.length≤1048576) (h:∀ x∈a,zmJ Rt.fit x) {k:Int} (h0:0≤k) (h1:k+(ws (ws wR) a:Nat)≤1000000000) :
    zc5 a k=some (k+(ws (ws wR) a:Nat),marks (marks mkR wR) (ws wR) k a):=by
  unfold zc5 zfn
  rw[zrr (mk:=marks mkR wR) (w:=ws wR) (B:=1000000000) h0 h1 (fun i K c hi q0 q1 hl2 hc=>?_) (fun K c hl2=>by simp[zbH,hl2])]
  · rfl
  · have hlt:=lt_of_get hc
    have hw:=ztS (ws wR) (List.getElem_mem hi)
    simp only[zbH,dlt hlt,cond_true,znH hc,Option.bind_some,Int.toNat_natCast,hc,zrq (h _ (List.getElem_mem hi)) (show ws wR a[i]≤1000000000 by omega) q0 q1,zar hi hl]
theorem zzG {a:List (List Rt)} (hl:a.length≤1048576) (h:∀ x∈a,zmJ Rt.fit x) {k:Int} (h0:0≤k) (h1:k+(ws (ws wR) a:Nat)≤1000000000) :
    zc9 (marks (marks mkR wR) (ws wR) k a) k=some (k+(ws (ws wR) a:Nat)):=by
  unfold zc9 zgv
  rw[zr5 (mk:=marks mkR wR) (w:=ws wR) (B:=1000000000) h0 h1 (fun i K c hi q0 q1 hl2 hc=>?_) (fun K c hl2=>by simp[zco,hl2])]
  · rfl
  · have hlt:=lt_of_get hc
    have hw:=ztS (ws wR) (List.getElem_mem hi)
    simp only[zco,dlt hlt,cond_true,znH hc,Option.bind_some,zD2 (h _ (List.getElem_mem hi)) (show ws wR a[i]≤1000000000 by omega) q0 q1,zPN (show 0≤K+(ws wR a[i]:Nat) by omega),cond_false,zar hi hl]
/-! ### The vectors -/
section
variable {r c:Nat}
theorem zm0 {f:ES} (hr:r≤24) (hc:c≤24) (hg:zgD r c f.g) (h:Red r c f.g f.pv.length (piv f)) (hval:∀ t,t < f.pv.length→f.pv[t]? = some ((piv f t:Nat):Int)) {c0:Nat} (hc0:c0 < c) (v v1 x:Int) (v2:List Rt) (out:List (List Rt)) :
    zdU f.pv c0 f.pv (f.pv.length:Int) 0 v v1 v2 x c ((grid r c f.g).map ro) (nvl f c0 c 0) out=some (f.pv,(c0:Int),v,v1,v2,x,(c:Int),(grid r c f.g).map ro,nvl f c0 c f.pv.length,out,()):=by
  unfold zdU
  have hL:=h.le
  exact whileO_upto zbh (fun i=>(f.pv,(c0:Int),f.pv,(f.pv.length:Int),(i:Int),v,v1,v2,x,(c:Int),(grid r c f.g).map ro,nvl f c0 c i,out,())) f.pv.length
    (f.pv,(c0:Int),v,v1,v2,x,(c:Int),(grid r c f.g).map ro,nvl f c0 c f.pv.length,out,()) (fun i hi=>by
      have hpi:=h.lt i hi
      have e1:idx f.pv (i:Int)=some ((piv f i:Nat):Int):=by rw[zht]; exact hval i hi
      have hlen:piv f i < (nvl f c0 c i).length:=by unfold nvl; simpa using hpi
      have e2:idx (nvl f c0 c i) ((piv f i:Nat):Int)=some (nvl f c0 c i)[piv f i]:=zaH hlen
      have e3:(nvl f c0 c i)[piv f i]? = some (nvl f c0 c i)[piv f i]:=List.getElem?_eq_getElem hlen
      have e4:(nvl f c0 c i).set (piv f i) (ro (zLq (f.g i c0)))=nvl f c0 c (i+1):=by
        unfold nvl
        rw[← List.map_set,zkH hpi]; rfl
      have e5:zis ⟨x,c,(grid r c f.g).map ro⟩ i c0=some (ro (f.g i c0)):=zyy (show r≤1000 by omega) (show c≤1000 by omega) (show i < r by omega) hc0
      simp only[zbh,dlt hi,cond_true,e1,Option.bind_some,e5,zq1 (hg i c0 (by omega) hc0).1,e2,Int.toNat_natCast,e3,e4,zar hi (show f.pv.length≤1048576 by omega)]) (by simp[zbh])
theorem spec_null_vectors {f:ES} (hr:r≤24) (hc:c≤24) (hg:zgD r c f.g) (h:Red r c f.g f.pv.length (piv f)) (hval:∀ t,t < f.pv.length→f.pv[t]? = some ((piv f t:Nat):Int)) (x y:Int) (v2:List Rt) :
    zdV f.pv 0 x c v2 y c ((grid r c f.g).map ro) []=some ((freeL f c).map (fun c0=>nvl f c0 c f.pv.length),()):=by
  unfold zdV
  have hL:=h.le
  have hlenF:∀ n,(freeL f n).length≤n:=fun n=>by
    unfold freeL; exact Nat.le_trans (List.length_filter_le _ _) (by simp)
  exact whileO_upto zaY (fun i=>(f.pv,(i:Int),x,(c:Int),v2,y,(c:Int),(grid r c f.g).map ro,(freeL f i).map (fun c0=>nvl f c0 c f.pv.length),())) c
    ((freeL f c).map (fun c0=>nvl f c0 c f.pv.length),()) (fun i hi=>by
      have hl:=hlenF i
      have h1:zhT f.pv (i:Int)=some (f.pv.any (·==(i:Int))):=zD3 (by omega) _
      have hz:=zyR (n:=c) (by omega)
      have hsucc:=zo2 f i
      cases hb:f.pv.any (·==(i:Int)) with
      | true =>
        rw[hb] at h1 hsucc
        rw[hsucc,cond_true,List.append_nil]
        simp only[zaY,dlt hi,cond_true,h1,Option.bind_some,zar hi (show c≤1048576 by omega)]
      | false =>
        rw[hb] at h1 hsucc
        rw[hsucc,cond_false,List.map_append,List.map_singleton]
        have hlz:i < ((List.range c).map fun _=>ro (some 0)).length:=by simpa using hi
        have e2:idx ((List.range c).map fun _=>ro (some 0)) (i:Int)=some ((List.range c).map fun _=>ro (some 0))[i]:=zaH hlz
        have e3:((List.range c).map fun _=>ro (some 0))[i]? = some ((List.range c).map fun _=>ro (some 0))[i]:=List.getElem?_eq_getElem hlz
        have e4:((List.range c).map fun _=>ro (some 0)).set i (ro (some 1))=nvl f i c 0:=by
          have:((List.range c).map fun _=>ro (some 0))=((List.range c).map fun _=>some (0:Rat)).map ro:=by rw[List.map_map]; rfl
          rw[this,← List.map_set,zkH hi]; rfl
        have hin:=zm0 (f:=f) hr hc hg h hval hi x c y v2 ((freeL f i).map (fun c0=>nvl f c0 c f.pv.length))
        simp only[zaY,dlt hi,cond_true,cond_false,h1,Option.bind_some,hz,zFL,e2,e3,Int.toNat_natCast,e4,hin,zmr (show ((freeL f i).map (fun c0=>nvl f c0 c f.pv.length)).length≤2000000 by rw[List.length_map]; omega),zar hi (show c≤1048576 by omega)]) (by simp[zaY])
theorem zwu {f:ES} (hg:zgD r c f.g) {c0:Nat} (hc0:c0 < c):∀ i,i≤r→∀ j,Oks (zNt f c0 i j)
  | 0,_,j=>by
    unfold zNt
    split
    · exact zEb.ok
    · exact ziX.ok
  | i+1,hi,j=>by
    unfold zNt
    split
    · exact zpO (hg i c0 (by omega) hc0).1
    · exact zwu hg hc0 i (by omega) j
end
theorem null_both {m:Mx} (hm:zmJ Rt.fit m.cells):∃ V b,zbO m=some (V,b)∧zaZ m=some (V,b)∧V.length≤24∧(∀ x∈V,zmJ Rt.fit x)∧ws (ws wR) V≤1048576:=by
  have hnil:∀ b:Bool,([]:List (List Rt)).length≤24∧(∀ x∈([]:List (List Rt)),zmJ Rt.fit x)∧ws (ws wR) ([]:List (List Rt))≤1048576:=fun _=>⟨Nat.zero_le _,(fun x hx=>by cases hx),by simp[ws]⟩
  cases hb:mxB m with
  | false =>
    have h1:zcr m=some (⟨0,0,[]⟩,[],false):=by unfold zcr; rw[zm1 hm,hb]; rfl
    have h2:zcf m=some (⟨0,0,[]⟩,[],false):=zqV (by unfold zeL; rw[znD hm,hb]; rfl)
    exact ⟨[],false,by unfold zbO; rw[h1]; rfl,by unfold zaZ; rw[h2]; rfl,hnil true⟩
  | true =>
    obtain ⟨r,c,q,hq⟩:=zGa hb
    have hmq:=hq.eq
    rcases zrd hq with ⟨f,ef,inv,e2,e3,e4⟩ | ⟨_,⟨pv,fs,cs,e2,e3⟩,e4⟩
    · have h1:zcr m=some (⟨r,c,(grid r c f.g).map ro⟩,f.pv,true):=by
        unfold zcr
        rw[zm1 hm,hb,Option.bind_some,Bool.not_true,cond_false,zm3 hm,Option.bind_some,e2,Option.bind_some]
        simp only[e3,Option.bind_some,Bool.not_true,cond_false]
        rw[hmq]
      have h2:zcf m=some (⟨r,c,(grid r c f.g).map ro⟩,f.pv,true):=zqV (by
        unfold zeL
        rw[znD hm,hb,Option.bind_some,Bool.not_true,cond_false,e4]; rfl)
      have hg0:=zwO hq.len hq.fits
      have hR:=zEm hg0 (Nat.le_refl c) ef
      have red:=zNR inv hR
      have n1:=spec_null_vectors (f:=f) hq.r24 hq.c24 inv.good red hR.val r r (q.map rq)
      have n2:=null_vectors (f:=f) hq.r24 hq.c24 inv.good red hR.val r r (q.map rq)
      have hfl:(freeL f c).length≤c:=by unfold freeL; exact Nat.le_trans (List.length_filter_le _ _) (by simp)
      have hc24:=hq.c24
      have hel:∀ x∈(freeL f c).map (fun c0=>nvl f c0 c f.pv.length),Rfit x∧ws wR x≤1176:=fun x hx=>by
        obtain ⟨c0,hc0,rfl⟩:=List.mem_map.1 hx
        have hlt:c0 < c:=by unfold freeL at hc0; exact List.mem_range.1 (List.mem_filter.1 hc0).1
        have hok:∀ o∈(List.range c).map (zNt f c0 f.pv.length),Oks o:=fun o ho=>by
          obtain ⟨j,_,rfl⟩:=List.mem_map.1 ho
          exact zwu inv.good hlt _ inv.used j
        refine ⟨zLi hok (by simp; omega),?_⟩
        rw[zAS]
        exact Nat.le_trans (zru (n:=24) (fun y hy=>by
          obtain ⟨o,ho,rfl⟩:=List.mem_map.1 hy
          exact zNP (hok o ho)) (by unfold nvl; simpa using hc24)) (by omega)
      refine ⟨(freeL f c).map (fun c0=>nvl f c0 c f.pv.length),true,?_,?_,by rw[List.length_map]; omega,fun x hx=>(hel x hx).1.fit,?_⟩
      · unfold zbO
        rw[h1,hmq]
        simp only[Option.bind_some,Bool.not_true,cond_false]
        exact congrArg (fun x=>Option.bind x _) n1
      · unfold zaZ
        rw[h2,hmq]
        simp only[Option.bind_some,Bool.not_true,cond_false]
        exact congrArg (fun x=>Option.bind x _) n2
      · have:=zv4 (ws wR) 1176 fun x hx=>(hel x hx).2
        rw[List.length_map] at this
        have h3:1176 * (freeL f c).length≤1176 * 24:=Nat.mul_le_mul_left _ (by omega)
        omega
    · have h1:zcr m=some (⟨0,0,[]⟩,[],false):=by
        unfold zcr
        rw[zm1 hm,hb,Option.bind_some,Bool.not_true,cond_false,zm3 hm,Option.bind_some,e2,Option.bind_some]
        simp only[e3,Option.bind_some,Bool.not_false,cond_true]
      have h2:zcf m=some (⟨0,0,[]⟩,[],false):=zqV (by
        unfold zeL
        rw[znD hm,hb,Option.bind_some,Bool.not_true,cond_false,e4]; rfl)
      exact ⟨[],false,by unfold zbO; rw[h1]; rfl,by unfold zaZ; rw[h2]; rfl,hnil true⟩
theorem law_NullVectors (m:Mx) (h:CK.wf (.sl .rat) m.cells):M_laws_FnExactNullVectors m=some true:=by
  unfold M_laws_FnExactNullVectors
  refine zP1 (zP0 h (by omega) (by omega)) fun r r0 r1=>?_
  have f:=zwl (l:=m.cells) (by omega)
  have f1:=f.few
  obtain ⟨V,b,hs,hi,hl,hV,hw⟩:=null_both f.fit
  have e1:=zy8 (a:=V) (by omega) hV (k:=1) (by omega) (by omega)
  have e2:=zzG (a:=V) (by omega) hV (k:=1) (by omega) (by omega)
  have e3:=zGX (a:=V) (b:=V) (by omega) hV
  simp (disch:=omega) only[zPY f.fit,hs,hi,Option.bind_some,zQW f.fit,e1,e2,e3,zmR,beq_self_eq_true,Bool.not_true,cond_false,zLs f.fit f.few,zPN,zMR]
end Go.Di
