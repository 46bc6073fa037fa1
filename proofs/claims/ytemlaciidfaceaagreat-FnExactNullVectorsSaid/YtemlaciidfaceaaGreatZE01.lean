/-
  Own work: part 6 of the texts that the proof of the given statement leans on.
-/
import Derived.Test.YtemlaciidfaceaaGreatZE00
noncomputable section
namespace Go.Di
theorem after_take {y x x':List Int} {k:Nat} {q br:Int} (hI:TakeI y x k q y.length br x') (hk:k+y.length < x.length) :
    nv ((x'.set (k+y.length) (x[k+y.length] - br)).drop k)=nv (x.drop k) - q * nv y:=by
  have hlx:k+y.length < x'.length:=by rw[hI.len]; exact hk
  have hv:=hI.val
  rw[List.take_length] at hv
  have hs:=znp (d:=x[k+y.length] - br) hlx
  have he:x'[k+y.length]=x[k+y.length]:=by
    have:=hI.rest (k+y.length) (Nat.le_refl _)
    rw[List.getElem?_eq_getElem hlx,List.getElem?_eq_getElem hk] at this
    simpa using this
  rw[he] at hs
  have e1:=zdh x (k:=k) (by omega)
  have e2:=zdh (x'.set (k+y.length) (x[k+y.length] - br)) (k:=k) (by simp; omega)
  have e3:(x'.set (k+y.length) (x[k+y.length] - br)).take k=x.take k:=zpz fun p hp=>by
    rw[List.getElem?_set_ne (by omega)]; exact hI.low p hp
  rw[e3,hs] at e2
  have hp:=zfg k
  have key:bp k * nv ((x'.set (k+y.length) (x[k+y.length] - br)).drop k)=bp k * (nv (x.drop k) - q * nv y):=by
    generalize nv ((x'.set (k+y.length) (x[k+y.length] - br)).drop k)=A at *
    generalize nv (x.drop k)=X at *
    generalize x[k+y.length]=e at *
    generalize bp (k+y.length)=P at *
    generalize bp k=p at *
    generalize nv (x.take k)=u at *
    generalize nv y=z at *
    grind
  exact Int.eq_of_mul_eq_mul_left (by omega) key
end Go.Di
namespace Go.Di
theorem zKV {x:List Int} {k n:Nat} (hkn:k+n < x.length) (hz:∀ p,k+n < p→p < x.length→x[p]? = some 0):nv (x.drop k)=nv ((x.drop k).take n)+bp n * x[k+n]:=by
  rw[zdh (x.drop k) (k:=n) (by rw[List.length_drop]; omega),List.drop_drop,zde hkn]
  have h0:nv (x.drop (k+n+1))=0:=zoK fun p hp=>by
    rw[List.length_drop] at hp
    rw[List.getElem?_drop]; exact hz _ (by omega) (by omega)
  rw[h0]; simp
theorem zFH {W b e D Y:Int} (hW:0≤W∧W < b) (hD:D=W+b * e) (hY:0 < Y∧Y < b):(0≤D→D < Y→e=0)∧(D < 0 → -Y≤D→e = -1):=by
  constructor
  · intro h1 h2
    rcases Int.lt_or_le e 0 with h | h
    · have:b * e≤b * (-1):=Int.mul_le_mul_of_nonneg_left (by omega) (by omega)
      omega
    · rcases Int.lt_or_le 0 e with h' | h'
      · have:b * 1≤b * e:=Int.mul_le_mul_of_nonneg_left (by omega) (by omega)
        omega
      · omega
  · intro h1 h2
    rcases Int.lt_or_le e (-1) with h | h
    · have:b * e≤b * (-2):=Int.mul_le_mul_of_nonneg_left (by omega) (by omega)
      omega
    · rcases Int.lt_or_le (-1) e with h' | h'
      · have:0≤b * e:=Int.mul_nonneg (by omega) (by omega)
        omega
      · omega
end Go.Di
namespace Go.Di
theorem zfT {x:List Int} {i:Nat} (h:i < x.length):x[i]? = some x[i]:=List.getElem?_eq_getElem h
theorem Dig.zNN {x:List Int} {i:Nat} {d:Int} (h:∀ p,p≠i→∀ e,x[p]? = some e→0≤e∧e < 1000000000) (hd:0≤d∧d < 1000000000):Dig (x.set i d):=fun e he=>by
  obtain ⟨p,hp,rfl⟩:=List.getElem_of_mem he
  rw[List.length_set] at hp
  by_cases hpi:p=i
  · subst hpi; simpa using hd
  · have:=h p hpi x[p] (zfT hp)
    rw[List.getElem_set_ne (by omega)]; exact this
theorem zOJ {x:List Int} {k n:Nat} (hlow:∀ p,p < k+n→∀ e,x[p]? = some e→0≤e∧e < 1000000000):Dig ((x.drop k).take n):=fun e he=>by
  obtain ⟨p,hp,rfl⟩:=List.getElem_of_mem he
  rw[List.length_take,List.length_drop] at hp
  have h1:k+p < x.length:=by omega
  have:=hlow (k+p) (by omega) x[k+p] (zfT h1)
  simpa using this
theorem zv5 {y x:List Int} {k:Nat} (hy:Dig y) (hkn:k+y.length < x.length) (hlow:∀ p,p < k+y.length→∀ e,x[p]? = some e→0≤e∧e < 1000000000)
    (hz:∀ p,k+y.length < p→p < x.length→x[p]? = some 0) (hY:0 < nv y) :
    (0≤nv (x.drop k)→nv (x.drop k) < nv y→x[k+y.length]=0)∧(nv (x.drop k) < 0 → -nv y≤nv (x.drop k)→x[k+y.length] = -1):=by
  have hW:=zOJ hlow
  have h1:=zaP hW
  have h2:=zpQ hW
  have hl:((x.drop k).take y.length).length=y.length:=by rw[List.length_take,List.length_drop]; omega
  rw[hl] at h2
  exact zFH (W:=nv ((x.drop k).take y.length)) (b:=bp y.length) ⟨h1,h2⟩ (zKV hkn hz) ⟨hY,zpQ hy⟩
theorem zy0 {y x out:List Int} {k L:Nat} {f V top:Int} (hy:Dig y) (hn:2≤y.length) (htop:y[y.length - 1]? = some top) (ht:1≤top) (h:RoundI y L V (k+1) x out) (hk:k < out.length) (hL:L≤1000000000) :
    ∃ x' out',zcb (f,(y.length:Int),top,(k:Int),x,y,out,())=some (.inl (f,(y.length:Int),top,(k:Int) - 1,x',y,out',()))∧RoundI y L V k x' out':=by
  have hxl:=h.xlen
  have hol:=h.olen
  have hkn:k+y.length < x.length:=by omega
  have hx:=h.xd
  have hz:∀ p,k+y.length < p→p < x.length→x[p]? = some 0:=fun p h1 h2=>h.zero p (by omega) (by omega)
  have htl:top < 1000000000:=by
    have:=hy.at (show y.length - 1 < y.length by omega)
    rw[zfT (show y.length - 1 < y.length by omega)] at htop
    simp only[Option.some.injEq] at htop
    omega
  have htop':y[y.length - 1]=top:=by
    rw[zfT (show y.length - 1 < y.length by omega)] at htop
    simpa using htop
  have hb:=zMQ (n:=y.length) (by omega) hy rfl htop ht
  have hYp:0 < nv y:=by have:=zfg (y.length - 1); omega
  -- the limbs
  have hxn:=hx.at hkn
  have hx1:=hx.at (show k+y.length - 1 < x.length by omega)
  have hx2:=hx.at (show k+y.length - 2 < x.length by omega)
  have hy2:=hy.at (show y.length - 2 < y.length by omega)
  obtain ⟨xl,xl0,xl1,hX⟩:=zA0 hx hn hkn hz
  obtain ⟨yl,yl0,yl1,hY⟩:=zKZ hy hn
  rw[htop'] at hY
  have hXB:nv (x.drop k) < 1000000000 * nv y:=by
    rw[zde (show k < x.length by omega)]
    have h1:=hx.at (show k < x.length by omega)
    have h2:=h.lt
    omega
  have hX0:=zaP (hx.drop k)
  have hQ0:0≤nv (x.drop k) / nv y:=Int.ediv_nonneg hX0 (by omega)
  have hQB:nv (x.drop k) / nv y < 1000000000:=Int.ediv_lt_of_lt_mul hYp hXB
  have hQX:nv (x.drop k) / nv y * nv y≤nv (x.drop k):=Int.ediv_mul_le _ (by omega)
  have hQX2:nv (x.drop k) < (nv (x.drop k) / nv y+1) * nv y:=Int.lt_ediv_add_one_mul_self _ hYp
  generalize hQ:nv (x.drop k) / nv y=Q at *
  have hp:=zfg (y.length - 2)
  have hgb:=zvj hp hX ⟨xl0,xl1⟩ hY yl0 hQ0 hQX
  -- the top of the window is at most the top of the divisor
  have hbn:x[k+y.length]≤top:=by
    have h1:nv (x.drop (k+1))=nv ((x.drop (k+1)).take (y.length - 1))+bp (y.length - 1) * nv (x.drop (k+y.length)):=by
      rw[zdh (x.drop (k+1)) (k:=y.length - 1) (by rw[List.length_drop]; omega),List.drop_drop,show k+1+(y.length - 1)=k+y.length by omega]
    rw[zde hkn] at h1
    have h2:=zaP ((hx.drop (k+1)).take (y.length - 1))
    have h3:=zaP (hx.drop (k+y.length+1))
    have h4:=h.lt
    have h5:=zdh y (k:=y.length - 1) (by omega)
    rw[zde (show y.length - 1 < y.length by omega),htop',List.drop_of_length_le (show y.length≤y.length - 1+1 by omega)] at h5
    have h6:=(zk8 hy (show y.length - 1≤y.length by omega)).2
    simp only[nv,Int.mul_zero,Int.add_zero] at h5
    have hp1:=zfg (y.length - 1)
    rcases Int.lt_or_le top x[k+y.length] with h7 | h7
    · exfalso
      have h8:bp (y.length - 1) * (top+1)≤bp (y.length - 1) * (x[k+y.length]+1000000000 * nv (x.drop (k+y.length+1))):=Int.mul_le_mul_of_nonneg_left (by omega) (by omega)
      have h9:bp (y.length - 1) * (top+1)=bp (y.length - 1) * top+bp (y.length - 1):=by grind
      omega
    · exact h7
  -- the first try
  have hqr:=Int.mul_ediv_add_emod (x[k+y.length] * 1000000000+x[k+y.length - 1]) top
  have hr0:=Int.emod_nonneg (x[k+y.length] * 1000000000+x[k+y.length - 1]) (show top≠0 by omega)
  have hr1:=Int.emod_lt_of_pos (x[k+y.length] * 1000000000+x[k+y.length - 1]) (show 0 < top by omega)
  have hQq:Q≤(x[k+y.length] * 1000000000+x[k+y.length - 1]) / top:=by
    refine (Int.le_ediv_iff_mul_le (by omega)).2 ?_
    have h1:0≤Q * y[y.length - 2]:=Int.mul_nonneg hQ0 hy2.1
    have h2:Q * (top * 1000000000+y[y.length - 2])=(Q * top) * 1000000000+Q * y[y.length - 2]:=by grind
    rw[h2] at hgb
    generalize Q * top=A at *
    omega
  obtain ⟨q',hq1,hq2,hq3,hq4⟩:=guess_loop (x:=x) (y:=y) (out:=out) (k:=k) (n:=y.length) (f:=f) (top:=top) (q:=(x[k+y.length] * 1000000000+x[k+y.length - 1]) / top) (r:=(x[k+y.length] * 1000000000+x[k+y.length - 1]) % top) (Q:=Q)
    hn (by omega) hkn rfl (zfT (show k+y.length - 2 < x.length by omega)) (zfT (show y.length - 2 < y.length by omega)) hx2 hy2 ⟨hxn.1,hbn⟩ hx1 ⟨ht,htl⟩ ⟨hQ0,hQB⟩ hgb (by rw[Int.mul_comm]; exact hqr) ⟨hr0,by omega⟩ hQq
  have hq5:=guess_near (q:=q') (top:=top) hp hX ⟨xl0,xl1⟩ hY ⟨yl0,yl1⟩ hYp (by omega) ht hQ.symm (by omega) hq3 hq4
  obtain ⟨br,x',ht1,hT⟩:=zA1 (y:=y) (x0:=x) (out:=out) (k:=k) (f:=f) (top:=top) (q:=q') hy hx ⟨by omega,hq3⟩ hkn (by omega)
  have hbr:=hT.b0
  have hlx:k+y.length < x'.length:=by rw[hT.len]; exact hkn
  have hxe:x'[k+y.length]=x[k+y.length]:=by
    have:=hT.rest (k+y.length) (Nat.le_refl _)
    rw[zfT hlx,zfT hkn] at this
    simpa using this
  have hD:=after_take hT hkn
  have e1:IntKind.i64.wrap ((k:Int)+(y.length:Int))=((k+y.length:Nat):Int):=by rw[wrap_i64 (by omega) (by omega)]; omega
  have e2:IntKind.i64.wrap (((k+y.length:Nat):Int) - 1)=((k+y.length - 1:Nat):Int):=by rw[wrap_i64 (by omega) (by omega)]; omega
  have e3:IntKind.i64.wrap ((k:Int) - 1)=(k:Int) - 1:=wrap_i64 (by omega) (by omega)
  have e4:IntKind.i64.wrap (x[k+y.length] - br)=x[k+y.length] - br:=wrap_i64 (by omega) (by omega)
  have e5:IntKind.i64.wrap (q' - 1)=q' - 1:=wrap_i64 (by omega) (by omega)
  have etop:zak (top != 0)=some ():=by
    have:(top != 0)=true:=by simp; omega
    rw[this]; rfl
  have ediv:IntKind.i64.wrap ((IntKind.i64.wrap ((IntKind.i64.wrap (x[k+y.length] * 1000000000))+x[k+y.length - 1])).tdiv top)=(x[k+y.length] * 1000000000+x[k+y.length - 1]) / top:=by
    rw[wrap_i64 (n:=x[k+y.length] * 1000000000) (by omega) (by omega),wrap_i64 (n:=x[k+y.length] * 1000000000+x[k+y.length - 1]) (by omega) (by omega),Int.tdiv_eq_ediv_of_nonneg (by omega)]
    have h1:0≤(x[k+y.length] * 1000000000+x[k+y.length - 1]) / top:=Int.ediv_nonneg (by omega) (by omega)
    have h2:(x[k+y.length] * 1000000000+x[k+y.length - 1]) / top≤x[k+y.length] * 1000000000+x[k+y.length - 1]:=Int.ediv_le_self _ (by omega)
    exact wrap_i64 (by omega) (by omega)
  have emod:(IntKind.i64.wrap ((IntKind.i64.wrap (x[k+y.length] * 1000000000))+x[k+y.length - 1])).tmod top=(x[k+y.length] * 1000000000+x[k+y.length - 1]) % top:=by
    rw[wrap_i64 (n:=x[k+y.length] * 1000000000) (by omega) (by omega),wrap_i64 (n:=x[k+y.length] * 1000000000+x[k+y.length - 1]) (by omega) (by omega),Int.tmod_eq_emod_of_nonneg (by omega)]
  have hset:∀ d:Int,(x'.set (k+y.length) d)[k+y.length]? = some d:=fun d=>by simp[hlx]
  have hsl:k+y.length < (x'.set (k+y.length) (x[k+y.length] - br)).length:=by simpa using hlx
  have hslow:∀ p,p < k+y.length→∀ e,(x'.set (k+y.length) (x[k+y.length] - br))[p]? = some e→0≤e∧e < 1000000000:=fun p hp e he=>by
    rw[List.getElem?_set_ne (by omega)] at he
    exact hT.dig e (List.mem_of_getElem? he)
  have hsz:∀ p,k+y.length < p→p < (x'.set (k+y.length) (x[k+y.length] - br)).length→(x'.set (k+y.length) (x[k+y.length] - br))[p]? = some 0:=fun p h1 h2=>by
    rw[List.getElem?_set_ne (by omega),hT.rest p (by omega)]
    rw[List.length_set,hT.len] at h2
    exact hz p h1 h2
  have hsg:=zv5 hy hsl hslow hsz hYp
  have hse:(x'.set (k+y.length) (x[k+y.length] - br))[k+y.length]'hsl=x[k+y.length] - br:=by simp
  rw[hse,hD] at hsg
  simp only[zcb,show decide ((k:Int) ≥ 0)=true by simp,cond_true,e1,e2,zaH hkn,zfT hkn,Int.toNat_natCast,zaH (show k+y.length - 1 < x.length by omega),zfT (show k+y.length - 1 < x.length by omega),Option.bind_some,etop,ediv,emod,hq1,ht1,zaH hlx,zfT hlx,hxe,e4,zeV (hset _),hset,e3,zaH hk,e5]
  by_cases hneg:x[k+y.length] - br < 0
  · -- one too many
    rw[decide_eq_true hneg,cond_true]
    have hDneg:nv (x.drop k) - q' * nv y < 0:=by
      rcases Int.lt_or_le (nv (x.drop k) - q' * nv y) 0 with h1 | h1
      · exact h1
      · exfalso
        have h2:(q':Int) * nv y≤nv (x.drop k):=by omega
        have h3:Q * nv y≤q' * nv y:=Int.mul_le_mul_of_nonneg_right hq2 (by omega)
        have h4:(Q+1) * nv y=Q * nv y+nv y:=by grind
        have:=hsg.1 h1 (by omega)
        omega
    have hq6:q'=Q+1:=by
      rcases Int.lt_or_le Q q' with h1 | h1
      · omega
      · exfalso
        have:q'=Q:=by omega
        subst this
        omega
    obtain ⟨c,x3,hb1,hB⟩:=zFe (y:=y) (x0:=x'.set (k+y.length) (x[k+y.length] - br)) (out:=out) (k:=k) (f:=f) (top:=top) (q:=q' - 1) hy hslow hsl (by rw[List.length_set,hT.len]; omega)
    have hl3:k+y.length < x3.length:=by rw[hB.len]; exact hsl
    have hc:=hB.c0
    have h3e:x3[k+y.length]=x[k+y.length] - br:=by
      have:=hB.rest (k+y.length) (Nat.le_refl _)
      rw[zfT hl3,hset] at this
      simpa using this
    have e6:IntKind.i64.wrap (x[k+y.length] - br+c)=x[k+y.length] - br+c:=wrap_i64 (by omega) (by omega)
    simp only[hb1,Option.bind_some,e1,zaH hl3,zfT hl3,Int.toNat_natCast,h3e,e6,zaH hk,e3]
    have hm1:=hsg.2 hDneg (by
      have h4:q' * nv y=Q * nv y+nv y:=by rw[hq6]; grind
      omega)
    -- the value behind
    have hv4:nv ((x3.set (k+y.length) (x[k+y.length] - br+c)).drop k)=nv (x.drop k) - Q * nv y:=by
      have hv:=hB.val
      rw[List.take_length] at hv
      have hs:=znp (d:=x[k+y.length] - br+c) hl3
      rw[h3e] at hs
      have s1:=zdh (x'.set (k+y.length) (x[k+y.length] - br)) (k:=k) (by omega)
      have s2:=zdh (x3.set (k+y.length) (x[k+y.length] - br+c)) (k:=k) (by simp; omega)
      have s3:(x3.set (k+y.length) (x[k+y.length] - br+c)).take k=(x'.set (k+y.length) (x[k+y.length] - br)).take k:=zpz fun p hp=>by
        rw[List.getElem?_set_ne (by omega)]; exact hB.low p hp
      rw[s3,hs] at s2
      rw[hD] at s1
      have h4:q' * nv y=Q * nv y+nv y:=by rw[hq6]; grind
      refine Int.eq_of_mul_eq_mul_left (show bp k≠0 by have:=zfg k; omega) ?_
      rw[h4] at s1
      generalize nv ((x3.set (k+y.length) (x[k+y.length] - br+c)).drop k)=A at *
      generalize nv (x.drop k)=X at *
      generalize nv y=Y at *
      generalize Q * Y=QY at *
      generalize bp (k+y.length)=P at *
      generalize bp k=p at *
      generalize x[k+y.length] - br=e at *
      grind
    have hl4:k+y.length < (x3.set (k+y.length) (x[k+y.length] - br+c)).length:=by simpa using hl3
    have h4low:∀ p,p < k+y.length→∀ e,(x3.set (k+y.length) (x[k+y.length] - br+c))[p]? = some e→0≤e∧e < 1000000000:=fun p hp e he=>by
      rw[List.getElem?_set_ne (by omega)] at he
      exact hB.dig p hp e he
    have h4z:∀ p,k+y.length < p→p < (x3.set (k+y.length) (x[k+y.length] - br+c)).length→(x3.set (k+y.length) (x[k+y.length] - br+c))[p]? = some 0:=fun p h1 h2=>by
      rw[List.getElem?_set_ne (by omega),hB.rest p (by omega)]
      rw[List.length_set,hB.len] at h2
      exact hsz p h1 h2
    have hsg4:=zv5 hy hl4 h4low h4z hYp
    have h5:(Q+1) * nv y=Q * nv y+nv y:=by grind
    have hzero:=hsg4.1 (by rw[hv4]; omega) (by rw[hv4]; omega)
    have hse4:(x3.set (k+y.length) (x[k+y.length] - br+c))[k+y.length]'hl4=x[k+y.length] - br+c:=by simp
    rw[hse4] at hzero
    refine ⟨_,_,rfl,?_⟩
    have hqQ:q' - 1=Q:=by omega
    rw[hqQ]
    refine h.mk' hk (by simp[hB.len,hT.len,hxl]) ?_ (fun p hp=>?_) (fun p hp1 hp2=>?_) ⟨hQ0,hQB⟩ hv4 (by rw[hv4]; omega)
    · rw [hzero]
      refine Dig.zNN (fun p hpne e he=>?_) (by omega)
      rcases Nat.lt_or_ge p (k+y.length) with h6 | h6
      · exact hB.dig p h6 e he
      · have hpl:p < x3.length:=(List.getElem?_eq_some_iff.1 he).1
        have:=h4z p (by omega) (by simpa using hpl)
        rw[List.getElem?_set_ne (by omega)] at this
        rw[this] at he; simp only[Option.some.injEq] at he; omega
    · rw[List.getElem?_set_ne (by omega),hB.low p hp,List.getElem?_set_ne (by omega),hT.low p hp]
    · by_cases hpe:p=k+y.length
      · subst hpe
        rw[List.getElem?_eq_getElem hl4,hse4,hzero]
      · exact h4z p (by omega) (by simp[hB.len,hT.len]; omega)
  · rw [decide_eq_false hneg,cond_false]
    have hDpos:0≤nv (x.drop k) - q' * nv y:=by
      rcases Int.lt_or_le (nv (x.drop k) - q' * nv y) 0 with h1 | h1
      · exfalso
        have h2:q' * nv y≤(Q+1) * nv y:=Int.mul_le_mul_of_nonneg_right (by omega) (by omega)
        have h4:(Q+1) * nv y=Q * nv y+nv y:=by grind
        have:=hsg.2 h1 (by omega)
        omega
      · exact h1
    have hqQ:q'=Q:=by
      rcases Int.lt_or_le Q q' with h1 | h1
      · exfalso
        have h2:(Q+1) * nv y≤q' * nv y:=Int.mul_le_mul_of_nonneg_right h1 (by omega)
        omega
      · omega
    subst hqQ
    have h5:(q'+1) * nv y=q' * nv y+nv y:=by grind
    have hzero:=hsg.1 hDpos (by omega)
    refine ⟨_,_,rfl,?_⟩
    refine h.mk' hk (by simp[hT.len,hxl]) ?_ (fun p hp=>?_) (fun p hp1 hp2=>?_) ⟨hQ0,hQB⟩ hD (by rw[hD]; omega)
    · rw[hzero]
      exact hT.dig.set _ (by omega)
    · rw[List.getElem?_set_ne (by omega),hT.low p hp]
    · by_cases hpe:p=k+y.length
      · subst hpe
        rw[hset,hzero]
      · exact hsz p (by omega) (by simp[hT.len]; omega)
end Go.Di
namespace Go.Di
theorem zfS {a:List Int} (h:a.length≤1073741824):zaN a=some a:=by
  unfold zaN
  rw[room h]; rfl
theorem zF3 {a x y:List Int} {f n:Int} (hx:x.length≤a.length+1) (ha:a.length≤1073741000) :
    zgd a f n x y=some (f,n,x++List.replicate (a.length+1 - x.length) 0,y,()):=by
  unfold zgd
  have key:=whileO_upto zcU (fun i=>(a,f,n,x++List.replicate i 0,y,())) (a.length+1 - x.length) (f,n,x++List.replicate (a.length+1 - x.length) 0,y,()) (fun i hi=>by
    have h1:decide (((x++List.replicate i (0:Int)).length:Int)≤(a.length:Int))=true:=by simp; omega
    simp only[zcU,h1,cond_true,room (show (x++List.replicate i (0:Int)).length+1≤1073741824 by simp; omega),Option.bind_some]
    rw[List.append_assoc,← List.replicate_succ']) (by
    have h1:decide (((x++List.replicate (a.length+1 - x.length) (0:Int)).length:Int)≤(a.length:Int))=false:=by simp; omega
    simp only[zcU,h1,cond_false])
  simpa using key
theorem zNT (x:List Int) (n:Nat):nv (x++List.replicate n 0)=nv x:=by rw[zkL,zmH]; omega
theorem zy1 {y x0:List Int} {L:Nat} {f V top:Int} (hy:Dig y) (hn:2≤y.length) (htop:y[y.length - 1]? = some top) (ht:1≤top) (hL:L≤1000000000) (N:Nat) (hN:N+y.length=L) (h:RoundI y L V N x0 (List.replicate N 0)) :
    ∃ x out,zgc f (y.length:Int) top ((N:Int) - 1) x0 y (List.replicate N 0)=some (f,x,out,())∧RoundI y L V 0 x out:=by
  unfold zgc
  obtain ⟨r,h1,x,out,rfl,h2⟩:=zbZ (S:=zcb) (fun i z=>∃ x out,z=(f,(y.length:Int),top,((N - i:Nat):Int) - 1,x,y,out,())∧RoundI y L V (N - i) x out) N (fun r=>∃ x out,r=(f,x,out,())∧RoundI y L V 0 x out)
    (fun i hi z hz=>by
      obtain ⟨x,out,rfl,hI⟩:=hz
      left
      have e:((N - i:Nat):Int) - 1=((N - (i+1):Nat):Int):=by omega
      have e2:N - i=(N - (i+1))+1:=by omega
      rw[e2] at hI
      obtain ⟨x',out',q1,q2⟩:=zy0 (f:=f) hy hn htop ht hI (by have:=hI.olen; omega) hL
      rw[e]
      exact ⟨_,q1,x',out',rfl,q2⟩)
    (fun z hz=>by
      obtain ⟨x,out,rfl,hI⟩:=hz
      rw[Nat.sub_self] at *
      exact ⟨_,by simp[zcb],x,out,rfl,hI⟩)
    (x:=(f,(y.length:Int),top,(N:Int) - 1,x0,y,List.replicate N 0,())) ⟨x0,List.replicate N 0,by simp,by simpa using h⟩
  exact ⟨x,out,h1,h2⟩
theorem zsh {n:Nat} (h0:0 < n) (h:n < 1000000000):dg n=[(n:Int)]:=by
  rw[zo3 (by omega),Nat.mod_eq_of_lt h,Nat.div_eq_of_lt h,zaB]
theorem zwr {n:Nat} (h:(dg n).length=1):0 < n∧n < 1000000000∧dg n=[(n:Int)]:=by
  have h0:n≠0:=by rintro rfl; rw[zaB] at h; simp at h
  have hlt:(n:Int) < bp 1:=zfe.1 (by omega)
  have hb:bp 1=1000000000:=by decide
  rw[hb] at hlt
  exact ⟨by omega,by omega,zsh (by omega) (by omega)⟩
theorem impl_div {m n:Nat} (hm:(dg m).length≤100000000) (hn:(dg n).length≤100000000) (h0:0 < n):zbD (dg m) (dg n)=some (dg (m / n),dg (m % n)):=by
  unfold zbD
  have hcmp:=zwJ (zbY m) (zbY n) (by omega)
  rw[zcx,zcx] at hcmp
  rw[hcmp,Option.bind_some,zEJ]
  by_cases hlt:m < n
  · have hd:decide ((m:Int) < (n:Int))=true:=by simpa using hlt
    rw[hd,cond_true,zfS (by omega),Option.bind_some,Nat.div_eq_of_lt hlt,Nat.mod_eq_of_lt hlt,zaB]
  · have hd : decide ((m:Int) < (n:Int))=false:=by simpa using hlt
    rw[hd,cond_false]
    by_cases h1:(dg n).length=1
    · have hb:(((dg n).length:Int)==1)=true:=by rw[h1]; rfl
      obtain ⟨_,hsm,e⟩:=zwr h1
      rw[hb,cond_true,e,show ((0:Int)=((0:Nat):Int)) from rfl,zeV (x:=(n:Int)) (by rfl),Option.bind_some,zoX (by omega) ⟨h0,hsm⟩,Option.bind_some]
    · have hb : (((dg n).length:Int)==1)=false:=by rw[beq_eq_false_iff_ne]; omega
      have hne:dg n≠[]:=fun e=>by have:=zfX.1 e; omega
      have hl2:2≤(dg n).length:=by have:=List.length_pos_iff.2 hne; omega
      have hlast:=zmL hne (by omega)
      -- the top limb of the divisor
      have hbl:(dg n).getLast hne=(dg n)[(dg n).length - 1]'(by omega):=List.getLast_eq_getElem ..
      have hbd:=(zej n).at (show (dg n).length - 1 < (dg n).length by omega)
      have hb0:(dg n)[(dg n).length - 1]'(by omega)≠0:=by
        rw[← hbl]
        intro e
        have:=(zbY n).2
        rw[zqU,List.getLast?_eq_some_getLast hne,e] at this
        exact this rfl
      have hnlow:=(zbY n).low hne
      have hns:=zdh (dg n) (k:=(dg n).length - 1) (by omega)
      rw[zde (show (dg n).length - 1 < (dg n).length by omega),List.drop_of_length_le (show (dg n).length≤(dg n).length - 1+1 by omega)] at hns
      have hnt:=(zk8 (zej n) (show (dg n).length - 1≤(dg n).length by omega)).2
      simp only[nv,Int.mul_zero,Int.add_zero] at hns
      rw[zcx] at hnlow hns
      rw[hb,cond_false,hlast,Option.bind_some,hbl]
      generalize hbt:(dg n)[(dg n).length - 1]'(by omega)=bt at *
      have e1:IntKind.i64.wrap (bt+1)=bt+1:=wrap_i64 (by omega) (by omega)
      have hg:zak (bt+1 != 0)=some ():=by
        have:(bt+1 != 0)=true:=by simp; omega
        rw[this]; rfl
      have ef:IntKind.i64.wrap ((1000000000:Int).tdiv (bt+1))=1000000000 / (bt+1):=by
        rw[Int.tdiv_eq_ediv_of_nonneg (by omega)]
        have h1:0≤1000000000 / (bt+1):=Int.ediv_nonneg (by omega) (by omega)
        have h2:1000000000 / (bt+1)≤1000000000:=Int.ediv_le_self _ (by omega)
        exact wrap_i64 (by omega) (by omega)
      have hf1:1≤1000000000 / (bt+1):=(Int.le_ediv_iff_mul_le (by omega)).2 (by omega)
      have hf2:1000000000 / (bt+1) < 1000000000:=Int.ediv_lt_of_lt_mul (by omega) (by omega)
      have hf3:1000000000 / (bt+1) * (bt+1)≤1000000000:=Int.ediv_mul_le _ (by omega)
      rw[e1,hg,Option.bind_some,ef]
      generalize hF:1000000000 / (bt+1)=F at *
      obtain ⟨f,rfl⟩:∃ f:Nat,F=(f:Int):=⟨F.toNat,by omega⟩
      rw[← zsh (n:=f) (by omega) (by omega)]
      have hlf:(dg f).length=1:=by rw[zsh (by omega) (by omega)]; rfl
      rw[ziU (by omega) (by omega),Option.bind_some,ziU (by omega) (by omega),Option.bind_some]
      have hp:=zfg ((dg n).length - 1)
      have hbs:bp (dg n).length=1000000000 * bp ((dg n).length - 1):=by
        have:=zek ((dg n).length - 1)
        rwa [show (dg n).length - 1+1=(dg n).length by omega] at this
      -- the length of the divisor stays
      have hyl:(dg (n * f)).length=(dg n).length:=by
        have h1:(dg n).length≤(dg (n * f)).length:=zbP (Nat.le_mul_of_pos_right n (by omega))
        have h2:(dg (n * f)).length≤(dg n).length:=by
          rw[zfe,hbs]
          have h3:(n:Int) * f≤((bp ((dg n).length - 1)) * (bt+1) - 1) * f:=by
            refine Int.mul_le_mul_of_nonneg_right ?_ (by omega)
            have:bp ((dg n).length - 1) * (bt+1)=bp ((dg n).length - 1) * bt+bp ((dg n).length - 1):=by grind
            omega
          have h4:bp ((dg n).length - 1) * ((f:Int) * (bt+1))≤bp ((dg n).length - 1) * 1000000000:=Int.mul_le_mul_of_nonneg_left hf3 (by omega)
          have h5:((n * f:Nat):Int)=(n:Int) * f:=by simp
          have h6:((bp ((dg n).length - 1)) * (bt+1) - 1) * f=bp ((dg n).length - 1) * ((f:Int) * (bt+1)) - f:=by grind
          rw[h5]
          omega
        omega
      have hxl:(dg (m * f)).length≤(dg m).length+1:=by have:=ziT m f; omega
      have hxl':=hxl
      have hmn:(dg n).length≤(dg m).length:=zbP (by omega)
      rw[zF3 hxl (by omega),Option.bind_some]
      simp only[]
      rw[hyl]
      have hXl:(dg (m * f)++List.replicate ((dg m).length+1 - (dg (m * f)).length) (0:Int)).length=(dg m).length+1:=by simp; omega
      have hXv:nv (dg (m * f)++List.replicate ((dg m).length+1 - (dg (m * f)).length) (0:Int))=((m * f:Nat):Int):=by rw[zNT,zcx]
      have hXd:Dig (dg (m * f)++List.replicate ((dg m).length+1 - (dg (m * f)).length) (0:Int)):=(zej _).append (Dig.zeros _)
      have hyd:=zej (n * f)
      have hyv:=zcx (n * f)
      have hyc:=zbY (n * f)
      generalize dg (m * f)++List.replicate ((dg m).length+1 - (dg (m * f)).length) (0:Int)=x at *
      generalize dg (n * f)=y at *
      have e3:IntKind.i64.wrap ((x.length:Int) - ((dg n).length:Int))=(((dg m).length+1 - (dg n).length:Nat):Int):=by rw[hXl,wrap_i64 (by omega) (by omega)]; omega
      have e4:IntKind.i64.wrap (((dg n).length:Int) - 1)=((y.length - 1:Nat):Int):=by rw[wrap_i64 (by omega) (by omega)]; omega
      have htl:y.length - 1 < y.length:=by omega
      have e5:IntKind.i64.wrap ((((dg m).length+1 - (dg n).length:Nat):Int) - 1)=(((dg m).length+1 - (dg n).length:Nat):Int) - 1:=wrap_i64 (by omega) (by omega)
      rw[e3,ziS (by omega),Option.bind_some,e4,zaH htl,Option.bind_some,Int.toNat_natCast,zfT htl,Option.bind_some,e5,Int.toNat_natCast]
      have hyne:y≠[]:=by intro e; rw[e] at hyl; simp at hyl; omega
      have hyt:1≤y[y.length - 1]:=by
        have h1:=hyd.at htl
        have h2:y[y.length - 1]≠0:=by
          rw[← List.getLast_eq_getElem hyne]
          intro e
          have:=hyc.2
          rw[zqU,List.getLast?_eq_some_getLast hyne,e] at this
          exact this rfl
        omega
      have hI : RoundI y ((dg m).length+1) ((m * f:Nat):Int) ((dg m).length+1 - (dg n).length) x (List.replicate ((dg m).length+1 - (dg n).length) 0):=by
        refine ⟨hXl,by simp[hyl]; omega,hXd,Dig.zeros _,fun p h1 h2=>by omega,?_,?_⟩
        · rw [hyv]
          rcases Int.lt_or_le (nv (x.drop ((dg m).length+1 - (dg n).length))) (((n * f:Nat):Int)) with h | h
          · exact h
          · exfalso
            have s1:=zdh x (k:=(dg m).length+1 - (dg n).length) (by omega)
            have s2:=zaP (hXd.take ((dg m).length+1 - (dg n).length))
            rw[hXv] at s1
            have hpk:=zfg ((dg m).length+1 - (dg n).length)
            have s3:bp ((dg m).length+1 - (dg n).length) * ((n * f:Nat):Int)≤((m * f:Nat):Int):=by
              have:=Int.mul_le_mul_of_nonneg_left h (Int.le_of_lt hpk)
              omega
            have s4:(bp ((dg m).length+1 - (dg n).length) * (n:Int)) * f≤(m:Int) * f:=by
              have:((n * f:Nat):Int)=(n:Int) * f:=by simp
              rw[this] at s3
              have:((m * f:Nat):Int)=(m:Int) * f:=by simp
              rw[this] at s3
              rw[Int.mul_assoc]; exact s3
            have s5:=Int.le_of_mul_le_mul_right s4 (by omega)
            have s6:bp ((dg m).length+1 - (dg n).length) * bp ((dg n).length - 1)≤bp ((dg m).length+1 - (dg n).length) * (n:Int):=Int.mul_le_mul_of_nonneg_left hnlow (by omega)
            rw[← zsR,show (dg m).length+1 - (dg n).length+((dg n).length - 1)=(dg m).length by omega] at s6
            have s7:=(zfe (n:=m)).1 (Nat.le_refl _)
            omega
        · rw[hXv,List.drop_of_length_le (by simp),nv]; simp
      have hyl':(((dg n).length:Nat):Int)=(y.length:Int):=by rw[hyl]
      obtain ⟨x1,out,hr,hR⟩:=zy1 (f:=(f:Int)) hyd (by omega) (zfT htl) hyt (by omega) ((dg m).length+1 - (dg n).length) (by omega) hI
      rw[hyl',hr,Option.bind_some]
      simp only[]
      have hv:=hR.val
      have hlt2:=hR.lt
      have hx1l:=hR.xlen
      have hol:=hR.olen
      rw[List.drop_zero] at hlt2
      rw[List.drop_zero,zod,Int.one_mul,hyv] at hv
      rw[hyv] at hlt2
      have hx10:=zaP hR.xd
      have hout0:=zaP hR.od
      rw[zid (by omega),Option.bind_some,zqY hR.xd,zid (by omega)]
      obtain ⟨r,hr'⟩:∃ r:Nat,nv x1=(r:Int):=⟨(nv x1).toNat,by omega⟩
      obtain ⟨q,hq'⟩:∃ q:Nat,nv out=(q:Int):=⟨(nv out).toNat,by omega⟩
      rw[hr',hq'] at hv
      rw[hr'] at hlt2
      have hvN:m * f=r+n * f * q:=by exact_mod_cast hv
      have hltN:r < n * f:=by exact_mod_cast hlt2
      have hq:q=m / n:=by
        have h1:(m * f) / (n * f)=q:=by
          rw[hvN,Nat.add_mul_div_left _ _ (by omega),Nat.div_eq_of_lt hltN,Nat.zero_add]
        rw[← h1,Nat.mul_div_mul_right _ _ (by omega)]
      have hrr:r=(m % n) * f:=by
        have h1:(m * f) % (n * f)=r:=by
          rw[hvN,Nat.add_mul_mod_self_left,Nat.mod_eq_of_lt hltN]
        rw[← h1,Nat.mul_mod_mul_right]
      have hrl:(dg r).length≤1073740000:=by
        have:(dg r).length≤(dg m).length+1:=Nat.le_trans (zbP (show r≤m * f by omega)) hxl'
        omega
      rw[hr',Int.toNat_natCast,zoX hrl ⟨by omega,by omega⟩,Option.bind_some,zqY hR.od,hq',Int.toNat_natCast,Option.bind_some,hq,hrr,Nat.mul_div_cancel _ (by omega)]
end Go.Di
namespace Go.Di
theorem impl_gcd {m n:Nat} (hm:(dg m).length≤100000000) (hn:(dg n).length≤100000000) (h0:0 < m):zdJ (dg m) (dg n)=some (dg (Nat.gcd m n)):=by
  unfold zdJ ziI
  obtain ⟨r, h1,p,q,rfl,hg,hp0,hpl,hq⟩:=zhg (S:=zbJ) (fun x=>∃ p q:Nat,x=(dg p,dg q,())∧Nat.gcd p q=Nat.gcd m n∧(p=0→2≤(dg q).length)∧(dg p).length≤100000000∧(dg q).length≤100000000) (fun x=>(nv x.2.1).toNat)
    (fun r=>∃ p q:Nat,r=(dg p,dg q,())∧Nat.gcd p q=Nat.gcd m n∧0 < p∧(dg p).length≤100000000∧(q=0∨(dg p).length≤1∧(dg q).length=1))
    (fun x hx => by
      obtain ⟨p,q,rfl,hg,hp,hpl,hql⟩:=hx
      have hstep:0 < q→(∃ y,((zbD (dg p) (dg q)).bind fun (r0,r1)=>(some (Sum.inl (dg q,r1,())):Option ((List Int × List Int × Unit) ⊕ (List Int × List Int × Unit))))=some (.inl y)∧(∃ p' q':Nat,y=(dg p',dg q',())∧Nat.gcd p' q'=Nat.gcd m n∧(p'=0→2≤(dg q').length)∧(dg p').length≤100000000∧(dg q').length≤100000000)∧(nv y.2.1).toNat < (nv (dg q)).toNat):=by
        intro hq0
        rw[impl_div hpl hql hq0]
        refine ⟨_,rfl,⟨q,p % q,rfl,?_,fun e=>by omega,hql,?_⟩,?_⟩
        · rw[← hg,Nat.gcd_comm p q,Nat.gcd_rec q p,Nat.gcd_comm]
        · exact Nat.le_trans (zbP (Nat.mod_le p q)) hpl
        · simp only[zcx,Int.toNat_natCast]; exact Nat.mod_lt _ hq0
      by_cases hb:1 < (dg q).length
      · left
        have hq0:0 < q:=by
          rcases Nat.eq_zero_or_pos q with h | h
          · subst h; rw[zaB] at hb; simp at hb
          · exact h
        have e1:decide (((dg q).length:Int) > 1)=true:=by simp only[decide_eq_true_eq]; omega
        simp only[zbJ,e1,cond_true]
        exact hstep hq0
      · have e1:decide (((dg q).length:Int) > 1)=false:=by simp only[decide_eq_false_iff_not]; omega
        have hpos:0 < p:=by
          rcases Nat.eq_zero_or_pos p with h | h
          · have:=hp h; omega
          · exact h
        by_cases ha:1 < (dg p).length
        · have e2:decide (((dg p).length:Int) > 1)=true:=by simp only[decide_eq_true_eq]; omega
          by_cases hq0:q=0
          · right
            subst hq0
            refine ⟨(dg p,dg 0,()),?_,p,0,rfl,hg,hpos,hpl,.inl rfl⟩
            simp only[zbJ,e1,e2,cond_true,cond_false]
            simp[zaB]
          · left
            have hqn:dg q≠[]:=fun e=>hq0 (zfX.1 e)
            have e3:decide (((dg q).length:Int) > 0)=true:=by have:=List.length_pos_iff.2 hqn; simp only[decide_eq_true_eq]; omega
            simp only[zbJ,e1,e2,e3,cond_true,cond_false]
            exact hstep (by omega)
        · right
          have e2:decide (((dg p).length:Int) > 1)=false:=by simp only[decide_eq_false_iff_not]; omega
          refine ⟨(dg p,dg q,()),?_,p,q,rfl,hg,hpos,hpl,?_⟩
          · simp only[zbJ,e1,e2,cond_false]
          · by_cases hq0:q=0
            · exact .inl hq0
            · right
              have hqn:dg q≠[]:=fun e=>hq0 (zfX.1 e)
              have:=List.length_pos_iff.2 hqn
              exact ⟨by omega,by omega⟩)
    (x:=(dg m,dg n,())) ⟨m,n,rfl,rfl,fun e=>by omega,hm,hn⟩
  rw[h1,Option.bind_some]
  simp only[]
  rcases hq with rfl | ⟨hp1,hq1⟩
  · have:(((dg 0).length:Int)==0)=true:=by rw[zaB]; rfl
    rw[this,cond_true,zfS (by omega),Option.bind_some,← hg,Nat.gcd_zero_right]
  · have hpn:dg p≠[]:=fun e=>by have:=zfX.1 e; omega
    have hpl1:(dg p).length=1:=by have:=List.length_pos_iff.2 hpn; omega
    obtain ⟨p0,pB,pe⟩:=zwr hpl1
    obtain ⟨q0,qB,qe⟩:=zwr hq1
    have:(((dg q).length:Int)==0)=false:=by rw[hq1]; rfl
    rw[this,cond_false,pe,qe,show ((0:Int)=((0:Nat):Int)) from rfl,zeV (x:=(p:Int)) (by rfl),Option.bind_some,zeV (x:=(q:Int)) (by rfl),Option.bind_some]
    unfold ziH
    rw [znQ (S:=zcQ) (fun x y h=>by
      have h1:((y:Int) != 0)=true:=by simp; omega
      simp only[zcQ,h1,cond_true,zkq,Option.bind_some,zwa]) (fun x=>by simp[zcQ]) q p,Option.bind_some]
    have hgp:Nat.gcd p q≤p:=Nat.gcd_le_left q p0
    have hgpos:0 < Nat.gcd p q:=Nat.gcd_pos_of_pos_left q p0
    simp only[]
    rw[← hg,zsh hgpos (by omega)]
end Go.Di
namespace Go.Di
def bg (z:Int):Bg:=⟨decide (z < 0),dg z.natAbs⟩
def sg (neg:Bool) (m:Nat):Int:=cond neg (-(m:Int)) m
theorem zkC (neg:Bool) (m:Nat):(sg neg m).natAbs=m:=by cases neg<;>simp[sg]
theorem zwf {neg:Bool} {m:Nat} (h:m≠0):decide (sg neg m < 0)=neg:=by
  cases neg with
  | false=>rw[decide_eq_false_iff_not]; simp only[sg,cond_false]; omega
  | true=>rw[decide_eq_true_eq]; simp only[sg,cond_true]; omega
theorem zFc {neg:Bool} {m:Nat} (h:m≠0):bg (sg neg m)=⟨neg,dg m⟩:=by unfold bg; rw[zkC,zwf h]
theorem zqS:bg 0=⟨false,[]⟩:=by unfold bg; rw[show (0:Int).natAbs=0 from rfl,zaB]; rfl
theorem zpG (neg:Bool):sg neg 0=0:=by cases neg<;>rfl
theorem zBi (z:Int):sg (decide (z < 0)) z.natAbs=z:=by
  by_cases h:z < 0
  · rw[decide_eq_true h]; simp only[sg,cond_true]; omega
  · rw[decide_eq_false h]; simp only[sg,cond_false]; omega
theorem zhA {m:Nat}:(((dg m).length:Int)==0)=decide (m=0):=by
  by_cases h:m=0
  · subst h; simp[zaB]
  · have hn:dg m≠[]:=fun e=>h (zfX.1 e)
    have:=List.length_pos_iff.2 hn
    rw[decide_eq_false h,beq_eq_false_iff_ne]; omega
theorem zsi {m:Nat}:decide (((dg m).length:Int) > 0)=decide (m≠0):=by
  by_cases h:m=0
  · subst h; simp[zaB]
  · have hn:dg m≠[]:=fun e=>h (zfX.1 e)
    have:=List.length_pos_iff.2 hn
    rw[decide_eq_true h,decide_eq_true_eq]; omega
theorem zc0 (neg:Bool) (m:Nat):zaL neg (dg m)=some (bg (sg neg m)):=by
  unfold zaL
  rw[zhA]
  by_cases h:m=0
  · subst h; rw[decide_eq_true rfl,cond_true,zpG,zqS]
  · rw[decide_eq_false h,cond_false,zFc h]
theorem zrW (neg:Bool) (m:Nat):zfD neg (dg m)=some (bg (sg neg m)):=zc0 neg m
theorem zgH {m:Nat} (h:(dg m).length≤1073741824):zdd (dg m)=some (dg m):=by
  have key:zfq (dg m) ((dg m).length:Int)=some (dg m,((dg m).length:Int),()):=by
    unfold zfq
    refine zaz ?_
    by_cases hm:m=0
    · subst hm; simp[zc8,zaB]
    · have hne:dg m≠[]:=fun e=>hm (zfX.1 e)
      have hp:=List.length_pos_iff.2 hne
      have h0:(dg m).getLast hne≠0:=by
        intro e
        have:=(zbY m).2
        rw[zqU,List.getLast?_eq_some_getLast hne,e] at this
        exact this rfl
      have h1:decide (((dg m).length:Int) > 0)=true:=by rw[decide_eq_true_eq]; omega
      have h2:((dg m).getLast hne==0)=false:=by rw[beq_eq_false_iff_ne]; exact h0
      simp only[zc8,h1,cond_true,zmL hne h,Option.bind_some,h2,cond_false]
  unfold zdd
  rw[key,Option.bind_some]
  simp only[]
  rw[zlf _ _ (Nat.le_refl _),Option.bind_some,Int.toNat_natCast,show cut (dg m) 0 (dg m).length=dg m by simp[cut]]
theorem zFM {m:Nat} (h:(dg m).length≤60):zfz (dg m)=some (dg m):=by
  unfold zfz
  rw[zgH (by omega),Option.bind_some]
  have:decide (((dg m).length:Int) > 60)=false:=by rw[decide_eq_false_iff_not]; omega
  rw[this,cond_false]
theorem zdk (neg:Bool) {m:Nat} (h:(dg m).length≤60):zav neg (dg m)=some (bg (sg neg m)):=by
  unfold zav
  rw[zFM h,Option.bind_some,room (by omega)]
  simp only[Option.bind_some,zsi]
  by_cases hm:m=0
  · subst hm; rw[zpG,zqS,zaB]; cases neg<;>rfl
  · rw[zFc hm,decide_eq_true hm]; cases neg<;>rfl
theorem zoS {m n k:Nat} (hm:(dg m).length≤k) (hn:(dg n).length≤k):(dg (m+n)).length≤k+1:=by
  rw[zfe] at *
  rw[zek]
  have:((m+n:Nat):Int)=(m:Int)+n:=by omega
  omega
theorem znE {x y:Int} (hx:(dg x.natAbs).length≤1073740000) (hy:(dg y.natAbs).length≤1073740000):zdM (bg x) (bg y)=some (bg (x+y)):=by
  unfold zdM bg
  simp only[]
  by_cases h:decide (x < 0)=decide (y < 0)
  · have:(decide (x < 0)==decide (y < 0))=true:=by simpa using h
    rw[this,cond_true,zwK hx hy,Option.bind_some,zc0,Option.bind_some]
    have e:sg (decide (x < 0)) (x.natAbs+y.natAbs)=x+y:=by
      by_cases hx0:x < 0
      · rw[decide_eq_true hx0]; rw[decide_eq_true hx0] at h; have:=of_decide_eq_true h.symm; simp only[sg,cond_true]; omega
      · rw[decide_eq_false hx0]; rw[decide_eq_false hx0] at h; have:=of_decide_eq_false h.symm; simp only[sg,cond_false]; omega
    rw[e]; rfl
  · have : (decide (x < 0)==decide (y < 0))=false:=by simpa using h
    have hcmp:=zwJ (zbY x.natAbs) (zbY y.natAbs) (by omega)
    rw[zcx,zcx] at hcmp
    rw[this,cond_false,hcmp,Option.bind_some,zEK]
    by_cases hge:y.natAbs≤x.natAbs
    · rw [decide_eq_true (show ((y.natAbs:Nat):Int)≤x.natAbs by omega),cond_true,zwH hx hge,Option.bind_some,zc0,Option.bind_some]
      have e:sg (decide (x < 0)) (x.natAbs - y.natAbs)=x+y:=by
        by_cases hx0:x < 0
        · rw[decide_eq_true hx0]; simp only[sg,cond_true]; simp[hx0] at h; omega
        · rw[decide_eq_false hx0]; simp only[sg,cond_false]; simp[hx0] at h; omega
      rw[e]; rfl
    · rw [decide_eq_false (show ¬ ((y.natAbs:Nat):Int)≤x.natAbs by omega),cond_false,zwH hy (by omega),Option.bind_some,zc0,Option.bind_some]
      have e:sg (decide (y < 0)) (y.natAbs - x.natAbs)=x+y:=by
        by_cases hx0:x < 0
        · simp[hx0] at h; rw[decide_eq_false (by omega)]; simp only[sg,cond_false]; omega
        · simp[hx0] at h; rw[decide_eq_true (by omega)]; simp only[sg,cond_true]; omega
      rw[e]; rfl
theorem zm4 {x y:Int} (hx:(dg x.natAbs).length≤59) (hy:(dg y.natAbs).length≤59):zcq (bg x) (bg y)=some (bg (x+y)):=by
  unfold zcq bg
  simp only[]
  by_cases h:decide (x < 0)=decide (y < 0)
  · have:(decide (x < 0)==decide (y < 0))=true:=by simpa using h
    rw[this,cond_true,spec_add (by omega) (by omega),Option.bind_some,zdk _ (zoS hx hy),Option.bind_some]
    have e:sg (decide (x < 0)) (x.natAbs+y.natAbs)=x+y:=by
      by_cases hx0:x < 0
      · rw[decide_eq_true hx0]; rw[decide_eq_true hx0] at h; have:=of_decide_eq_true h.symm; simp only[sg,cond_true]; omega
      · rw[decide_eq_false hx0]; rw[decide_eq_false hx0] at h; have:=of_decide_eq_false h.symm; simp only[sg,cond_false]; omega
    rw[e]; rfl
  · have : (decide (x < 0)==decide (y < 0))=false:=by simpa using h
    have hcmp:=zmB (zbY x.natAbs) (zbY y.natAbs) (by omega)
    rw[zcx,zcx] at hcmp
    rw[this,cond_false,hcmp,Option.bind_some,zEK]
    by_cases hge:y.natAbs≤x.natAbs
    · rw [decide_eq_true (show ((y.natAbs:Nat):Int)≤x.natAbs by omega),cond_true,zpB (by omega) hge,Option.bind_some,zdk _ (Nat.le_trans (zbP (Nat.sub_le ..)) (by omega)),Option.bind_some]
      have e:sg (decide (x < 0)) (x.natAbs - y.natAbs)=x+y:=by
        by_cases hx0:x < 0
        · rw[decide_eq_true hx0]; simp only[sg,cond_true]; simp[hx0] at h; omega
        · rw[decide_eq_false hx0]; simp only[sg,cond_false]; simp[hx0] at h; omega
      rw[e]; rfl
    · rw [decide_eq_false (show ¬ ((y.natAbs:Nat):Int)≤x.natAbs by omega),cond_false,zpB (by omega) (by omega),Option.bind_some,zdk _ (Nat.le_trans (zbP (Nat.sub_le ..)) (by omega)),Option.bind_some]
      have e:sg (decide (y < 0)) (y.natAbs - x.natAbs)=x+y:=by
        by_cases hx0:x < 0
        · simp[hx0] at h; rw[decide_eq_false (by omega)]; simp only[sg,cond_false]; omega
        · simp[hx0] at h; rw[decide_eq_true (by omega)]; simp only[sg,cond_true]; omega
      rw[e]; rfl
theorem zBD (x y:Int):sg (!(decide (x < 0)==decide (y < 0))) (x.natAbs * y.natAbs)=x * y:=by
  rw[← Int.natAbs_mul]
  by_cases hx:x < 0
  · by_cases hy:y < 0
    · have:=Int.mul_pos_of_neg_of_neg hx hy
      rw[decide_eq_true hx,decide_eq_true hy]; simp only[sg]; simp; omega
    · rw[decide_eq_true hx,decide_eq_false hy]
      have:=Int.mul_nonpos_of_nonpos_of_nonneg (show x≤0 by omega) (show 0≤y by omega)
      simp only[sg]; simp; omega
  · by_cases hy:y < 0
    · rw[decide_eq_false hx,decide_eq_true hy]
      have:=Int.mul_nonpos_of_nonneg_of_nonpos (show 0≤x by omega) (show y≤0 by omega)
      simp only[sg]; simp; omega
    · rw[decide_eq_false hx,decide_eq_false hy]
      have:=Int.mul_nonneg (show 0≤x by omega) (show 0≤y by omega)
      simp only[sg]; simp; omega
theorem zhs {x y:Int} (hx:(dg x.natAbs).length≤500000000) (hy:(dg y.natAbs).length≤500000000):zbE (bg x) (bg y)=some (bg (x * y)):=by
  unfold zbE bg
  simp only[]
  rw[ziU hx hy,Option.bind_some,zc0,Option.bind_some,zBD]; rfl
theorem zvi {x:Int} (hx:(dg x.natAbs).length≤500000000):zeK (bg x)=some (bg (-x)):=by
  unfold zeK bg
  simp only[]
  rw[zfS (by omega),Option.bind_some,zc0,Option.bind_some]
  have e:sg (!decide (x < 0)) x.natAbs = -x:=by
    by_cases h:x < 0
    · rw[decide_eq_true h]; simp only[sg,Bool.not_true,cond_false]; omega
    · rw[decide_eq_false h]; simp only[sg,Bool.not_false,cond_true]; omega
  rw[e]; rfl
/-! ### Fractions -/
def rq (q:Rat):Rt:=⟨decide (q.num < 0),dg q.num.natAbs,dg q.den⟩
def Fit (q:Rat):Prop:=(dg q.num.natAbs).length≤24∧(dg q.den).length≤24
instance (q:Rat):Decidable (Fit q):=by unfold Fit; infer_instance
def ro:Option Rat→Rt
  | none=>⟨false,[],[]⟩
  | some q=>rq q
def chk (q:Rat):Option Rat:=if Fit q then some q else none
def Oks (o:Option Rat):Prop:=∀ q,o=some q→Fit q
theorem zpP (q:Rat):Oks (chk q):=fun r h=>by
  unfold chk at h
  split at h
  · rename_i hf; cases h; exact hf
  · cases h
theorem zwv:Oks none:=fun q h=>by cases h
theorem Fit.ok {q:Rat} (h:Fit q):Oks (some q):=fun r hr=>by cases hr; exact h
theorem zgz {q:Rat} (h:Fit q):chk q=some q:=by unfold chk; rw[if_pos h]
theorem zMP {q:Rat} (h:¬ Fit q):chk q=none:=by unfold chk; rw[if_neg h]
theorem ziP {o:Option Rat} {f:Rat→Option Rat} (h:∀ q,Oks (f q)):Oks (o.bind f):=by
  cases o with
  | none=>exact zwv
  | some q=>exact h q
theorem zkM (z:Int) {d:Nat} (hd:d≠0):(mkRat z d).num=z / (Nat.gcd z.natAbs d:Nat)∧(mkRat z d).den=d / Nat.gcd z.natAbs d:=by
  rw[Rat.mkRat_def,dif_neg hd,Rat.normalize_eq]
  exact ⟨rfl,rfl⟩
theorem zCd (z:Int) {d:Nat} (hd:d≠0):(mkRat z d).num.natAbs=z.natAbs / Nat.gcd z.natAbs d:=by
  rw[(zkM z hd).1]
  have h1:(Nat.gcd z.natAbs d:Nat) ∣ z.natAbs:=Nat.gcd_dvd_left ..
  rw[Int.natAbs_ediv_of_dvd (Int.ofNat_dvd_left.2 h1)]; rfl
theorem zLr (z:Int) {d:Nat} (hd:d≠0):decide ((mkRat z d).num < 0)=decide (z < 0):=by
  rw[(zkM z hd).1]
  have hg:0 < Nat.gcd z.natAbs d:=Nat.gcd_pos_of_pos_right _ (by omega)
  have h1:((Nat.gcd z.natAbs d:Nat):Int) ∣ z:=Int.ofNat_dvd_left.2 (Nat.gcd_dvd_left ..)
  obtain ⟨c,hc⟩:=h1
  generalize Nat.gcd z.natAbs d=g at *
  rw[hc,Int.mul_ediv_cancel_left _ (by omega)]
  congr 1
  apply propext
  constructor
  · intro h; exact Int.mul_neg_of_pos_of_neg (by omega) h
  · intro h
    rcases Int.lt_or_le c 0 with h2 | h2
    · exact h2
    · have:=Int.mul_nonneg (show (0:Int)≤g by omega) h2; omega
theorem zP4 (z:Int) {d:Nat} (hd:d≠0):rq (mkRat z d)=⟨decide (z < 0),dg (z.natAbs / Nat.gcd z.natAbs d),dg (d / Nat.gcd z.natAbs d)⟩:=by
  unfold rq
  rw[zLr z hd,zCd z hd,(zkM z hd).2]
theorem zKG (z:Int) {d:Nat} (hd:d≠0):Fit (mkRat z d)↔(dg (z.natAbs / Nat.gcd z.natAbs d)).length≤24∧(dg (d / Nat.gcd z.natAbs d)).length≤24:=by
  unfold Fit
  rw[zCd z hd,(zkM z hd).2]
theorem zhz:dg 1=[1]:=zsh (by omega) (by omega)
theorem zLf:rq 0=⟨false,[],[1]⟩:=by
  unfold rq
  have h1:(0:Rat).num=0:=rfl
  have h2:(0:Rat).den=1:=rfl
  rw[h1,h2,show (0:Int).natAbs=0 from rfl,zaB,zhz]; rfl
theorem ziX:Fit 0:=by
  unfold Fit
  have h1:(0:Rat).num=0:=rfl
  have h2:(0:Rat).den=1:=rfl
  rw[h1,h2,show (0:Int).natAbs=0 from rfl,zaB,zhz]; simp
theorem zrj {m:Nat}:(cond (((dg m).length:Int)==1) ((idx (dg m) 0).bind fun e=>some (e==1)) (some false))=some (decide (m=1)):=by
  by_cases h1:(dg m).length=1
  · have hb:(((dg m).length:Int)==1)=true:=by rw[h1]; rfl
    obtain ⟨_,_,e⟩:=zwr h1
    rw[hb,cond_true,e,show ((0:Int)=((0:Nat):Int)) from rfl,zeV (x:=(m:Int)) (by rfl),Option.bind_some]
    congr 1
    rw[Bool.eq_iff_iff]; simp; omega
  · have hb:(((dg m).length:Int)==1)=false:=by rw[beq_eq_false_iff_ne]; omega
    rw[hb,cond_false]
    have:m≠1:=by rintro rfl; rw[zhz] at h1; exact h1 rfl
    rw[decide_eq_false this]
theorem zoY (m:Nat):zfj (dg m)=some (decide (m=1)):=zrj
theorem zd6 (m:Nat):zc2 (dg m)=some (decide (m=1)):=zrj
theorem zFD {xs:List Int}:decide ((xs.length:Int) > 24)=!decide (xs.length≤24):=by
  rw[Bool.eq_iff_iff]; simp; omega
theorem zMw {p q:Prop} [Decidable p] [Decidable q] {α:Type} {a b:α}:cond (!decide p) a (cond (!decide q) a b)=if p∧q then b else a:=by
  by_cases hp:p<;>by_cases hq:q<;>simp[hp,hq]
theorem zq9 (z:Int) {d:Nat} (hd:d≠0):ro (chk (mkRat z d))=if (dg (z.natAbs / Nat.gcd z.natAbs d)).length≤24∧(dg (d / Nat.gcd z.natAbs d)).length≤24 then ⟨decide (z < 0),dg (z.natAbs / Nat.gcd z.natAbs d),dg (d / Nat.gcd z.natAbs d)⟩ else ⟨false,[],[]⟩:=by
  by_cases h:Fit (mkRat z d)
  · rw[zgz h,if_pos ((zKG z hd).1 h)]; exact zP4 z hd
  · rw[zMP h,if_neg (fun k=>h ((zKG z hd).2 k))]; rfl
theorem zfR {z:Int} {d:Nat} (hd:d≠0) (hz:(dg z.natAbs).length≤100000000) (hl:(dg d).length≤100000000):zbR (bg z) (dg d)=some (ro (chk (mkRat z d))):=by
  unfold zbR bg
  simp only[]
  rw[zhA]
  by_cases h0:z.natAbs=0
  · have:z=0:=by omega
    subst this
    rw[decide_eq_true h0,cond_true,Rat.zero_mkRat,zgz ziX]
    exact congrArg some zLf.symm
  · rw [decide_eq_false h0,cond_false,impl_gcd hl hz (by omega),Option.bind_some,zoY,Option.bind_some,zq9 z hd]
    have hg0:0 < Nat.gcd d z.natAbs:=Nat.gcd_pos_of_pos_left _ (by omega)
    rw[Nat.gcd_comm z.natAbs d]
    by_cases h1:Nat.gcd d z.natAbs=1
    · rw[decide_eq_true h1,Bool.not_true,cond_false,h1,Nat.div_one,Nat.div_one,zFD,zFD,zMw]
      split<;>rfl
    · have hgl:(dg (Nat.gcd d z.natAbs)).length≤100000000:=Nat.le_trans (zbP (Nat.gcd_le_left _ (by omega))) hl
      have hzne:z.natAbs / Nat.gcd d z.natAbs≠0:=by
        have:=Nat.div_pos (Nat.gcd_le_right (n:=z.natAbs) d (by omega)) hg0
        omega
      rw[decide_eq_false h1,Bool.not_false,cond_true,impl_div hz hgl hg0,Option.bind_some]
      simp only[]
      rw[impl_div hl hgl hg0,Option.bind_some]
      simp only[]
      rw[zc0,Option.bind_some,zFc hzne,zFD,zFD,zMw]
      split<;>rfl
theorem zrY {z:Int} {d:Nat} (hd:d≠0) (hz:(dg z.natAbs).length≤100000000) (hl:(dg d).length≤100000000):zfE (bg z) (dg d)=some (ro (chk (mkRat z d))):=zfR hd hz hl
theorem zmA {neg:Bool} {m d:Nat} (hd:d≠0) (hz:(dg m).length≤100000000) (hl:(dg d).length≤100000000):zaO neg (dg m) (dg d)=some (ro (chk (mkRat (sg neg m) d))):=by
  unfold zaO
  rw[zgH (by omega),Option.bind_some,zgH (by omega),Option.bind_some,zhA,decide_eq_false hd,cond_false,zd6,Option.bind_some,zq9 _ hd,zkC]
  have fin:∀ (p e:Nat),(m=0↔p=0)→((cond (decide (((dg p).length:Int) > 24)) (some (⟨false,([]:List Int),([]:List Int)⟩:Rt)) (cond (decide (((dg e).length:Int) > 24)) (some (⟨false,([]:List Int),([]:List Int)⟩:Rt)) ((zav neg (dg p)).bind fun r3=>(zak (Nat.ble (dg e).length zan)).bind fun _=>some (⟨r3.neg,r3.mag,dg e⟩:Rt))))
      = some (if (dg p).length≤24∧(dg e).length≤24 then ⟨decide (sg neg m < 0),dg p,dg e⟩ else ⟨false,[],[]⟩)):=by
    intro p e hpm
    rw[zFD,zFD,zMw]
    by_cases hf:(dg p).length≤24∧(dg e).length≤24
    · rw [if_pos hf,if_pos hf,zdk neg (by omega),Option.bind_some,room (by omega),Option.bind_some]
      by_cases hp:p=0
      · subst hp; have:=hpm.2 rfl; subst this; rw[zpG,zqS,zaB]; rfl
      · have hm:m≠0:=fun e=>hp (hpm.1 e)
        rw[zFc hp,zwf hm]
    · rw[if_neg hf,if_neg hf]
  by_cases h1:d=1
  · rw[decide_eq_true h1,Bool.not_true,cond_false]
    subst h1
    rw[Nat.gcd_one_right,Nat.div_one,Nat.div_one]
    exact fin m 1 Iff.rfl
  · have hg0:0 < Nat.gcd m d:=Nat.gcd_pos_of_pos_right _ (by omega)
    rw[decide_eq_false h1,Bool.not_false,cond_true,spec_gcd hz hl,Option.bind_some,zd6,Option.bind_some]
    by_cases h2:Nat.gcd m d=1
    · rw[decide_eq_true h2,Bool.not_true,cond_false,h2,Nat.div_one,Nat.div_one]
      exact fin m d Iff.rfl
    · have hgl:(dg (Nat.gcd m d)).length≤100000000:=Nat.le_trans (zbP (Nat.gcd_le_right _ (by omega))) hl
      rw[decide_eq_false h2,Bool.not_false,cond_true,zpC hz hgl hg0,Option.bind_some]
      simp only[]
      rw[zpC hl hgl hg0,Option.bind_some]
      simp only[]
      refine fin _ _ ⟨fun e=>by rw[e,Nat.zero_div],fun e=>?_⟩
      rcases Nat.eq_zero_or_pos m with h | h
      · exact h
      · have:=Nat.div_pos (Nat.gcd_le_left (m:=m) d h) hg0; omega
theorem zgI {neg:Bool} {m:Nat} (hz:(dg m).length≤100000000):zaO neg (dg m) (dg 0)=some (ro none):=by
  unfold zaO
  rw[zgH (by omega),Option.bind_some,zgH (by rw[zaB]; simp),Option.bind_some,zhA,decide_eq_true rfl,cond_true]; rfl
end Go.Di
namespace Go.Di
def zPV (o p:Option Rat):Option Rat:=o.bind fun q=>p.bind fun r=>chk (q+r)
def zms (o p:Option Rat):Option Rat:=o.bind fun q=>p.bind fun r=>chk (q * r)
def divO (o p:Option Rat):Option Rat:=o.bind fun q=>p.bind fun r=>if r=0 then none else chk (q / r)
def zLq (o:Option Rat):Option Rat:=o.map fun q => -q
def zpA (o p:Option Rat):Option Rat:=zPV o (zLq p)
theorem zF7 {o p:Option Rat}:Oks (zPV o p):=ziP fun _=>ziP fun _=>zpP _
theorem zww {o p:Option Rat}:Oks (zms o p):=ziP fun _=>ziP fun _=>zpP _
theorem zwt {o p:Option Rat}:Oks (zpA o p):=zF7
theorem zF6 {o p:Option Rat}:Oks (divO o p):=ziP fun _=>ziP fun r=>by
  split
  · exact zwv
  · exact zpP _
theorem zMC {q:Rat} (h:Fit q):Fit (-q):=by
  unfold Fit at *
  rw[show (-q).num = -q.num from rfl,show (-q).den=q.den from rfl,Int.natAbs_neg]; exact h
theorem zpO {o:Option Rat} (h:Oks o):Oks (zLq o):=fun q hq=>by
  cases o with
  | none=>cases hq
  | some r=>cases hq; exact zMC (h r rfl)
theorem zeR:ro none=⟨false,dg 0,dg 0⟩:=by rw[zaB]; rfl
theorem zkF {o:Option Rat} (h:Oks o):(ro o).den.length≤24:=by
  cases o with
  | none=>simp[ro]
  | some q=>exact (h q rfl).2
theorem zna {o:Option Rat} (h:Oks o):(ro o).mag.length≤24:=by
  cases o with
  | none=>simp[ro]
  | some q=>exact (h q rfl).1
theorem zKl {o:Option Rat} (h:Oks o):(ro o).fit:=⟨by have:=zna h; omega,by have:=zkF h; omega⟩
theorem zwV (o:Option Rat):(((ro o).den.length:Int)==0)=o.isNone:=by
  cases o with
  | none=>rfl
  | some q =>
    show (((dg q.den).length:Int)==0)=false
    rw[zhA,decide_eq_false q.den_nz]
theorem zeg (o:Option Rat):zbx (ro o)=some o.isNone:=by unfold zbx; rw[zwV]
theorem znq (a b:Rat) (h:a.den=b.den):mkRat (a.num+b.num) a.den=a+b:=by
  rw[Rat.add_def',Rat.mkRat_eq_iff a.den_nz (Nat.mul_ne_zero a.den_nz b.den_nz),← h]
  simp only[Int.natCast_mul]
  grind
theorem zKw (a b:Rat):mkRat (a.num * b.den+b.num * a.den) (a.den * b.den)=a+b:=(Rat.add_def' a b).symm
theorem zCa (a b:Rat):mkRat (a.num * b.num) (a.den * b.den)=a * b:=(Rat.mul_def' a b).symm
theorem zCb (a b:Rat) (hb:b≠0):mkRat (a.num * sg (decide (b.num < 0)) b.den) (a.den * b.num.natAbs)=a / b:=by
  have hn:b.num≠0:=fun h=>hb (Rat.num_eq_zero.1 h)
  have hd:a.den * b.num.natAbs≠0:=Nat.mul_ne_zero a.den_nz (by omega)
  have key:mkRat (a.num * sg (decide (b.num < 0)) b.den) (a.den * b.num.natAbs) * b=a:=by
    have e1:b=mkRat b.num b.den:=(Rat.mkRat_self b).symm
    have e2:a=mkRat a.num a.den:=(Rat.mkRat_self a).symm
    rw[e1,Rat.mkRat_mul_mkRat,e2,Rat.mkRat_eq_iff (Nat.mul_ne_zero (by rw[Rat.mkRat_self,Rat.mkRat_self]; exact hd) b.den_nz) a.den_nz]
    simp only[Rat.mkRat_self]
    have hs:sg (decide (b.num < 0)) b.den * b.num=(b.den:Int) * (b.num.natAbs:Int):=by
      by_cases h:b.num < 0
      · rw[decide_eq_true h]; simp only[sg,cond_true]
        have:((b.num.natAbs:Nat):Int) = -b.num:=by omega
        rw[this]; grind
      · rw[decide_eq_false h]; simp only[sg,cond_false]
        have:((b.num.natAbs:Nat):Int)=b.num:=by omega
        rw[this]
    simp only[Int.natCast_mul]
    grind
  generalize mkRat (a.num * sg (decide (b.num < 0)) b.den) (a.den * b.num.natAbs)=x at *
  rw[← key,Rat.mul_div_cancel hb]
theorem zeQ {a b:Nat} (ha:(dg a).length≤24) (hb:(dg b).length≤24):(dg (a * b)).length≤48:=by have:=ziT a b; omega
theorem zKK {n:Nat}:bg (n:Int)=⟨false,dg n⟩:=by
  unfold bg
  rw[decide_eq_false (by omega),Int.natAbs_natCast]
theorem zkA {x:Int} {b:Nat} (ha:(dg x.natAbs).length≤24) (hb:(dg b).length≤24):(dg (x * (b:Int)).natAbs).length≤48:=by
  rw[Int.natAbs_mul,Int.natAbs_natCast]; exact zeQ ha hb
theorem zkB {x y:Int} {k:Nat} (ha:(dg x.natAbs).length≤k) (hb:(dg y.natAbs).length≤k):(dg (x+y).natAbs).length≤k+1 :=
  Nat.le_trans (zbP (show (x+y).natAbs≤x.natAbs+y.natAbs by omega)) (zoS ha hb)
theorem zD0 {o p:Option Rat} (ho:Oks o) (hp:Oks p):zjK (ro o) (ro p)=some (ro (zPV o p)):=by
  unfold zjK
  rw[zeg,zeg]
  cases o with
  | none=>rfl
  | some q =>
    cases p with
    | none=>rfl
    | some r =>
      have fq:=ho q rfl
      have fr:=hp r rfl
      simp only[Option.isNone_some,Option.bind_some,cond_false]
      rw[zDY (by have:=zkF ho; omega),Option.bind_some]
      show cond _ ((zdM (bg q.num) (bg r.num)).bind _) ((zbE (bg q.num) ⟨false,dg r.den⟩).bind fun r4=>(zbE (bg r.num) ⟨false,dg q.den⟩).bind _)=_
      by_cases h:q.den=r.den
      · have:eqB (ro (some q)).den (ro (some r)).den=true:=zd5.2 (congrArg dg h)
        rw[this,cond_true,znE (by have:=fq.1; omega) (by have:=fr.1; omega),Option.bind_some,zfS (by have:=zkF ho; omega),Option.bind_some]
        show (zbR (bg (q.num+r.num)) (dg q.den)).bind _=_
        rw[zfR q.den_nz (by have:=zkB fq.1 fr.1; omega) (by have:=fq.2; omega),Option.bind_some,znq q r h]; rfl
      · have:eqB (ro (some q)).den (ro (some r)).den=false:=zkT.2 fun e=>h (zOK e)
        rw[this,cond_false,← zKK,← zKK,zhs (by have:=fq.1; omega) (by have:=fr.2; rw[Int.natAbs_natCast]; omega),Option.bind_some,zhs (by have:=fr.1; omega) (by have:=fq.2; rw[Int.natAbs_natCast]; omega),Option.bind_some]
        have h1:=zkA fq.1 fr.2
        have h2:=zkA fr.1 fq.2
        rw[znE (by omega) (by omega),Option.bind_some]
        show ((zbc (dg q.den) (dg r.den)).bind _)=_
        have h3:=zeQ fq.2 fr.2
        have h4:=zkB h1 h2
        rw[ziU (by have:=fq.2; omega) (by have:=fr.2; omega),Option.bind_some,zfR (Nat.mul_ne_zero q.den_nz r.den_nz) (by omega) (by omega),Option.bind_some,zKw]; rfl
theorem zDW {o p:Option Rat} (ho:Oks o) (hp:Oks p):zeb (ro o) (ro p)=some (ro (zms o p)):=by
  unfold zeb
  rw[zeg,zeg]
  cases o with
  | none=>rfl
  | some q =>
    cases p with
    | none=>rfl
    | some r =>
      have fq:=ho q rfl
      have fr:=hp r rfl
      simp only[Option.isNone_some,Option.bind_some,cond_false]
      show ((zbE (bg q.num) (bg r.num)).bind fun r3=>(zbc (dg q.den) (dg r.den)).bind _)=_
      have h3:=zeQ fq.2 fr.2
      have h4:=zeQ fq.1 fr.1
      rw[zhs (by have:=fq.1; omega) (by have:=fr.1; omega),Option.bind_some,ziU (by have:=fq.2; omega) (by have:=fr.2; omega),Option.bind_some,zfR (Nat.mul_ne_zero q.den_nz r.den_nz) (by rw[Int.natAbs_mul]; omega) (by omega),Option.bind_some,zCa]; rfl
theorem impl_divO {o p:Option Rat} (ho:Oks o) (hp:Oks p):zfN (ro o) (ro p)=some (ro (divO o p)):=by
  unfold zfN
  rw[zeg,zeg]
  cases o with
  | none=>rfl
  | some q =>
    cases p with
    | none=>rfl
    | some r =>
      have fq:=ho q rfl
      have fr:=hp r rfl
      simp only[Option.isNone_some,Option.bind_some,cond_false]
      have hl:(((ro (some r)).mag.length:Int)==0)=decide (r.num.natAbs=0):=zhA
      rw[hl]
      by_cases h0:r=0
      · have:r.num.natAbs=0:=by rw[h0]; rfl
        rw[decide_eq_true this,cond_true]
        simp[divO,h0,ro]
      · have hn:r.num.natAbs≠0:=fun h=>h0 (Rat.num_eq_zero.1 (by omega))
        rw[decide_eq_false hn,cond_false]
        unfold zeb
        rw[zeg]
        simp only[Option.isNone_some,Option.bind_some,cond_false]
        have hv:zbx (⟨(ro (some r)).neg,(ro (some r)).den,(ro (some r)).mag⟩:Rt)=some false:=by
          unfold zbx
          rw[show ((((⟨(ro (some r)).neg,(ro (some r)).den,(ro (some r)).mag⟩:Rt).den.length:Nat):Int)==0)=decide (r.num.natAbs=0) from zhA,decide_eq_false hn]
        rw[hv,Option.bind_some,cond_false]
        have hb:(⟨(ro (some r)).neg,(ro (some r)).den⟩:Bg)=bg (sg (decide (r.num < 0)) r.den):=(zFc r.den_nz).symm
        show (((zbE (bg q.num) ⟨(ro (some r)).neg,(ro (some r)).den⟩).bind fun r3=>(zbc (dg q.den) (dg r.num.natAbs)).bind fun r4=>_).bind _)=_
        rw[hb]
        have h3:=zeQ fq.2 fr.1
        have h4:=zeQ fq.1 fr.2
        rw[zhs (by have:=fq.1; omega) (by have:=fr.2; rw[zkC]; omega),Option.bind_some,ziU (by have:=fq.2; omega) (by have:=fr.1; omega),Option.bind_some,zfR (Nat.mul_ne_zero q.den_nz hn) (by rw[Int.natAbs_mul,zkC]; omega) (by omega),Option.bind_some,Option.bind_some,zCb q r h0]
        simp[divO,h0]
theorem zrX {o:Option Rat} (ho:Oks o):zfM (ro o)=some (ro (zLq o)):=by
  unfold zfM
  rw[zeg]
  cases o with
  | none=>rfl
  | some q =>
    have fq:=ho q rfl
    simp only[Option.isNone_some,Option.bind_some,cond_false]
    show ((zeK (bg q.num)).bind fun r2=>(zaN (dg q.den)).bind _)=_
    rw[zvi (by have:=fq.1; omega),Option.bind_some,zfS (by have:=fq.2; omega),Option.bind_some]
    show some (⟨decide (-q.num < 0),dg (-q.num).natAbs,dg q.den⟩:Rt)=some ⟨decide ((-q).num < 0),dg (-q).num.natAbs,dg (-q).den⟩
    rfl
theorem zDV {o p:Option Rat} (ho:Oks o) (hp:Oks p):zg2 (ro o) (ro p)=some (ro (zpA o p)):=by
  unfold zg2
  rw[zrX hp,Option.bind_some,zD0 ho (zpO hp)]; rfl
/-! ### The reference's -/
theorem zA8 {o p:Option Rat} (ho:Oks o) (hp:Oks p):zes (ro o) (ro p)=some (ro (zms o p)):=by
  unfold zes
  have hom:=zna ho
  have hpm:=zna hp
  have hod:=zkF ho
  have hpd:=zkF hp
  cases o with
  | none =>
    obtain ⟨m,d,e1,e2⟩:∃ m d:Nat,(ro p).mag=dg m∧(ro p).den=dg d:=by
      cases p with
      | none=>exact ⟨0,0,zaB.symm,zaB.symm⟩
      | some r=>exact ⟨_,_,rfl,rfl⟩
    rw[e1] at hpm; rw[e2] at hpd
    rw[zeR,e1,e2]
    rw[zcl (by rw[zaB]; simp) (by omega),Option.bind_some,zcl (by rw[zaB]; simp) (by omega),Option.bind_some,Nat.zero_mul,Nat.zero_mul,zgI (by rw[zaB]; simp),Option.bind_some]; rfl
  | some q =>
    cases p with
    | none =>
      have fq:=ho q rfl
      rw[zeR]
      show ((zat (dg q.num.natAbs) (dg 0)).bind fun r1=>(zat (dg q.den) (dg 0)).bind _)=_
      rw[zcl (by have:=fq.1; omega) (by rw[zaB]; simp),Option.bind_some,zcl (by have:=fq.2; omega) (by rw[zaB]; simp),Option.bind_some,Nat.mul_zero,Nat.mul_zero,zgI (by rw[zaB]; simp),Option.bind_some]; rfl
    | some r =>
      have fq:=ho q rfl
      have fr:=hp r rfl
      have h3:=zeQ fq.2 fr.2
      have h4:=zeQ fq.1 fr.1
      show ((zat (dg q.num.natAbs) (dg r.num.natAbs)).bind fun r1=>(zat (dg q.den) (dg r.den)).bind fun r2=>(zaO (!(decide (q.num < 0)==decide (r.num < 0))) r1 r2).bind _)=_
      rw[zcl (by have:=fq.1; omega) (by have:=fr.1; omega),Option.bind_some,zcl (by have:=fq.2; omega) (by have:=fr.2; omega),Option.bind_some,zmA (Nat.mul_ne_zero q.den_nz r.den_nz) (by omega) (by omega),Option.bind_some,zBD,zCa]; rfl
theorem zwe (x:Int) (d:Nat):sg (decide (x < 0)) (x.natAbs * d)=x * d:=by
  by_cases h:x < 0
  · rw [decide_eq_true h]; simp only[sg,cond_true]
    have:((x.natAbs * d:Nat):Int)=(-x) * d:=by
      rw[Int.natCast_mul]; congr 1; omega
    rw[this]; grind
  · rw[decide_eq_false h]; simp only[sg,cond_false]
    rw[Int.natCast_mul]; congr 1; omega
theorem spec_addO {o p:Option Rat} (ho:Oks o) (hp:Oks p):zdH (ro o) (ro p)=some (ro (zPV o p)):=by
  have hom:=zna ho
  have hpm:=zna hp
  have hod:=zkF ho
  have hpd:=zkF hp
  -- the long way, for any two values
  have long:∀ (x y:Int) (d e:Nat),(dg x.natAbs).length≤24→(dg y.natAbs).length≤24→(dg d).length≤24→(dg e).length≤24 →
      ((zat (dg x.natAbs) (dg e)).bind fun r2 =>
      (zav (decide (x < 0)) r2).bind fun r3 =>
      (zat (dg y.natAbs) (dg d)).bind fun r4 =>
      (zav (decide (y < 0)) r4).bind fun r5 =>
      (zcq r3 r5).bind fun r6 =>
      (zat (dg d) (dg e)).bind fun r7 =>
      (zaO r6.neg r6.mag r7).bind fun r8 =>
      some r8)=some (if d * e=0 then ro none else ro (chk (mkRat (x * e+y * d) (d * e)))):=by
    intro x y d e hx hy hd he
    have h1:=zeQ hx he
    have h2:=zeQ hy hd
    have h3:=zeQ hd he
    rw[zcl (by omega) (by omega),Option.bind_some,zdk _ (by omega),Option.bind_some,zcl (by omega) (by omega),Option.bind_some,zdk _ (by omega),Option.bind_some,zwe,zwe]
    have h4:=zkA hx he
    have h5:=zkA hy hd
    have h6:=zkB h4 h5
    rw[zm4 (by omega) (by omega),Option.bind_some,zcl (by omega) (by omega),Option.bind_some]
    show ((zaO (decide (x * e+y * d < 0)) (dg (x * e+y * d).natAbs) (dg (d * e))).bind fun r8=>some r8)=_
    by_cases h0:d * e=0
    · rw[h0,if_pos rfl,zgI (by omega)]; rfl
    · rw[if_neg h0,zmA h0 (by omega) (by omega),Option.bind_some,zBi]
  cases o with
  | none =>
    obtain ⟨y,d,e1,e2,e3⟩:∃ (y:Int) (d:Nat),(ro p).neg=decide (y < 0)∧(ro p).mag=dg y.natAbs∧(ro p).den=dg d:=by
      cases p with
      | none=>exact ⟨0,0,rfl,zaB.symm,zaB.symm⟩
      | some r=>exact ⟨_,_,rfl,rfl,rfl⟩
    rw[e2] at hpm; rw[e3] at hpd
    have hl:=long 0 y 0 d (by rw[show (0:Int).natAbs=0 from rfl,zaB]; simp) hpm (by rw[zaB]; simp) hpd
    rw[Nat.zero_mul,if_pos rfl] at hl
    unfold zdH
    rw[zeR,zd6,Option.bind_some,decide_eq_false (by omega),cond_false,e1,e2,e3]
    exact hl
  | some q =>
    have fq:=ho q rfl
    cases p with
    | none =>
      have hl:=long q.num 0 q.den 0 fq.1 (by rw[show (0:Int).natAbs=0 from rfl,zaB]; simp) fq.2 (by rw[zaB]; simp)
      rw[Nat.mul_zero,if_pos rfl] at hl
      unfold zdH
      rw[show (ro (some q)).den=dg q.den from rfl,zd6,Option.bind_some,zeR,zd6]
      cases decide (q.den=1) with
      | false=>exact hl
      | true=>simp only[cond_true,Option.bind_some,decide_eq_false (show ¬ (0:Nat)=1 by omega),cond_false]; exact hl
    | some r =>
      have fr:=hp r rfl
      have hl:=long q.num r.num q.den r.den fq.1 fr.1 fq.2 fr.2
      rw[if_neg (Nat.mul_ne_zero q.den_nz r.den_nz),zKw] at hl
      unfold zdH
      rw[show (ro (some q)).den=dg q.den from rfl,zd6,Option.bind_some,show (ro (some r)).den=dg r.den from rfl,zd6]
      by_cases hq1:q.den=1
      · rw [decide_eq_true hq1,cond_true,Option.bind_some]
        by_cases hr1:r.den=1
        · rw[decide_eq_true hr1,cond_true]
          show ((zcq (bg q.num) (bg r.num)).bind _)=_
          have h6:=zkB fq.1 fr.1
          rw[zm4 (by have:=fq.1; omega) (by have:=fr.1; omega),Option.bind_some,← zhz]
          show ((zaO (decide (q.num+r.num < 0)) (dg (q.num+r.num).natAbs) (dg 1)).bind fun r8=>some r8)=_
          have:=znq q r (by rw[hq1,hr1])
          rw[zmA (by omega) (by omega) (by rw[zhz]; simp),Option.bind_some,zBi]
          rw[hq1] at this
          rw[this]; rfl
        · rw[decide_eq_false hr1,cond_false]; exact hl
      · rw[decide_eq_false hq1,cond_false]; exact hl
end Go.Di
namespace Go.Di
def Good (r:Rt):Prop:=∃ q:Rat,Fit q∧r=rq q
theorem Fit.good {q:Rat} (h:Fit q):Good (rq q):=⟨q,h,rfl⟩
theorem Good.ro {r:Rt} (h:Good r):∃ q:Rat,Fit q∧r=ro (some q):=h
def zMX (r:Rt):Prop:=zkt r.mag∧(r.mag≠[]∨r.neg=false)∧zkt r.den∧r.den≠[]∧r.mag.length≤24∧r.den.length≤24∧Nat.gcd (nv r.den).toNat (nv r.mag).toNat=1
theorem zwN {r:Rt}:Good r↔zMX r:=by
  constructor
  · rintro ⟨q,hf,rfl⟩
    have h24:=hf.1
    have h24':=hf.2
    refine ⟨⟨zbY _,by show (dg q.num.natAbs).length≤60; omega⟩,?_,⟨zbY _,by show (dg q.den).length≤60; omega⟩,fun h=>q.den_nz (zfX.1 h),h24,h24',?_⟩
    · by_cases h:q.num < 0
      · left; intro e; have:=zfX.1 e; omega
      · right; exact decide_eq_false h
    · show Nat.gcd (nv (dg q.den)).toNat (nv (dg q.num.natAbs)).toNat=1
      rw[zcx,zcx,Int.toNat_natCast,Int.toNat_natCast,Nat.gcd_comm]; exact q.reduced
  · rintro ⟨⟨h1,_⟩,h2,⟨h3,_⟩,h4,h5,h6,h7⟩
    obtain ⟨neg,mag,den⟩:=r
    simp only at h1 h2 h3 h4 h5 h6 h7
    have e1:=h1.dg
    have e2:=h3.dg
    generalize (nv mag).toNat=m at *
    generalize (nv den).toNat=d at *
    subst e1; subst e2
    have hd:d≠0:=fun h=>h4 (by rw[h,zaB])
    let q:Rat:=Rat.mk' (sg neg m) d hd (by rw[zkC]; show Nat.gcd m d=1; rw[Nat.gcd_comm]; exact h7)
    refine ⟨q,⟨by show (dg (sg neg m).natAbs).length≤24; rw[zkC]; exact h5,h6⟩,?_⟩
    show _=(⟨decide (sg neg m < 0),dg (sg neg m).natAbs,dg d⟩:Rt)
    rw[zkC]
    by_cases hm:m=0
    · subst hm
      rcases h2 with h2 | h2
      · exact absurd zaB h2
      · rw[h2]; rfl
    · rw[zwf hm]
theorem zRd {a:List Int}:((a.length:Int)==0)=pB (a=[]):=by
  rw[Bool.eq_iff_iff,pB_iff]; simp
theorem zRc {a:List Int}:decide ((a.length:Int) > 0)=pB (a≠[]):=by
  rw[Bool.eq_iff_iff,pB_iff]; simp[List.length_pos_iff]
theorem zKt {p:Prop} [Decidable p]:pB p=decide p:=by rw[Bool.eq_iff_iff,pB_iff,decide_eq_true_iff]
theorem zKF {d m:Nat} {x:Option (List Int)} (h:x=some (dg (Nat.gcd d m))) {k:List Int→Option Bool} (hk:∀ g:Nat,k (dg g)=some (decide (g=1))) :
    (x.bind fun r3=>(k r3).bind fun r4=>some r4)=some (decide (Nat.gcd d m=1)):=by
  rw[h,Option.bind_some,hk]; rfl
theorem impl_ratOk {r:Rt} (h:r.fit):zgs r=some (pB (Good r)):=by
  rw[zmG zwN]
  unfold zgs zcg
  rw[impl_natOk h.1,impl_natOk h.2,zRc,zRd,zFD,zFD]
  simp only[Option.bind_some]
  unfold zMX
  by_cases h1:zkt r.mag
  · rw [pB_iff.2 h1,cond_true]
    by_cases h2:r.mag≠[]∨r.neg=false
    · have hb : cond (pB (r.mag≠[])) (some true) (some (!r.neg))=some true:=by
        rcases h2 with h2 | h2
        · rw[pB_iff.2 h2]; rfl
        · rw[h2]; cases pB (r.mag≠[])<;>rfl
      rw[hb]
      simp only[Option.bind_some,Bool.not_true,cond_false]
      by_cases h3:zkt r.den
      · rw [pB_iff.2 h3]
        simp only[Bool.not_true,cond_false]
        by_cases h4:r.den=[]
        · rw[pB_iff.2 h4,cond_true]; symm; rw[pB_not.2 (fun k=>k.2.2.2.1 h4)]
        · rw [pB_not.2 h4,cond_false]
          by_cases h5:r.mag.length≤24
          · rw [decide_eq_true h5]
            simp only[Bool.not_true,cond_false]
            by_cases h6:r.den.length≤24
            · rw [decide_eq_true h6]
              simp only[Bool.not_true,cond_false]
              have e1:=h1.1.dg
              have e2:=h3.1.dg
              have hd0:0 < (nv r.den).toNat:=by
                rcases Nat.eq_zero_or_pos (nv r.den).toNat with h | h
                · rw[h,zaB] at e2; exact absurd e2 h4
                · exact h
              have hg:=impl_gcd (m:=(nv r.den).toNat) (n:=(nv r.mag).toNat) (by rw[← e2]; omega) (by rw[← e1]; omega) hd0
              rw[← e2,← e1] at hg
              rw[zKF hg zoY,← zKt]
              congr 1
              exact zmG ⟨fun h=>⟨h1,h2,h3,h4,h5,h6,h⟩,fun h=>h.2.2.2.2.2.2⟩
            · rw[decide_eq_false h6]; symm; rw[pB_not.2 (fun k=>h6 k.2.2.2.2.2.1)]; rfl
          · rw[decide_eq_false h5]; symm; rw[pB_not.2 (fun k=>h5 k.2.2.2.2.1)]; rfl
      · rw[pB_not.2 h3]; symm; rw[pB_not.2 (fun k=>h3 k.2.2.1)]; rfl
    · have hb:cond (pB (r.mag≠[])) (some true) (some (!r.neg))=some false:=by
        have h3:¬ r.mag≠[]:=fun h=>h2 (.inl h)
        have h4:r.neg=true:=by
          cases hn:r.neg with
          | true=>rfl
          | false=>exact absurd (.inr hn) h2
        rw[pB_not.2 h3,h4]; rfl
      rw[hb]; symm; rw[pB_not.2 (fun k=>h2 k.2.1)]; rfl
  · rw[pB_not.2 h1]; symm; rw[pB_not.2 (fun k=>h1 k.1)]; rfl
theorem spec_ratOk {r:Rt} (h:r.fit):zgo r=some (pB (Good r)):=by
  rw[zmG zwN]
  unfold zgo zf5
  rw[spec_natOk h.1,spec_natOk h.2,zRc,zRd,zFD,zFD]
  simp only[Option.bind_some]
  unfold zMX
  by_cases h1:zkt r.mag
  · rw [pB_iff.2 h1,cond_true]
    by_cases h2:r.mag≠[]∨r.neg=false
    · have hb : cond (!r.neg) (some true) (some (pB (r.mag≠[])))=some true:=by
        rcases h2 with h2 | h2
        · rw[pB_iff.2 h2]; cases r.neg<;>rfl
        · rw[h2]; rfl
      rw[hb]
      simp only[Option.bind_some,Bool.not_true,cond_false]
      by_cases h3:zkt r.den
      · rw [pB_iff.2 h3]
        simp only[Bool.not_true,cond_false]
        by_cases h4:r.den=[]
        · rw[pB_iff.2 h4,cond_true]; symm; rw[pB_not.2 (fun k=>k.2.2.2.1 h4)]
        · rw [pB_not.2 h4,cond_false]
          by_cases h6:r.den.length≤24
          · rw [decide_eq_true h6]
            simp only[Bool.not_true,cond_false]
            by_cases h5:r.mag.length≤24
            · rw[decide_eq_true h5]
              simp only[Bool.not_true,cond_false]
              have e1:=h1.1.dg
              have e2:=h3.1.dg
              have hg:=spec_gcd (m:=(nv r.mag).toNat) (n:=(nv r.den).toNat) (by rw[← e1]; omega) (by rw[← e2]; omega)
              rw[← e2,← e1] at hg
              rw[zKF hg zd6,← zKt]
              congr 1
              exact zmG ⟨fun h=>⟨h1,h2,h3,h4,h5,h6,by rw[Nat.gcd_comm]; exact h⟩,fun h=>by rw[Nat.gcd_comm]; exact h.2.2.2.2.2.2⟩
            · rw[decide_eq_false h5]; symm; rw[pB_not.2 (fun k=>h5 k.2.2.2.2.1)]; rfl
          · rw[decide_eq_false h6]; symm; rw[pB_not.2 (fun k=>h6 k.2.2.2.2.2.1)]; rfl
      · rw[pB_not.2 h3]; symm; rw[pB_not.2 (fun k=>h3 k.2.2.1)]; rfl
    · have hb:cond (!r.neg) (some true) (some (pB (r.mag≠[])))=some false:=by
        have h3:¬ r.mag≠[]:=fun h=>h2 (.inl h)
        have h4:r.neg=true:=by
          cases hn:r.neg with
          | true=>rfl
          | false=>exact absurd (.inr hn) h2
        rw[pB_not.2 h3,h4]; rfl
      rw[hb]; symm; rw[pB_not.2 (fun k=>h2 k.2.1)]; rfl
  · rw[pB_not.2 h1]; symm; rw[pB_not.2 (fun k=>h1 k.1)]; rfl
/-! ### Whole numbers -/
theorem zoZ {n:Int} (h1 : -9223372036854775808≤n) (h2:n≤9223372036854775807):zdA n=some (bg n):=by
  unfold zdA
  by_cases h:n ≥ 0
  · rw[decide_eq_true h,cond_true,zlh h2,Option.bind_some,zc0,Option.bind_some]
    congr 2
    simp only[sg,cond_false]; omega
  · rw[decide_eq_false h,cond_false,wrap_i64 (n:=n+1) (by omega) (by omega),wrap_i64 (n:=0 - (n+1)) (by omega) (by omega),zlh (by omega),Option.bind_some,← zhz]
    have hs:=zgP (show (0 - (n+1)).toNat≤9223372036854775807 by omega)
    rw[zwK (by omega) (by rw[zhz]; simp),Option.bind_some,zc0,Option.bind_some]
    congr 2
    simp only[sg,cond_true]; omega
theorem zNX:([854775808,223372036,9]:List Int)=dg 9223372036854775808:=by
  refine zEl ⟨fun d hd=>?_,by simp[zqU]⟩ (by simp[nv])
  simp at hd
  omega
theorem zyV {n:Int} (h1 : -9223372036854775808≤n) (h2:n≤9223372036854775807):zey n=some (bg n):=by
  unfold zey
  by_cases h:n = -9223372036854775808
  · have hb:(n == -9223372036854775808)=true:=by rw[beq_iff_eq]; exact h
    obtain ⟨K,hK,hKv⟩:∃ K:Nat,([854775808,223372036,9]:List Int)=dg K∧K=n.natAbs:=⟨_,zNX,by omega⟩
    have hl:(dg K).length≤60:=by rw[← hK]; simp
    rw[hb,cond_true,hK,zdk _ hl,Option.bind_some]
    congr 2
    simp only[sg,cond_true]; omega
  · have hb:(n == -9223372036854775808)=false:=by rw[beq_eq_false_iff_ne]; exact h
    rw[hb,cond_false]
    by_cases h0:n < 0
    · rw[decide_eq_true h0,cond_true,wrap_i64 (n:=0 - n) (by omega) (by omega),zeP (by omega),Option.bind_some]
      have hs:=zgP (show (0 - n).toNat≤9223372036854775807 by omega)
      rw[zdk _ (by omega),Option.bind_some]
      congr 2
      simp only[sg,cond_true]; omega
    · rw[decide_eq_false h0,cond_false,zeP h2,Option.bind_some]
      have hs:=zgP (show n.toNat≤9223372036854775807 by omega)
      rw[zdk _ (by omega),Option.bind_some]
      congr 2
      simp only[sg,cond_false]; omega
theorem zva {n:Int} (h1 : -9223372036854775808≤n) (h2:n≤9223372036854775807):(dg n.natAbs).length≤3:=zfe.2 (by simp[bp]; omega)
theorem zvo {n:Int} (h1 : -9223372036854775808≤n) (h2:n≤9223372036854775807):Fit (n:Rat):=by
  unfold Fit
  rw[Rat.num_intCast,Rat.den_intCast,zhz]
  exact ⟨by have:=zva h1 h2; omega,by simp⟩
theorem zNO (n:Int):rq (n:Rat)=⟨(bg n).neg,(bg n).mag,[1]⟩:=by
  unfold rq bg
  rw[Rat.num_intCast,Rat.den_intCast,zhz]
theorem zIL {z:Int} (h:(dg z.natAbs).length≤60):zkt (bg z).mag:=⟨zbY _,h⟩
theorem zr0 {z:Int} (h:(dg z.natAbs).length≤60):zcg (bg z)=some true:=by
  unfold zcg
  rw[impl_natOk (by show (dg z.natAbs).length≤1048576; omega),pB_iff.2 (zIL h),Option.bind_some,cond_true]
  show cond (decide (((dg z.natAbs).length:Int) > 0)) (some true) (some (!decide (z < 0)))=some true
  rw[zsi]
  by_cases h0:z.natAbs≠0
  · rw[decide_eq_true h0]; rfl
  · rw[decide_eq_false h0,decide_eq_false (by omega)]; rfl
theorem zmk {r:Rt} (h:r.mag.length≤1048576∧r.den.length≤1048576):zd0 r=some r:=by
  unfold zd0
  rw[zfS (by omega),Option.bind_some,zfS (by omega),Option.bind_some]
theorem zq3 {r:Rt} (h:r.mag.length≤1048576∧r.den.length≤1048576):ze9 r=some r:=by
  unfold ze9
  rw[room (by omega),Option.bind_some,room (by omega),Option.bind_some]
theorem zLd (x y:Int) (hy:y≠0):mkRat (sg (!(decide (x < 0)==decide (y < 0))) x.natAbs) y.natAbs=(x:Rat) / (y:Rat):=by
  have hyr:(y:Rat)≠0:=by intro h; exact hy (Rat.intCast_inj.1 h)
  have hd:=zCb (x:Rat) (y:Rat) hyr
  rw[Rat.num_intCast,Rat.num_intCast,Rat.den_intCast,Rat.den_intCast,Nat.one_mul] at hd
  rw[← hd]
  congr 1
  by_cases h1:x < 0<;>by_cases h2:y < 0
  · rw[decide_eq_true h1,decide_eq_true h2]; simp only[sg,beq_self_eq_true,Bool.not_true,cond_true,cond_false]; omega
  · rw[decide_eq_true h1,decide_eq_false h2]; simp[sg]; omega
  · rw[decide_eq_false h1,decide_eq_true h2]; simp[sg]; omega
  · rw[decide_eq_false h1,decide_eq_false h2]; simp only[sg,beq_self_eq_true,Bool.not_true,cond_false]; omega
theorem zDX {x y:Int} (hx:(dg x.natAbs).length≤60) (hy:(dg y.natAbs).length≤60) (h0:y≠0):zfa (bg x) (bg y)=some (ro (chk ((x:Rat) / (y:Rat)))):=by
  unfold zfa
  rw[zr0 hx,Option.bind_some,zr0 hy,Option.bind_some]
  simp only[Bool.not_true,cond_false]
  show cond (((dg y.natAbs).length:Int)==0) _ ((zfD (!(decide (x < 0)==decide (y < 0))) (dg x.natAbs)).bind fun r2=>(zfE r2 (dg y.natAbs)).bind _)=_
  rw[zhA,decide_eq_false (show ¬ y.natAbs=0 by omega),cond_false,zrW,Option.bind_some,zrY (by omega) (by rw[zkC]; omega) (by omega),Option.bind_some,zLd x y h0,zmk (zKl (zpP _)),Option.bind_some]
theorem zzE {x y:Int} (h1 : -9223372036854775808≤x) (h2:x≤9223372036854775807) (h3 : -9223372036854775808≤y) (h4:y≤9223372036854775807) (h0:y≠0):zgt x y=some (ro (chk ((x:Rat) / (y:Rat)))):=by
  unfold zgt
  have:=zva h1 h2
  have:=zva h3 h4
  rw[zoZ h1 h2,Option.bind_some,zoZ h3 h4,Option.bind_some,zDX (by omega) (by omega) h0,Option.bind_some]
theorem zvh {n:Int} (h1 : -9223372036854775808≤n) (h2:n≤9223372036854775807):zdN n=some (ro (some (n:Rat))):=by
  unfold zdN
  rw[zzE h1 h2 (by omega) (by omega) (by omega),Option.bind_some]
  have:(n:Rat) / ((1:Int):Rat)=(n:Rat):=by
    rw[Rat.intCast_one,Rat.div_def,Rat.inv_eq_of_mul_eq_one (a:=1) (b:=1) (Rat.mul_one 1),Rat.mul_one]
  rw[this,zgz (zvo h1 h2)]
theorem zlg {n:Int} (h1 : -9223372036854775808≤n) (h2:n≤9223372036854775807):zbL n=some (ro (some (n:Rat))):=by
  unfold zbL
  rw[zvh h1 h2]; rfl
theorem zke {n:Int} (h1 : -9223372036854775808≤n) (h2:n≤9223372036854775807):zba n=some (ro (some (n:Rat))):=by
  unfold zba
  rw[zyV h1 h2,Option.bind_some]
  exact congrArg some (zNO n).symm
end Go.Di
namespace Go.Di
/-! ### Names -/
/-! ### Stations,matrices -/
def zmt (r:Rt):Bool:=pB (Good r)
theorem zyU {l:List Rt} (h:zmJ Rt.fit l):whileO zbn (l,(l.length:Int),0,())=some (cond (l.all zmt) (.inr ()) (.inl (false,()))):=by
  have key:=all_loopE (S:=zbn) (fun i=>(l,(l.length:Int),(i:Int),())) l.length (atB zmt l) () (fun i hi=>by
    simp only[zbn,dlt hi,cond_true,zaH hi,Option.bind_some,spec_ratOk (h.2 _ (List.getElem_mem hi)),zar hi h.1,zmp zmt hi,zmt]
    cases pB (Good l[i])<;>rfl) (by simp[zbn])
  rw[zg0] at key; exact key
theorem zzF {l:List Rt} (h:zmJ Rt.fit l):whileO zbw (l,(l.length:Int),0,())=some (cond (l.all zmt) (.inr ()) (.inl (false,()))):=by
  have key:=all_loopE (S:=zbw) (fun i=>(l,(l.length:Int),(i:Int),())) l.length (atB zmt l) () (fun i hi=>by
    simp only[zbw,dlt hi,cond_true,zaH hi,Option.bind_some,impl_ratOk (h.2 _ (List.getElem_mem hi)),zar hi h.1,zmp zmt hi,zmt]
    cases pB (Good l[i])<;>rfl) (by simp[zbw])
  rw[zg0] at key; exact key
def inB (n lo hi:Int):Bool:=decide (n ≥ lo) && decide (n≤hi)
theorem zA9 (n lo hi:Int):zdu n lo hi=some (inB n lo hi):=by
  unfold zdu inB; cases decide (n ≥ lo)<;>rfl
theorem zwI (n:Int):zdx n=some (inB n 0 24):=by
  unfold zdx inB; cases decide (n ≥ 0)<;>rfl
def mxB (m:Mx):Bool:=inB m.rows 0 24 && (inB m.cols 0 24 && (((m.cells.length:Int)==IntKind.i64.wrap (m.rows * m.cols)) && m.cells.all zmt))
theorem zm1 {m:Mx} (h:zmJ Rt.fit m.cells):zex m=some (mxB m):=by
  unfold zex mxB zg8
  refine chain (zA9 ..) (chain (zA9 ..) ?_)
  rw[show ((m.cells.length:Int) != IntKind.i64.wrap (m.rows * m.cols))=!((m.cells.length:Int)==IntKind.i64.wrap (m.rows * m.cols)) from rfl]
  refine zsF ?_
  rw[zyU h]
  cases m.cells.all zmt<;>rfl
theorem znD {m:Mx} (h:zmJ Rt.fit m.cells):zdz m=some (mxB m):=by
  unfold zdz mxB zhe
  refine chain (zwI _) (chain (zwI _) ?_)
  rw[show ((m.cells.length:Int) != IntKind.i64.wrap (m.rows * m.cols))=!((m.cells.length:Int)==IntKind.i64.wrap (m.rows * m.cols)) from rfl]
  refine zsF ?_
  rw[zzF h]
  cases m.cells.all zmt<;>rfl
/-! ### Networks -/
end Go.Di
namespace Go.Di
def upto (k:Int) (n:Nat):List Int:=(List.range n).map fun (i:Nat)=>k+(i:Int)
@[simp] theorem zGr (k:Int) (n:Nat):(upto k n).length=n:=by simp[upto]
theorem upto_at {k:Int} {n i:Nat} (h:i < n):(upto k n)[i]'(by simpa using h)=k+i:=by simp[upto]
theorem upto_succ (k:Int) (n:Nat):upto k (n+1)=upto k n++[k+n]:=by simp[upto,List.range_succ]
theorem zrt {a:List Int} {k:Int} (ha:a.length≤1048576) (h0:0≤k) (h1:k≤1000000000000):zcu a k=some (k+a.length,upto k a.length):=by
  unfold zcu zfs
  have key:=whileO_upto zbi (fun i=>(k+(i:Int),(i:Int),upto k i++a.drop i,())) a.length (k+(a.length:Int),upto k a.length,()) (fun i hi=>by
    have hl:(upto k i++a.drop i).length=a.length:=by simp; omega
    have hlt:decide ((i:Int) < ((upto k i++a.drop i).length:Int))=true:=by rw[hl]; exact dlt hi
    have hi':i < (upto k i++a.drop i).length:=by rw[hl]; exact hi
    have e1:IntKind.i64.wrap (k+(i:Int)+1)=k+((i+1:Nat):Int):=by rw[wrap_i64 (by omega) (by omega)]; omega
    simp only[zbi,hlt,cond_true,zaH hi',Option.bind_some,e1,zar hi ha,Int.toNat_natCast]
    congr 4
    rw[upto_succ,List.set_append_right _ _ (by simp),zGr,Nat.sub_self,List.drop_eq_getElem_cons hi,List.set_cons_zero,List.append_assoc]
    rfl) (by simp[zbi])
  simp only[Int.natCast_zero,Int.add_zero] at key
  rw[show upto k 0++a.drop 0=a by simp[upto]] at key
  rw[key]; rfl
theorem zr6 {k:Int} {n:Nat} (hn:n≤1048576) (h0:0≤k) (h1:k≤1000000000000):zdw (upto k n) k=some (k+n):=by
  unfold zdw zha
  have key:=whileO_upto zb4 (fun i=>(upto k n,k+(i:Int),(i:Int),())) n (.inr (k+(n:Int),())) (fun i hi=>by
    have hi':i < (upto k n).length:=by simpa using hi
    have hlt:decide ((i:Int) < ((upto k n).length:Int))=true:=dlt hi'
    have e1:IntKind.i64.wrap (k+(i:Int)+1)=k+((i+1:Nat):Int):=by rw[wrap_i64 (by omega) (by omega)]; omega
    have e2:((upto k n)[i] != k+(i:Int))=false:=by rw[upto_at hi]; simp
    simp only[zb4,hlt,cond_true,zaH hi',Option.bind_some,e1,zar hi hn,e2,cond_false]) (by simp[zb4])
  simp only[Int.natCast_zero,Int.add_zero] at key
  rw[key]; rfl
theorem zPN {x:Int} (h:0≤x):decide (x < 0)=false:=decide_eq_false (by omega)
theorem zMR (x:Int):(x != x)=false:=by simp
end Go.Di
namespace Go.Di
end Go.Di
namespace Go.Di
theorem zBc (o:Option Rat):zfy (ro o)=some o.isNone:=by unfold zfy; rw[zwV]
theorem zBb {o p:Option Rat} (ho:Oks o) (hp:Oks p):zeq (ro o) (ro p)=some (ro (divO o p)):=by
  unfold zeq
  have hom:=zna ho
  have hpm:=zna hp
  have hod:=zkF ho
  have hpd:=zkF hp
  cases o with
  | none =>
    obtain ⟨m,d,e1,e2⟩:∃ m d:Nat,(ro p).mag=dg m∧(ro p).den=dg d:=by
      cases p with
      | none=>exact ⟨0,0,zaB.symm,zaB.symm⟩
      | some r=>exact ⟨_,_,rfl,rfl⟩
    rw[e1] at hpm; rw[e2] at hpd
    rw[zeR,e1,e2]
    rw[zcl (by rw[zaB]; simp) (by omega),Option.bind_some,zcl (by rw[zaB]; simp) (by omega),Option.bind_some,Nat.zero_mul,Nat.zero_mul,zgI (by rw[zaB]; simp),Option.bind_some]; rfl
  | some q =>
    have fq:=ho q rfl
    cases p with
    | none =>
      rw[zeR]
      show ((zat (dg q.num.natAbs) (dg 0)).bind fun r1=>(zat (dg q.den) (dg 0)).bind _)=_
      rw[zcl (by have:=fq.1; omega) (by rw[zaB]; simp),Option.bind_some,zcl (by have:=fq.2; omega) (by rw[zaB]; simp),Option.bind_some,Nat.mul_zero,Nat.mul_zero,zgI (by rw[zaB]; simp),Option.bind_some]; rfl
    | some r =>
      have fr:=hp r rfl
      have h3:=zeQ fq.2 fr.1
      have h4:=zeQ fq.1 fr.2
      show ((zat (dg q.num.natAbs) (dg r.den)).bind fun r1=>(zat (dg q.den) (dg r.num.natAbs)).bind fun r2=>(zaO (!(decide (q.num < 0)==decide (r.num < 0))) r1 r2).bind _)=_
      rw[zcl (by have:=fq.1; omega) (by have:=fr.2; omega),Option.bind_some,zcl (by have:=fq.2; omega) (by have:=fr.1; omega),Option.bind_some]
      by_cases h0:r=0
      · have:r.num.natAbs=0:=by rw[h0]; rfl
        rw[this,Nat.mul_zero,zgI (by omega),Option.bind_some]
        simp[divO,h0]
      · have hn:r.num.natAbs≠0:=fun h=>h0 (Rat.num_eq_zero.1 (by omega))
        rw[zmA (Nat.mul_ne_zero q.den_nz hn) (by omega) (by omega),Option.bind_some]
        have hs:=zBD q.num (sg (decide (r.num < 0)) r.den)
        rw[zkC,zwf r.den_nz] at hs
        rw[hs,zCb q r h0]
        simp[divO,h0]
/-! ### Signs -/
/-! ### Rounded down -/
/-! ### Roots of fractions -/
/-! ### Readings -/
end Go.Di
namespace Go.Di
/-! ### Marks on lists -/
def ws {α:Type} (w:α→Nat) (l:List α):Nat:=(l.map w).sum
theorem zAR {α:Type} (w:α→Nat) (l:List α) {i:Nat} (h:i < l.length):ws w (l.take (i+1))=ws w (l.take i)+w l[i]:=by
  unfold ws
  rw[List.take_succ_eq_append_getElem h,List.map_append,List.sum_append]; simp
theorem zNv {α:Type} (w:α→Nat) (l:List α) (i:Nat):ws w (l.take i)≤ws w l:=by
  have:ws w l=ws w (l.take i)+ws w (l.drop i):=by
    unfold ws
    rw[← List.sum_append,← List.map_append,List.take_append_drop]
  omega
theorem zIV {α:Type} (w:α→Nat) (l:List α):ws w (l.take l.length)=ws w l:=by rw[List.take_length]
def zfp {α:Type} (mk:Int→α→α) (w:α→Nat) (k:Int) (a:List α) (i:Nat):List α:=a.mapIdx fun j x=>if j < i then mk (k+(ws w (a.take j):Nat)) x else x
def marks {α:Type} (mk:Int→α→α) (w:α→Nat) (k:Int) (a:List α):List α:=zfp mk w k a a.length
theorem zkl {α:Type} (mk:Int→α→α) (w:α→Nat) (k:Int) (a:List α) (i:Nat):(zfp mk w k a i).length=a.length:=by simp[zfp]
theorem zrQ {α:Type} (mk:Int→α→α) (w:α→Nat) (k:Int) (a:List α):(marks mk w k a).length=a.length:=zkl ..
theorem zro {α:Type} (mk:Int→α→α) (w:α→Nat) (k:Int) (a:List α):zfp mk w k a 0=a:=by
  apply List.ext_getElem?
  intro j
  simp only[zfp,List.getElem?_mapIdx,Nat.not_lt_zero,if_false]
  cases a[j]? <;> rfl
theorem zy7 {α:Type} (mk:Int→α→α) (w:α→Nat) (k:Int) (a:List α) {i:Nat} (h:i < a.length):(zfp mk w k a i)[i]? = some a[i]:=by
  simp[zfp,h]
theorem zrp {α:Type} (mk:Int→α→α) (w:α→Nat) (k:Int) (a:List α) {i:Nat} (h:i < a.length) :
    (zfp mk w k a i).set i (mk (k+(ws w (a.take i):Nat)) a[i])=zfp mk w k a (i+1):=by
  apply List.ext_getElem?
  intro j
  rw[List.getElem?_set]
  simp only[zfp,List.getElem?_mapIdx,List.length_mapIdx]
  by_cases hj:i=j
  · subst hj; simp[h]
  · rw[if_neg hj]
    by_cases hlt:j < i
    · simp[hlt,show j < i+1 by omega]
    · simp[hlt,show ¬ j < i+1 by omega]
theorem zGb {α:Type} (mk:Int→α→α) (w:α→Nat) (k:Int) (a:List α) {i:Nat} (h:i < a.length):(marks mk w k a)[i]? = some (mk (k+(ws w (a.take i):Nat)) a[i]):=by
  simp[marks,zfp,h]
theorem zrr {α:Type} {mk:Int→α→α} {w:α→Nat} {S:Int × Int × List α × Unit→Option ((Int × Int × List α × Unit) ⊕ (Int × List α × Unit))} {a:List α} {k:Int} {B:Int} (h0:0≤k) (hB:k+(ws w a:Nat)≤B)
    (hS:∀ (i:Nat) (K:Int) (c:List α) (h:i < a.length),0≤K→K≤B→c.length=a.length→c[i]? = some a[i]→S (K,(i:Int),c,())=some (.inl (K+(w a[i]:Nat),((i+1:Nat):Int),c.set i (mk K a[i]),())))
    (hE:∀ K c,c.length=a.length→S (K,(a.length:Int),c,())=some (.inr (K,c,()))):whileO S (k,0,a,())=some (k+(ws w a:Nat),marks mk w k a,()):=by
  have key:=whileO_upto S (fun i=>(k+(ws w (a.take i):Nat),(i:Int),zfp mk w k a i,())) a.length (k+(ws w a:Nat),marks mk w k a,()) (fun i hi=>by
    have hle:=zNv w a i
    rw[hS i _ _ hi (by omega) (by omega) (zkl ..) (zy7 _ _ _ _ hi),zrp _ _ _ _ hi,zAR w a hi]
    congr 3
    omega) (by
    rw[hE _ _ (zkl ..),zIV]; rfl)
  rw[zro] at key
  have h0:ws w (a.take 0)=0:=by simp[ws]
  rw[h0] at key
  simpa using key
theorem zr5 {α:Type} {mk:Int→α→α} {w:α→Nat} {S:List α × Int × Int × Unit→Option ((List α × Int × Int × Unit) ⊕ ((Int × Unit) ⊕ (Int × Unit)))} {a:List α} {k:Int} {B:Int} (h0:0≤k) (hB:k+(ws w a:Nat)≤B)
    (hS:∀ (i:Nat) (K:Int) (c:List α) (h:i < a.length),0≤K→K≤B→c.length=a.length→c[i]? = some (mk K a[i])→S (c,K,(i:Int),())=some (.inl (c,K+(w a[i]:Nat),((i+1:Nat):Int),())))
    (hE:∀ K c,c.length=a.length→S (c,K,(a.length:Int),())=some (.inr (.inr (K,())))):whileO S (marks mk w k a,k,0,())=some (.inr (k+(ws w a:Nat),())):=by
  have key:=whileO_upto S (fun i=>(marks mk w k a,k+(ws w (a.take i):Nat),(i:Int),())) a.length (.inr (k+(ws w a:Nat),())) (fun i hi=>by
    have hle:=zNv w a i
    rw[hS i _ _ hi (by omega) (by omega) (zrQ ..) (zGb _ _ _ _ hi),zAR w a hi]
    congr 4
    omega) (by
    rw[hE _ _ (zrQ ..),zIV])
  have h0:ws w (a.take 0)=0:=by simp[ws]
  rw[h0] at key
  simpa using key
theorem znH {α:Type} {c:List α} {i:Nat} {x:α} (h:c[i]? = some x):idx c (i:Int)=some x:=by rw[zht]; exact h
theorem lt_of_get {α:Type} {c:List α} {i:Nat} {x:α} (h:c[i]? = some x):i < c.length:=(List.getElem?_eq_some_iff.1 h).1
theorem zD6 {α:Type} {c:List α} {i:Nat} (h:i < c.length) (x:α):(c.set i x)[i]? = some x:=List.getElem?_set_self h
theorem zMx {α:Type} {c:List α} {i:Nat} (h:i < c.length) (x:α):idx (c.set i x) (i:Int)=some x:=znH (zD6 h x)
/-! ### Fractions -/
def wR (r:Rt):Nat:=1+r.mag.length+r.den.length
def mkR (k:Int) (r:Rt):Rt:=⟨(k.tmod 3)==0,upto (k+1) r.mag.length,upto (k+1+r.mag.length) r.den.length⟩
theorem zAS (l:List Rt):ws wR l=lsz Rt.sz l:=by
  unfold ws lsz
  induction l with
  | nil=>rfl
  | cons r l ih=>simp only[List.map_cons,List.sum_cons,List.length_cons,ih]; unfold wR Rt.sz; omega
theorem zwR {l:List Rt} (h:zmJ Rt.fit l) {i:Nat} (hi:i < l.length):l[i].fit:=h.2 _ (List.getElem_mem hi)
theorem zrq {a:List Rt} (ha:zmJ Rt.fit a) (hw:ws wR a≤1000000000) {k:Int} (h0:0≤k) (h1:k≤1000000000):zct a k=some (k+(ws wR a:Nat),marks mkR wR k a):=by
  unfold zct zfr
  rw[zrr (mk:=mkR) (w:=wR) (B:=2000000000) h0 (by omega) (fun i K c hi q0 q1 hl hc=>?_) (fun K c hl=>by simp[zbU,hl])]
  · rfl
  · have hlt:=lt_of_get hc
    have hf:=zwR ha hi
    have f1:=hf.1
    have f2:=hf.2
    have e1:IntKind.i64.wrap (K+1)=K+1:=wrap_i64 (by omega) (by omega)
    simp only[zbU,dlt hlt,cond_true,znH hc,Option.bind_some,Int.toNat_natCast,hc,zMx hlt,zD6 hlt,List.set_set,e1,
      zrt f1 (show 0≤K+1 by omega) (by omega),zrt f2 (show 0≤K+1+(a[i].mag.length:Int) by omega) (by omega),zar hi ha.1]
    congr 3
    unfold wR; omega
theorem zD2 {a:List Rt} (ha:zmJ Rt.fit a) (hw:ws wR a≤1000000000) {k:Int} (h0:0≤k) (h1:k≤1000000000):zeC (marks mkR wR k a) k=some (k+(ws wR a:Nat)):=by
  unfold zeC zg9
  rw[zr5 (mk:=mkR) (w:=wR) (B:=2000000000) h0 (by omega) (fun i K c hi q0 q1 hl hc=>?_) (fun K c hl=>by simp[zcJ,hl])]
  · rfl
  · have hlt:=lt_of_get hc
    have hf:=zwR ha hi
    have f1:=hf.1
    have f2:=hf.2
    have e1:IntKind.i64.wrap (K+1)=K+1:=wrap_i64 (by omega) (by omega)
    simp only[zcJ,dlt hlt,cond_true,znH hc,Option.bind_some,e1,mkR,beq_self_eq_true,Bool.not_true,cond_false,
      zr6 f1 (show 0≤K+1 by omega) (by omega),zr6 f2 (show 0≤K+1+(a[i].mag.length:Int) by omega) (by omega),zar hi ha.1,
      zPN (show 0≤K+1+(a[i].mag.length:Int) by omega),zPN (show 0≤K+1+(a[i].mag.length:Int)+(a[i].den.length:Int) by omega)]
    congr 4
    unfold wR; omega
theorem zLs {m:Mx} (ha:zmJ Rt.fit m.cells) (hw:ws wR m.cells≤1000000000) {k:Int} (h0:0≤k) (h1:k≤1000000000):zcE m k=some (k+(ws wR m.cells:Nat),marks mkR wR k m.cells):=by
  unfold zcE
  rw[zrq ha hw h0 h1]; rfl
/-! ### Loops that append -/
theorem zmW {β σ ρ:Type} {S:σ→Option (σ ⊕ ρ)} (st:Int→List β→σ) (g:Nat→β) (n:Nat) {r:List β→ρ}
    (hS:∀ (i:Nat) out,i < n→out.length=i→S (st (i:Int) out)=some (.inl (st ((i+1:Nat):Int) (out++[g i])))) (hE:∀ out,out.length=n→S (st (n:Int) out)=some (.inr (r out))) :
    whileO S (st 0 [])=some (r ((List.range n).map g)):=by
  have key:=whileO_upto S (fun i=>st (i:Int) ((List.range i).map g)) n (r ((List.range n).map g)) (fun i hi=>by
    rw[hS i _ hi (by simp),List.range_succ,List.map_append]; rfl) (hE _ (by simp))
  simpa using key
theorem zre {α:Type} (l:List α) (d:α):(List.range l.length).map (fun i=>(l[i]?).getD d)=l:=by
  apply List.ext_getElem?
  intro j
  rw[List.getElem?_map]
  by_cases h:j < l.length
  · rw[List.getElem?_range h]; simp[h]
  · rw[List.getElem?_eq_none (by simpa using h),List.getElem?_eq_none (by omega)]; rfl
theorem zmr {n:Nat} (h:n≤2000000):zak (Nat.ble (n+1) zan)=some ():=by
  have:Nat.ble (n+1) zan=true:=Nat.ble_eq_true_of_le (by unfold zan; omega)
  rw[this]; rfl
theorem zrZ {l:List Rt} (h:zmJ Rt.fit l):zb7 l=some l:=by
  unfold zb7 zge
  have h1:=h.1
  rw [zmW (S:=zbu) (fun i out=>(l,(l.length:Int),i,out,())) (fun i=>(l[i]?).getD ⟨false,[],[]⟩) l.length (r:=fun out=>(out,())) (fun i out hi ho=>by
    have hg:l[i]? = some l[i]:=List.getElem?_eq_getElem hi
    simp only[zbu,dlt hi,cond_true,zaH hi,Option.bind_some,zmk (zwR h hi),zmr (show out.length≤2000000 by omega),zar hi h.1,hg,Option.getD_some]) (fun out _=>by simp[zbu]),zre]
  rfl
theorem zq2 {l:List Rt} (h:zmJ Rt.fit l):ze8 l=some l:=by
  unfold ze8 zhZ
  have h1:=h.1
  rw [zmW (S:=zcj) (fun i out=>(l,(l.length:Int),i,out,())) (fun i=>(l[i]?).getD ⟨false,[],[]⟩) l.length (r:=fun out=>(out,())) (fun i out hi ho=>by
    have hg:l[i]? = some l[i]:=List.getElem?_eq_getElem hi
    simp only[zcj,dlt hi,cond_true,zaH hi,Option.bind_some,zq3 (zwR h hi),zmr (show out.length≤2000000 by omega),zar hi h.1,hg,Option.getD_some]) (fun out _=>by simp[zcj]),zre]
  rfl
/-! ### Valid vectors -/
def Fits (q:List Rat):Prop:=∀ x∈q,Fit x
theorem zD5:∀ {l:List Rt},l.all zmt=true→∃ q:List Rat,Fits q∧l=q.map rq
  | [],_=>⟨[],fun x h=>(by cases h),rfl⟩
  | r :: l,h=>by
    rw[List.all_cons,Bool.and_eq_true] at h
    obtain ⟨q,hq,rfl⟩:=zD5 h.2
    obtain ⟨x,hx,rfl⟩:=pB_iff.1 h.1
    exact ⟨x :: q,fun y hy=>by
      rcases List.mem_cons.1 hy with rfl | hy
      · exact hx
      · exact hq y hy,rfl⟩
theorem Fits.get {q:List Rat} (h:Fits q) (i:Nat):Oks q[i]? := fun x hx=>h x (List.mem_of_getElem? hx)
theorem zP3 {q:Rat} (h:Fit q):(rq q).sz≤48:=by
  have:=h.1
  have:=h.2
  show (dg q.num.natAbs).length+(dg q.den).length≤48
  omega
theorem zNP {o:Option Rat} (h:Oks o):(ro o).sz≤48:=by
  cases o with
  | none=>show 0+0≤48; omega
  | some q=>exact zP3 (h q rfl)
structure Rfit (l:List Rt):Prop where
  fit:zmJ Rt.fit l
  few:ws wR l≤1000000000
theorem zwl {l:List Rt} (h:lsz Rt.sz l≤1048576):Rfit l:=⟨zLE (f:=Rt.sz) (fun _=>Rt.znM) h,by rw[zAS]; omega⟩
theorem zru {l:List Rt} (h:∀ x∈l,x.sz≤48) (n:Nat) (hn:l.length≤n):lsz Rt.sz l≤49 * n:=by
  have : (l.map Rt.sz).sum≤48 * l.length:=by
    clear hn
    induction l with
    | nil=>simp
    | cons r l ih =>
      have h1:=ih fun x hx=>h x (List.mem_cons_of_mem _ hx)
      have h2:=h r (List.mem_cons_self ..)
      simp only[List.map_cons,List.sum_cons,List.length_cons]; omega
  unfold lsz; omega
theorem zLi {l:List (Option Rat)} (h:∀ o∈l,Oks o) (hn:l.length≤20000):Rfit (l.map ro):=by
  refine zwl (Nat.le_trans (zru (n:=20000) (fun x hx=>?_) (by simpa using hn)) (by omega))
  obtain ⟨o,ho,rfl⟩:=List.mem_map.1 hx
  exact zNP (h o ho)
theorem zMy {l:List (Option Rat)} {i:Nat} (h:i < l.length):idx (l.map ro) (i:Int)=some (ro l[i]):=by
  rw[zht,List.getElem?_map,List.getElem?_eq_getElem h]; rfl
/-! ### Inner products -/
theorem zyL:zbL 0=some (ro (some 0)):=by
  have:=zlg (n:=0) (by omega) (by omega)
  simpa using this
theorem zNW (q:Rat):zc1 (rq q)=some (decide (q=0)):=by
  show some (((dg q.num.natAbs).length:Int)==0)=_
  rw[zhA]
  congr 1
  rw[Bool.eq_iff_iff,decide_eq_true_iff,decide_eq_true_iff,Int.natAbs_eq_zero,Rat.num_eq_zero]
theorem zkk (y:Rat):zms (some y) (some 0)=some 0:=by
  show chk (y * 0)=some 0
  rw[Rat.mul_zero,zgz ziX]
theorem zA6:ze7=some (ro (some 0)):=by
  unfold ze7
  have:=zke (n:=0) (by omega) (by omega)
  rw[this]; rfl
/-! ### Vectors without gaps -/
theorem zpZ {l:List (Option Rat)} (h:l.length≤1048576):za5 (l.map ro)=some (l.all Option.isSome):=by
  unfold za5 zhd
  have key:=all_loopE (S:=zb6) (fun i=>(l.map ro,((l.map ro).length:Int),(i:Int),())) l.length (atB Option.isSome l) () (fun i hi=>by
    have hi':i < (l.map ro).length:=by simpa using hi
    simp only[zb6,dlt hi',cond_true,zMy hi,Option.bind_some,zeg,zar hi h,zmp Option.isSome hi]
    cases l[i]<;>rfl) (by simp[zb6])
  rw[zg0] at key
  rw[show ((0:Nat):Int)=0 from rfl] at key
  rw[key]
  cases l.all Option.isSome<;>rfl
theorem zm2 {l:List (Option Rat)} (h:l.length≤1048576):zbC (l.map ro)=some (l.all Option.isSome):=by
  unfold zbC zhY
  have key:=all_loopE (S:=zci) (fun i=>(l.map ro,((l.map ro).length:Int),(i:Int),())) l.length (atB Option.isSome l) () (fun i hi=>by
    have hi':i < (l.map ro).length:=by simpa using hi
    simp only[zci,dlt hi',cond_true,zMy hi,Option.bind_some,zBc,zar hi h,zmp Option.isSome hi]
    cases l[i]<;>rfl) (by simp[zci])
  rw[zg0] at key
  rw[show ((0:Nat):Int)=0 from rfl] at key
  rw[key]
  cases l.all Option.isSome<;>rfl
end Go.Di
